/-
  The law Lineage, walked, and its statement.
-/
import Derived.Test.YtelkcohhagblaaaGreatSc02
import Derived.Test.YtelkcohhagblaaaGreatSc07
import Derived.Test.YtelkcohhagblaaaGreatSc08
import Derived.Test.YtelkcohhagblaaaGreatSc24
import Derived.Test.YtelkcohhagblaaaGreatSc26
import Derived.Test.YtelkcohhagblaaaGreatSc27
import Derived.Test.YtelkcohhagblaaaGreatSc35
import Derived.Test.YtelkcohhagblaaaGreatChecked
import Derived.ProofKit
import Derived.SizedLaws
import Derived.Lib.SmallJoins
import Derived.Deep.Slices
import Derived.Deep.Fields
import Derived.OpenShut
import Derived.Test.YtelkcohhagblaaaGreatSc44
import Derived.Test.YtelkcohhagblaaaGreatSc42
import Derived.Test.YtelkcohhagblaaaGreatSc37
import Derived.Test.YtelkcohhagblaaaGreatSc43
import Derived.Test.YtelkcohhagblaaaGreatRows
set_option linter.unusedSimpArgs false
set_option linter.unusedVariables false
set_option linter.unnecessarySimpa false
namespace Go.Proofs.YtelkcohhagblaaaGreat
open Go.RowKit
theorem BdsAt.nilAt (w : World) : BdsAt w none 0 0 [] := ⟨rfl, by simp, fun _ => ⟨rfl, rfl⟩, fun x h => by cases h⟩

theorem RowAt.nilAt (w : World) : RowAt w none 0 [] := ⟨fun _ => ⟨rfl, rfl⟩, fun x h => by cases h⟩

theorem IntsAt.nilAt (w : World) : IntsAt w none 0 0 [] := ⟨rfl, by simp, RowAt.nilAt w⟩

end Go.Proofs.YtelkcohhagblaaaGreat
namespace Go.Proofs.YtelkcohhagblaaaGreat
open Go Go.RowKit
theorem ItmsAt.nilAt (w : World) : ItmsAt w none 0 0 [] := ⟨rfl, by simp, RowAt.nilAt w, fun x hx => by cases hx⟩
end Go.Proofs.YtelkcohhagblaaaGreat
namespace Go.Proofs.YtelkcohhagblaaaGreat
open Go.RowKit Go.Shelf
set_option maxHeartbeats 4000000
set_option maxRecDepth 100000
def Cs.ask (c : Cs) (l : List Int) : Int := askE_w c.ware.data.toList c.lim c.byr c.ps l
end Go.Proofs.YtelkcohhagblaaaGreat
namespace Go.Proofs.YtelkcohhagblaaaGreat
open Go.RowKit Go.Shelf
set_option maxHeartbeats 4000000
set_option maxRecDepth 100000
theorem take_get {α : Type} [Inhabited α] {l : List α} {k : Nat} (hk : k < l.length) : l.take (k + 1) = l.take k ++ [l.getD k default] := by
 rw [List.take_succ_eq_append_getElem hk]
 simp [List.getD_eq_getElem?_getD, List.getElem?_eq_getElem hk]
end Go.Proofs.YtelkcohhagblaaaGreat
namespace Go.Proofs.YtelkcohhagblaaaGreat
open Go.RowKit Go.Shelf
theorem insI_len (x : Int) (l : List Int) : (insI x l).length ≤ l.length + 1 := by
 induction l with
 | nil => simp [insI]
 | cons y l ih =>
   unfold insI
   split
   ·simp; omega
   ·split <;> simp
def uniN (l : List Int) (k : Nat) : List Int := ascOf (l.take k)
theorem uniN_succ {l : List Int} {k : Nat} (hk : k < l.length) : uniN l (k + 1) = insI (l.getD k 0) (uniN l k) := by
 unfold uniN ascOf
 rw [take_get hk, List.foldl_append]
 rfl
theorem uniN_len (l : List Int) (k : Nat) : (uniN l k).length ≤ k := by
 induction k with
 | zero => simp [uniN, ascOf]
 | succ k ih =>
   rcases Nat.lt_or_ge k l.length with h | h
   ·rw [uniN_succ h]
    have := insI_len (l.getD k 0) (uniN l k)
    omega
   ·have : uniN l (k + 1) = uniN l k := by
     unfold uniN
     rw [List.take_of_length_le (by omega), List.take_of_length_le (by omega)]
    rw [this]; omega
theorem uniN_all (l : List Int) : uniN l l.length = ascOf l := by unfold uniN; rw [List.take_length]
end Go.Proofs.YtelkcohhagblaaaGreat
namespace Go.Proofs.YtelkcohhagblaaaGreat
open Go
theorem spareK_not {α : Type} (nd : List α → Bool) : ∀ (i : Nat) (rest : List α), nd rest = false → nd (spareK nd rest i) = false
 | 0, rest, h => h
 | i + 1, rest, h => by
   unfold spareK
   refine spareK_not nd i _ ?_
   split
   ·exact h
   ·rename_i h2; simpa using h2
end Go.Proofs.YtelkcohhagblaaaGreat
namespace Go.Proofs.YtelkcohhagblaaaGreat
open Go.RowKit Go.Shelf
set_option maxHeartbeats 40000000
set_option maxRecDepth 100000
theorem ascOf_len (l : List Int) : (ascOf l).length ≤ l.length := by rw [← uniN_all]; exact uniN_len l l.length

end Go.Proofs.YtelkcohhagblaaaGreat
namespace Go.Proofs
open Go.Shelf
def Tryz.delFA_ren : Go.Shelf.Ren := ⟨fun | 10 => 106 | 6 => 168 | n => n, fun | 22 => 61 | 23 => 3 | 25 => 37 | 3 => 3 | 4 => 4 | 0 => 0 | n => n, fun | n => n⟩
theorem Tryz.delFA : Go.Proofs.SlLaysH.n10 Tryz.prog Tryz.delFA_ren := {
 mixed := by kernel_rfl
 f6 := ⟨Tryz.f168.name, by decide, Tryz.func168.trans (congrArg some (by kernel_rfl))⟩
 f10 := ⟨Tryz.f106.name, by decide, Tryz.func106.trans (congrArg some (by kernel_rfl))⟩
 t0 := Tryz.underlying0
 a0 := Tryz.isAgg0
 z0 := Tryz.sizeOf0
 v0 := Tryz.zeroValue0
 t3 := Tryz.underlying3
 a3 := Tryz.isAgg3
 z3 := Tryz.sizeOf3
 v3 := Tryz.zeroValue3
 t4 := Tryz.underlying4
 a4 := Tryz.isAgg4
 z4 := Tryz.sizeOf4
 v4 := Tryz.zeroValue4
 t22 := Tryz.underlying61
 a22 := Tryz.isAgg61
 z22 := Tryz.sizeOf61
 v22 := Tryz.zeroValue61
 a23 := Tryz.isAgg3
 z23 := Tryz.sizeOf3
 t25 := Tryz.underlying37
 a25 := Tryz.isAgg37
 z25 := Tryz.sizeOf37
 v25 := Tryz.zeroValue37 }
end Go.Proofs
namespace Go.Proofs.YtelkcohhagblaaaGreat
theorem mem_pts {p j : Int} (h0 : 0 ≤ j) (h1 : j < p) : j ∈ (List.range p.toNat).map fun (i : Nat) => (i : Int) := List.mem_map.2 ⟨j.toNat, by simp; omega, by simp; omega⟩

/-- Where some list keeps all bounds, there is a solution. -/
theorem okB_of_keeps {p : Int} {bs : List Bd} (h : chk p bs = 0) {y : Int → Int} (hy : keepsB bs y) : okB p bs = true := by
 have hs := Sys.of_chk h
 have hp := hs.p2
 have hp1 := hs.p1
 obtain ⟨v, hv, hm⟩ := least_of (fun j => - y j) ((List.range p.toNat).map fun (i : Nat) => (i : Int)) (by
  intro e
  have := mem_pts (p := p) (j := 0) (by omega) (by omega)
  rw [e] at this
  simp at this)
 refine BF.settles hp hs.inr hy (Pts.of_chk h) (p + 1).toNat ((List.range p.toNat).map fun (i : Nat) => (i : Int)) (- y v) ⟨List.replicate 60 0, List.replicate 60 (-1), 0⟩ (by simp; omega) ⟨fun j hj => hj, fun j j0 j1 hj => ?_, fun j j0 j1 hj hf => ?_, fun j _ _ a b => absurd a b, fun b hb hf => ?_⟩ (by simp)
 ·exact absurd (mem_pts j0 j1) hj
 ·have := hm j hj
  simp only at this ⊢
  rw [gi_zeros]
  omega
 ·obtain ⟨q0, q1, _⟩ := Pts.of_chk h b hb
  exact absurd (mem_pts q0 q1) hf

theorem okB_sub {p : Int} {bs cs : List Bd} (h : chk p bs = 0) (hok : okB p bs = true) (h1 : ∀ b ∈ cs, b ∈ bs) (h2 : cs.length ≤ bs.length) : okB p cs = true :=
 okB_of_keeps (chk_sub h h1 h2) (fun b hb => okB_keeps (Sys.of_chk h) hok b (h1 b hb))

/-- With more bounds greatest differences do not become greater. -/
theorem gD_mono {p : Int} {bs T : List Bd} (hs : Sys p bs) (h : chk p T = 0) (hok : okB p T = true) (hsub : ∀ b ∈ bs, b ∈ T) {a c : Int} (a0 : 0 ≤ a) (a1 : a < p) (c0 : 0 ≤ c) (c1 : c < p) (hac : gD p bs a c < FAR) :
 gD p T a c < FAR ∧ gD p T a c ≤ gD p bs a c := by
 have hp := hs.p2
 have key := settle_inv (Q := fun r => ∀ j : Int, 0 ≤ j → j < 60 → gi r j < FAR → gD p T a j < FAR ∧ gD p T a j ≤ gi r j) hs.inr (fun r x hl hx hq ho j j0 j1 hj => by
  obtain ⟨o1, o2⟩ := opens_iff.1 ho
  have hxi := hs.inr x hx
  rw [gi_set hxi.t0 (by have := hxi.t0; have := hxi.t1; omega) j0] at hj ⊢
  by_cases e : j = x.tow
  ·rw [if_pos e] at hj ⊢
   subst e
   have h1 := hq x.frm hxi.f0 hxi.f1 o1
   have h2 := gfrom_still h hok a0 a1 (hsub x hx) h1.1
   exact ⟨h2.2, by omega⟩
  ·rw [if_neg e] at hj ⊢
   exact hq j j0 j1 hj) (p + 1).toNat ⟨far0 a, List.replicate 60 (-1), 0⟩ (far0_len a) (fun j j0 j1 hj => by
  have e := gi_far0 (a := a) (j := j) a0 (by omega) j0 j1
  simp only at hj ⊢
  rw [e] at hj ⊢
  by_cases ej : j = a
  ·rw [if_pos ej, ej, gD_self (Sys.of_chk h) hok a0 a1]
   unfold FAR
   omega
  ·rw [if_neg ej] at hj
   exact absurd hj (Int.lt_irrefl _))
 exact key c c0 (by omega) hac

end Go.Proofs.YtelkcohhagblaaaGreat
namespace Go.Proofs.YtelkcohhagblaaaGreat
theorem gD_sub {p : Int} {S T : List Bd} (h : Sub S T) (hc : chk p T = 0) (hok : okB p T = true) {x y : Int} (x0 : 0 ≤ x) (x1 : x < p) (y0 : 0 ≤ y) (y1 : y < p) : gD p T x y ≤ gD p S x y := by
 by_cases hf : gD p S x y < FAR
 ·exact (gD_mono (Sys.of_chk (h.chk hc)) hc hok h.1 x0 x1 y0 y1 hf).2
 ·have := (gD_range (Sys.of_chk hc) x0 x1 y0 y1).2
  omega
end Go.Proofs.YtelkcohhagblaaaGreat
namespace Go.Proofs.YtelkcohhagblaaaGreat
open Go
theorem way_ok {l : List Itm} {day id fr tw : Int} (h : wayE l day id fr tw = 0) : WayOk l day id fr tw := by
 unfold wayE at h
 split at h
 ·rename_i h0
  split at h
  ·rename_i h1
   split at h
   ·rename_i h2
    exact ⟨look_ok h0, h1.1, h1.2.1, h1.2.2, h2⟩
   ·omega
  ·omega
 ·contradiction
theorem WayOk.ask {l : List Itm} {day id fr tw : Int} (h : WayOk l day id fr tw) : askE (wayP l day id) (wayB l day id) fr tw = 0 ∧ askE (wayP l day id) (wayB l day id) tw fr = 0 := by
 obtain ⟨h0, h1, h2, h3, h4⟩ := h
 have hp : wayP l day id = (lookS l day id).co + 1 := rfl
 exact ⟨askE_in h0.ways h4 (by omega) (by omega) (by omega) (by omega), askE_in h0.ways h4 (by omega) (by omega) (by omega) (by omega)⟩
theorem wayK_iff {l : List Itm} {day id fr tw : Int} : wayK l day id fr tw = true ↔ WayOk l day id fr tw ∧ gD (wayP l day id) (wayB l day id) fr tw < FAR := by
 unfold wayK
 rw [Bool.and_eq_true, decide_eq_true_eq]
 constructor
 ·rintro ⟨h1, h2⟩
  have hw := way_ok h1
  refine ⟨hw, ?_⟩
  unfold grB at h2
  simp only [decide_eq_true_eq] at h2
  have hp : wayP l day id = (lookS l day id).co + 1 := rfl
  have := (gD_range (Sys.of_chk hw.look.ways) (x := fr) (y := tw) hw.pf (by have := hw.pl; have := hw.pt; omega) (by have := hw.pf; have := hw.pl; omega) (by have := hw.pt; omega)).2
  omega
 ·rintro ⟨hw, h2⟩
  refine ⟨WayOk.e (lookE_of hw.look) hw.pf hw.pl hw.pt hw.ok, ?_⟩
  unfold grB
  simp only [decide_eq_true_eq]
  exact ⟨hw.ask.1, by omega⟩
theorem way_vals {l : List Itm} {day id fr tw : Int} (h : wayK l day id fr tw = true) : wayHi l day id fr tw = gD (wayP l day id) (wayB l day id) fr tw ∧ wayLo l day id fr tw = - gD (wayP l day id) (wayB l day id) tw fr := by
 obtain ⟨hw, h2⟩ := wayK_iff.1 h
 have h3 := hw.back
 unfold wayHi wayLo
 rw [if_pos h, if_pos h]
 unfold grN
 rw [if_pos ⟨hw.ask.1, by omega⟩, if_pos ⟨hw.ask.2, by omega⟩]
 exact ⟨rfl, rfl⟩
end Go.Proofs.YtelkcohhagblaaaGreat
namespace Go.Proofs.YtelkcohhagblaaaGreat
open Go
def colRestsL (l : List Itm) (day id : Int) : List Int := if colE l day id = 0 then ascOf ([(colR l day id).lob, (colR l day id).hib].filter fun n => n != 0) else []
end Go.Proofs.YtelkcohhagblaaaGreat
namespace Go.Proofs.YtelkcohhagblaaaGreat
open Go.RowKit Go.Shelf
set_option maxHeartbeats 8000000
set_option maxRecDepth 100000
theorem sSherdOf_any (a : Option Addr) (n cap : Nat) (l : List Itm) (day id : Int) (w : World) (h : ItmsAt w a n cap l) (hcap : l.length ≤ cap) :
 Calls Tryz.prog 50 #[.slice a n cap, .int .i64 day, .int .i64 id] w fun e w' => e = .returned (.tuple #[(lookZ l day id).v, .int .i64 (lookE l day id)]) ∧ Below w.heap.size w w' := by
 have hB0 := one_alloc w (Obj.cells #[.int .i64 0, .string ⟨#[]⟩, .int .i64 0, .int .i64 0, .int .i64 0, .bool false] 72)
 have hR0 := World.alloc_heap_new w (Obj.cells #[.int .i64 0, .string ⟨#[]⟩, .int .i64 0, .int .i64 0, .int .i64 0, .bool false] 72)
 have hL := slooked_any a n cap l day id _ (h.below hB0) hcap
 unfold LookPost at hL
 generalize lookR l day id = S at *
 generalize lookZ l day id = x at *
 generalize lookE l day id = E at *
 simp only [Shd.v, Shd.cs] at hL ⊢
 go_enter Tryz.func50, Tryz.ntmps50
 go_wp2_with (go_at_call 82; (with_reducible refine hL.mono ?_); rintro e w2 ⟨v, rfl, hb2, ho2⟩; obtain ⟨va, vc, rfl, _⟩ := owns_slice ho2; have hR2 := (hb2.block w.heap.size (by simp)).trans hR0; obtain ⟨q0, q1, q2, q3, q4, q5, qf, ql⟩ := cell6 hR2)
 have hB2 := hB0.ch2 hb2
 have hK6 := alKeep (o' := Obj.cells #[.int .i64 x.id, .string x.wa, .int .i64 x.pit, .int .i64 x.ly, .int .i64 x.co, .bool x.ft] 72) (SLG.heap_set6 hR2 (.int .i64 x.id) (.string x.wa) (.int .i64 x.pit) (.int .i64 x.ly) (.int .i64 x.co) (.bool x.ft))
 have HB2 := (hB2.trans ((SLG.chg_set6 (E := [w.heap.size]) (N := w.heap.size) w2 (by simp) (.int .i64 x.id) (.string x.wa) (.int .i64 x.pit) (.int .i64 x.ly) (.int .i64 x.co) (.bool x.ft)).belowE_w hB2.size (by simp))).ch2 (one_alloc _ (Obj.cells #[.int .i64 x.id, .string x.wa, .int .i64 x.pit, .int .i64 x.ly, .int .i64 x.co, .bool x.ft] 72))
 clear q0 q1 q2 q3 q4 q5 qf ql hR2 hR0 hb2 hB0 hB2 ho2 hL h
 obtain ⟨q0, q1, q2, q3, q4, q5, qf, ql⟩ := cell6 hK6
 clear hK6
 generalize ((((((w2.setCell ⟨w.heap.size, 0, none⟩ (.int .i64 x.id)).setCell ⟨w.heap.size, 1, none⟩ (.string x.wa)).setCell ⟨w.heap.size, 2, none⟩ (.int .i64 x.pit)).setCell ⟨w.heap.size, 3, none⟩ (.int .i64 x.ly)).setCell ⟨w.heap.size, 4, none⟩ (.int .i64 x.co)).setCell ⟨w.heap.size, 5, none⟩ (.bool x.ft)).alloc (Obj.cells #[.int .i64 x.id, .string x.wa, .int .i64 x.pit, .int .i64 x.ly, .int .i64 x.co, .bool x.ft] 72) = W at *
 exact bodyPost_ret (v := .tuple #[.agg #[.int .i64 x.id, .string x.wa, .int .i64 x.pit, .int .i64 x.ly, .int .i64 x.co, .bool x.ft], .int .i64 E]) (by simp [results, Tryz.results50, go_sem, q0, q1, q2, q3, q4, q5]) rfl ⟨rfl, HB2⟩
end Go.Proofs.YtelkcohhagblaaaGreat
namespace Go.Proofs.YtelkcohhagblaaaGreat
open Go.ChangeShapes Go.WideShapes Go.ChangeAt Go.RowKit Go.Joins Go.Deep
set_option maxRecDepth 100000
set_option maxHeartbeats 2000000
theorem Tryz.own : ownKnob Tryz.prog.godebug = none := by kernel_rfl
theorem Tryz.laidOut : laidOutB Tryz.prog = true := by kernel_rfl
theorem Tryz.cI : Tryz.prog.cellsOf 3 = 1 := by kernel_rfl
theorem Tryz.cU : Tryz.prog.cellsOf 5 = 1 := by kernel_rfl
theorem Tryz.cS : Tryz.prog.cellsOf 9 = 1 := by kernel_rfl
theorem Tryz.cB : Tryz.prog.cellsOf 4 = 1 := by kernel_rfl
theorem Tryz.cItem : Tryz.prog.cellsOf 24 = 16 := by kernel_rfl
theorem Tryz.bItem : Tryz.prog.bytesOf 24 = 144 := by kernel_rfl
theorem itm_add {b o : Nat} (k : Nat) : (⟨b, o, none⟩ : Addr).add k = ⟨b, o + k, none⟩ := by
 unfold Addr.add
 split
 ·rename_i h; subst h; simp
 ·rfl
theorem itm_where {W : World} {base : Nat} {t e : TypeId} {a : Addr} {n cap : Nat} (ht : Tryz.prog.underlying t = some (.slice e)) (hv : Value.okWide Tryz.prog W .any base t (.slice (some a) n cap)) : a.spot = none ∧ a.block < W.heap.size := by
 simp only [Value.okWide, ht, Cell.okWide, Cell.ok] at hv
 obtain ⟨_, _, _, hsp, row, cells, hsh, _⟩ := hv
 refine ⟨hsp, ?_⟩
 simp only [World.shape?] at hsh
 by_cases hlt : a.block < W.heap.size
 ·exact hlt
 ·rw [Array.getElem?_eq_none (by omega)] at hsh
  simp at hsh
theorem itm_slice {W : World} {base : Nat} {t e : TypeId} {v : Value} (ht : Tryz.prog.underlying t = some (.slice e)) (hv : Value.okWide Tryz.prog W .any base t v) : ∃ a n cap, v = .slice a n cap := by
 simp only [Value.okWide, ht, Cell.okWide, Cell.ok] at hv
 cases v <;> simp at hv
 exact ⟨_, _, _, rfl⟩
theorem u8_in {x : Int} (h : (Lit.int .u8 x).wf = true) : 0 ≤ x ∧ x ≤ 255 := by
 have h1 : IntKind.u8.min = 0 := by decide
 have h2 : IntKind.u8.max = 255 := by decide
 have h3 : (decide (IntKind.u8.min ≤ x) && decide (x ≤ IntKind.u8.max)) = true := h
 rw [h1, h2] at h3
 simpa using h3
section
variable {H : Type} {enc : TypeId × Value → H} {w : World} {base : Nat}
theorem int_cw {t : TypeId} {k : IntKind} {n i : Nat} {v : Value} {xs : List (DataW H × List MemPlace)} (ht : Tryz.prog.underlying t = some (.int k)) (h : DataW.trod enc Tryz.prog w base (fun _ => true) true n t [v] = xs[i]?) (hi : i < xs.length) : ∃ x, v = .int k x ∧ (Lit.int k x).wf = true := by
 rw [List.getElem?_eq_getElem hi] at h
 obtain ⟨x, e0, _, e2⟩ := DataW.trod_int ht h
 simp at e0
 exact ⟨x, e0, e2⟩
theorem str_cw {t : TypeId} {n i : Nat} {v : Value} {xs : List (DataW H × List MemPlace)} (ht : Tryz.prog.underlying t = some .string) (h : DataW.trod enc Tryz.prog w base (fun _ => true) true n t [v] = xs[i]?) (hi : i < xs.length) : ∃ x : ByteArray, v = .string x ∧ x.size ≤ maxLen := by
 rw [List.getElem?_eq_getElem hi] at h
 obtain ⟨x, e0, _, e2⟩ := DataW.trod_string ht h
 simp at e0
 exact ⟨x, e0, e2⟩
theorem bool_cw {t : TypeId} {n i : Nat} {v : Value} {xs : List (DataW H × List MemPlace)} (ht : Tryz.prog.underlying t = some .bool) (h : DataW.trod enc Tryz.prog w base (fun _ => true) true n t [v] = xs[i]?) (hi : i < xs.length) : ∃ x, v = .bool x := by
 rw [List.getElem?_eq_getElem hi] at h
 obtain ⟨x, e0, _⟩ := DataW.trod_bool ht h
 simp at e0
 exact ⟨x, e0⟩
theorem list16 {l : List Value} (h : l.length = 16) : ∃ c0 c1 c2 c3 c4 c5 c6 c7 c8 c9 c10 c11 c12 c13 c14 c15, l = [c0, c1, c2, c3, c4, c5, c6, c7, c8, c9, c10, c11, c12, c13, c14, c15] := by
 match l, h with
 | [c0, c1, c2, c3, c4, c5, c6, c7, c8, c9, c10, c11, c12, c13, c14, c15], _ => exact ⟨c0, c1, c2, c3, c4, c5, c6, c7, c8, c9, c10, c11, c12, c13, c14, c15, rfl⟩
/-- An item in its cells. -/
theorem item_cells {n : Nat} {cs : List Value} {y : DataW H × List MemPlace} (h : DataW.trod enc Tryz.prog w base (fun _ => true) true n 24 cs = some y) : ∃ x : Itm, cs = x.cs ∧ x.Wide := by
 obtain ⟨xs, m, rfl, rfl, hl, hxl, hf⟩ := DataW.trod_struct Tryz.underlying24 h
 rw [Tryz.cItem] at hl
 obtain ⟨c0, c1, c2, c3, c4, c5, c6, c7, c8, c9, c10, c11, c12, c13, c14, c15, rfl⟩ := list16 hl
 have hx : xs.length = 16 := hxl
 have f0 : DataW.trod enc Tryz.prog w base (fun _ => true) true m 3 [c0] = xs[0]? := by have := hf 0 _ rfl; simpa [Tryz.cI] using this
 have f1 : DataW.trod enc Tryz.prog w base (fun _ => true) true m 3 [c1] = xs[1]? := by have := hf 1 _ rfl; simpa [Tryz.cI] using this
 have f2 : DataW.trod enc Tryz.prog w base (fun _ => true) true m 5 [c2] = xs[2]? := by have := hf 2 _ rfl; simpa [Tryz.cU] using this
 have f3 : DataW.trod enc Tryz.prog w base (fun _ => true) true m 9 [c3] = xs[3]? := by have := hf 3 _ rfl; simpa [Tryz.cS] using this
 have f4 : DataW.trod enc Tryz.prog w base (fun _ => true) true m 3 [c4] = xs[4]? := by have := hf 4 _ rfl; simpa [Tryz.cI] using this
 have f5 : DataW.trod enc Tryz.prog w base (fun _ => true) true m 3 [c5] = xs[5]? := by have := hf 5 _ rfl; simpa [Tryz.cI] using this
 have f6 : DataW.trod enc Tryz.prog w base (fun _ => true) true m 3 [c6] = xs[6]? := by have := hf 6 _ rfl; simpa [Tryz.cI] using this
 have f7 : DataW.trod enc Tryz.prog w base (fun _ => true) true m 4 [c7] = xs[7]? := by have := hf 7 _ rfl; simpa [Tryz.cB] using this
 have f8 : DataW.trod enc Tryz.prog w base (fun _ => true) true m 3 [c8] = xs[8]? := by have := hf 8 _ rfl; simpa [Tryz.cI] using this
 have f9 : DataW.trod enc Tryz.prog w base (fun _ => true) true m 3 [c9] = xs[9]? := by have := hf 9 _ rfl; simpa [Tryz.cI] using this
 have f10 : DataW.trod enc Tryz.prog w base (fun _ => true) true m 3 [c10] = xs[10]? := by have := hf 10 _ rfl; simpa [Tryz.cI] using this
 have f11 : DataW.trod enc Tryz.prog w base (fun _ => true) true m 3 [c11] = xs[11]? := by have := hf 11 _ rfl; simpa [Tryz.cI] using this
 have f12 : DataW.trod enc Tryz.prog w base (fun _ => true) true m 3 [c12] = xs[12]? := by have := hf 12 _ rfl; simpa [Tryz.cI] using this
 have f13 : DataW.trod enc Tryz.prog w base (fun _ => true) true m 9 [c13] = xs[13]? := by have := hf 13 _ rfl; simpa [Tryz.cS] using this
 have f14 : DataW.trod enc Tryz.prog w base (fun _ => true) true m 3 [c14] = xs[14]? := by have := hf 14 _ rfl; simpa [Tryz.cI] using this
 have f15 : DataW.trod enc Tryz.prog w base (fun _ => true) true m 3 [c15] = xs[15]? := by have := hf 15 _ rfl; simpa [Tryz.cI] using this
 obtain ⟨x0, rfl, e0⟩ := int_cw Tryz.underlying3 f0 (by omega)
 obtain ⟨x1, rfl, e1⟩ := int_cw Tryz.underlying3 f1 (by omega)
 obtain ⟨x2, rfl, e2⟩ := int_cw Tryz.underlying5 f2 (by omega)
 obtain ⟨x3, rfl, e3⟩ := str_cw Tryz.underlying9 f3 (by omega)
 obtain ⟨x4, rfl, e4⟩ := int_cw Tryz.underlying3 f4 (by omega)
 obtain ⟨x5, rfl, e5⟩ := int_cw Tryz.underlying3 f5 (by omega)
 obtain ⟨x6, rfl, e6⟩ := int_cw Tryz.underlying3 f6 (by omega)
 obtain ⟨x7, rfl⟩ := bool_cw Tryz.underlying4 f7 (by omega)
 obtain ⟨x8, rfl, e8⟩ := int_cw Tryz.underlying3 f8 (by omega)
 obtain ⟨x9, rfl, e9⟩ := int_cw Tryz.underlying3 f9 (by omega)
 obtain ⟨x10, rfl, e10⟩ := int_cw Tryz.underlying3 f10 (by omega)
 obtain ⟨x11, rfl, e11⟩ := int_cw Tryz.underlying3 f11 (by omega)
 obtain ⟨x12, rfl, e12⟩ := int_cw Tryz.underlying3 f12 (by omega)
 obtain ⟨x13, rfl, e13⟩ := str_cw Tryz.underlying9 f13 (by omega)
 obtain ⟨x14, rfl, e14⟩ := int_cw Tryz.underlying3 f14 (by omega)
 obtain ⟨x15, rfl, e15⟩ := int_cw Tryz.underlying3 f15 (by omega)
 have hu : 0 ≤ x2 ∧ x2 ≤ 255 := u8_in e2
 exact ⟨⟨x0, x1, x2, x3, x4, x5, x6, x7, x8, x9, x10, x11, x12, x13, x14, x15⟩, rfl, ⟨e3, e13, hu, e0, e15⟩⟩
end
theorem items_open {H : Type} {enc : TypeId × Value → H} {W : World} {base : Nat} {v : Value} {d : DataW H} {p : List MemPlace} (hv : Value.okWide Tryz.prog W .any base 22 v)
 (h : DataW.Trod enc Tryz.prog W 0 (fun _ => true) true 22 v d p) (hs : ∀ n ∈ d.weights Tryz.prog 22, n ≤ reachBytes) : ∃ a n cap l, v = .slice a n cap ∧ ItmsAt W a n cap l ∧ l.length ≤ cap := by
 obtain ⟨a0, n0, c0, rfl⟩ := itm_slice Tryz.underlying22 hv
 obtain ⟨fuel, hf⟩ := h
 rcases open_slice Tryz.underlying22 (show DataW.trod enc Tryz.prog W 0 (fun _ => true) true fuel 22 [.slice a0 n0 c0] = some (d, p) from hf) with ⟨hc, _⟩ | ⟨a, len, cap, m', k, D, Pl, hc, _, hl, _, hm, hx, hat⟩
 ·simp at hc
  obtain ⟨rfl, rfl, rfl⟩ := hc
  exact ⟨none, 0, 0, [], rfl, ItmsAt.nilAt _, Nat.le_refl _⟩
 ·simp only [List.cons.injEq, Value.slice.injEq, and_true] at hc
  obtain ⟨rfl, rfl, rfl⟩ := hc
  simp only [if_true] at hm
  subst hm
  simp only [Prod.mk.injEq] at hx
  obtain ⟨rfl, _⟩ := hx
  have hb : m' * 144 ≤ reachBytes := by
   have := hs _ (by simp only [DataW.weights, Tryz.underlying22]; exact List.mem_cons_self ..)
   rw [Tryz.bItem] at this
   simp only [List.length_map, List.length_range] at this
   rw [show n0 + (m' - n0) = m' by omega] at this
   exact this
  unfold reachBytes at hb
  obtain ⟨h1, h2⟩ := itm_where Tryz.underlying22 hv
  obtain ⟨ab, ao, sp⟩ := a
  simp only at h1 h2
  subst h1
  have hex : ∀ i, ∃ x : Itm, i < n0 → x.Wide ∧ ∀ j, j < 16 → W.cell? ⟨ab, ao + i * 16 + j, none⟩ = x.cs[j]? := fun i => by
   by_cases hi : i < n0
   ·obtain ⟨cs, e1, e2⟩ := hat i (by omega)
    rw [Tryz.cItem] at e1
    obtain ⟨_, hcl, hct⟩ := World.cells?_some e1
    obtain ⟨x, rfl, hw⟩ := item_cells e2
    refine ⟨x, fun _ => ⟨hw, fun j hj => ?_⟩⟩
    have := hct j hj
    rw [itm_add, itm_add] at this
    rw [this]
   ·exact ⟨Itm.zero, fun h => absurd h hi⟩
  obtain ⟨F, hF⟩ := Classical.axiomOfChoice hex
  refine ⟨_, n0, m', (List.range n0).map F, rfl, ⟨by simp, by simp; omega, ⟨fun h => (by cases h), fun x hx => ?_⟩, fun x hx => ?_⟩, by simp; omega⟩
  ·obtain rfl := Option.some.inj hx
   refine ⟨rfl, h2, fun i u hu => ?_⟩
   have hil := (List.getElem?_eq_some_iff.1 hu).1
   rw [ics_length] at hil
   simp at hil
   have hk : i / 16 < n0 := by omega
   have hfg := flatS_get (f := Itm.cs) (k := 16) (fun _ => rfl) ((List.range n0).map F) (i / 16) (i % 16) (by simpa using hk) (by omega)
   rw [show i / 16 * 16 + i % 16 = i by omega] at hfg
   have hu := hfg.symm.trans hu
   have hgd : ((List.range n0).map F).getD (i / 16) default = F (i / 16) := by simp [List.getD_eq_getElem?_getD, hk]
   rw [hgd] at hu
   have := (hF (i / 16) hk).2 (i % 16) (by omega)
   simp only
   rw [show ao + i = ao + i / 16 * 16 + i % 16 by omega, this, hu]
  ·obtain ⟨i, hi, rfl⟩ := List.mem_map.1 hx
   rw [List.mem_range] at hi
   exact (hF i hi).1
end Go.Proofs.YtelkcohhagblaaaGreat
namespace Go.Proofs.YtelkcohhagblaaaGreat
open Go.RowKit Go.Shelf
set_option maxHeartbeats 8000000
set_option maxRecDepth 100000
def shortB (x : Itm) : Bool := decide (x.wa.size ≤ 100) && decide (x.st.size ≤ 100)
theorem lone (x : Itm) (w : World) : Calls Tryz.prog 19 #[x.v] w fun e w' => e = .returned (.bool (shortB x)) ∧ Below w.heap.size w w' := by
 have hal := one_alloc w (Obj.cells #[.int .i64 x.id, .int .i64 x.kn, .int .u8 x.kd, .string x.wa, .int .i64 x.pit, .int .i64 x.ly, .int .i64 x.co, .bool x.ft, .int .i64 x.sh, .int .i64 x.fr, .int .i64 x.tw, .int .i64 x.lo, .int .i64 x.hi, .string x.st, .int .i64 x.li, .int .i64 x.vo] 24)
 have hX := World.alloc_heap_new w (Obj.cells #[.int .i64 x.id, .int .i64 x.kn, .int .u8 x.kd, .string x.wa, .int .i64 x.pit, .int .i64 x.ly, .int .i64 x.co, .bool x.ft, .int .i64 x.sh, .int .i64 x.fr, .int .i64 x.tw, .int .i64 x.lo, .int .i64 x.hi, .string x.st, .int .i64 x.li, .int .i64 x.vo] 24)
 have d3 := (ItmCells.of_heap hX).1.c3
 have d13 := (ItmCells.of_heap hX).1.c13
 simp only [Itm.v, Itm.cs]
 unfold shortB
 obtain ⟨A, hA⟩ : ∃ A, x.wa.size = A := ⟨_, rfl⟩
 obtain ⟨B, hB⟩ : ∃ B, x.st.size = B := ⟨_, rfl⟩
 rw [hA, hB]
 clear hX
 by_cases h1 : A ≤ 100
 ·have e1 : (A : Int) ≤ 100 := by omega
  have d1 : decide (A ≤ 100) = true := decide_eq_true h1
  rw [d1, Bool.true_and]
  by_cases h2 : B ≤ 100
  ·have e2 : (B : Int) ≤ 100 := by omega
   have d2 : decide (B ≤ 100) = true := decide_eq_true h2
   rw [d2]
   go_enter Tryz.func19, Tryz.ntmps19
   go_wp2_with fail
   go_ret
   exact ⟨rfl, hal⟩
  ·have e2 : ¬ (B : Int) ≤ 100 := by omega
   have d2 : decide (B ≤ 100) = false := decide_eq_false h2
   rw [d2]
   go_enter Tryz.func19, Tryz.ntmps19
   go_wp2_with fail
   go_ret
   exact ⟨rfl, hal⟩
 ·have e1 : ¬ (A : Int) ≤ 100 := by omega
  have d1 : decide (A ≤ 100) = false := decide_eq_false h1
  rw [d1, Bool.false_and]
  go_enter Tryz.func19, Tryz.ntmps19
  go_wp2_with fail
  go_ret
  exact ⟨rfl, hal⟩
def fewB (l : List Itm) (m : Nat) : Bool := (l.take m).all shortB && decide (l.length ≤ m)
theorem fewB_len {l : List Itm} {m : Nat} (h : fewB l m = true) : l.length ≤ m := by
 unfold fewB at h
 rw [Bool.and_eq_true] at h
 exact of_decide_eq_true h.2
theorem all_succ {l : List Itm} {k : Nat} (hk : k < l.length) : (l.take (k + 1)).all shortB = ((l.take k).all shortB && shortB (l.getD k default)) := by
 rw [List.take_succ_eq_append_getElem hk, List.all_append, List.getD_eq_getElem?_getD, List.getElem?_eq_getElem hk]
 simp
theorem all_no {l : List Itm} {k m : Nat} (hk : k < l.length) (hm : k < m) (h : shortB (l.getD k default) = false) : (l.take m).all shortB = false := by
 rw [List.all_eq_false]
 refine ⟨l.getD k default, ?_, by rw [h]; simp⟩
 rw [List.getD_eq_getElem?_getD, List.getElem?_eq_getElem hk]
 have : l[k] ∈ l.take m := List.mem_take_iff_getElem.2 ⟨k, by omega, rfl⟩
 exact this
theorem lfew (m : Nat) (a : Option Addr) (n cap : Nat) (l : List Itm) (w : World) (h : ItmsAt w a n cap l) (hm : m ≤ 1000) : Calls Tryz.prog 18 #[.slice a n cap, .int .i64 m] w fun e w' => e = .returned (.bool (fewB l m)) ∧ Below w.heap.size w w' := by
 obtain rfl := h.len
 have hsm := h.small
 have HP := Lib.hid (show ∀ w' b, fewB l m = b → Below w.heap.size w w' → (fun e w' => e = Ending.returned (.bool (fewB l m)) ∧ Below w.heap.size w w' : Ending → World → Prop) (.returned (.bool b)) w' from fun w' b h1 h2 => ⟨by rw [h1], h2⟩)
 generalize (fun e w' => e = Ending.returned (.bool (fewB l m)) ∧ Below w.heap.size w w' : Ending → World → Prop) = Post at *
 go_enter Tryz.func18, Tryz.ntmps18
 go_wp2_with fail
 go_loopw [5] (fun i wr => ∃ k : Nat, k ≤ l.length ∧ k ≤ m ∧ i = .int .i64 k ∧ Hid ((l.take k).all shortB = true) ∧ Below w.heap.size w wr) (fun i _ => l.length - (RowKit.intOf i).toNat)
 case atStart => exact ⟨0, Nat.zero_le _, Nat.zero_le _, rfl, Lib.hid rfl, Below.refl _ _⟩
 case round =>
  obtain ⟨k, hk, hkm, rfl, hall, hB⟩ := hrel
  have hnn : (0 : Int) ≤ k := by omega
  by_cases hlt : k < l.length
  ·have i1 : (k : Int) < (l.length : Int) := by omega
   by_cases hlm : k < m
   ·have i2 : (k : Int) < (m : Int) := by omega
    obtain ⟨b, o, rfl, hb, hdc⟩ := (h.below hB).get hlt
    have Hs := Lib.hid (all_succ hlt)
    have Hn := Lib.hid (all_no hlt hlm)
    generalize l.getD k default = x at *
    have hcl := lone x wr
    cases hv : shortB x with
    | true =>
      rw [hv] at hcl Hs
      have h2 := Lib.hid (show (l.take (k + 1)).all shortB = true by rw [Hs.out, hall.out]; rfl)
      clear hv Hn
      go_wp2_with (first
       | (refine wpList_loadI rfl _ rfl rfl hdc ?_)
       | (go_at_call 19; (with_reducible refine hcl.mono ?_); rintro e w2 ⟨rfl, hb2⟩))
      go_roundw
      case rel => exact ⟨k + 1, by omega, by omega, by go_num, h2, hB.ch2 hb2⟩
      case measure => simp [RowKit.intOf]; omega
    | false =>
      have HE := Lib.hid (fun w' hb => HP.out w' false (by unfold fewB; rw [Hn.out hv]; rfl) hb)
      rw [hv] at hcl
      clear hv Hn Hs
      go_wp2_with (first
       | (refine wpList_loadI rfl _ rfl rfl hdc ?_)
       | (go_at_call 19; (with_reducible refine hcl.mono ?_); rintro e w2 ⟨rfl, hb2⟩))
      exact HE.out _ (hB.ch2 hb2)
   ·have i2 : ¬ (k : Int) < (m : Int) := by omega
    have i3 : ¬ (l.length : Int) ≤ (m : Int) := by omega
    have HE := Lib.hid (HP.out wr false (by unfold fewB; rw [decide_eq_false (by omega), Bool.and_false]) hB)
    go_wp2_with fail
    exact HE.out
  ·have i1 : ¬ (k : Int) < (l.length : Int) := by omega
   have hkl : k = l.length := by omega
   have i3 : (l.length : Int) ≤ (m : Int) := by omega
   have HE := Lib.hid (HP.out wr true (by unfold fewB; rw [decide_eq_true (by omega), Bool.and_true, List.take_of_length_le (by omega)]; have := hall.out; rw [hkl, List.take_length] at this; exact this) hB)
   clear hkl
   go_wp2_with fail
   exact HE.out
end Go.Proofs.YtelkcohhagblaaaGreat
namespace Go.Proofs.YtelkcohhagblaaaGreat
open Go
theorem sys_sub {k co : Int} {a b : List Itm} (hs : a.Sublist b) : (∀ x ∈ sysB k co a, x ∈ sysB k co b) ∧ (sysB k co a).length ≤ (sysB k co b).length := by
 have hm : ∀ x ∈ msB a, x ∈ msB b := fun x hx => by
  simp only [msB, List.mem_flatMap] at hx ⊢
  obtain ⟨y, hy, e⟩ := hx
  exact ⟨y, hs.subset hy, e⟩
 have hl := hs.length_le
 unfold sysB waysB turnsB
 split
 ·exact ⟨fun x hx => List.mem_append.2 ((List.mem_append.1 hx).imp id (hm x)), by simp only [List.length_append, msB_len]; omega⟩
 ·exact ⟨fun x hx => List.mem_append.2 ((List.mem_append.1 hx).imp id (hm x)), by simp only [List.length_append, msB_len]; omega⟩
/-- The span common to colours. -/
theorem colL_go : ∀ (l : List Itm) (o : Spn), (o.lo ≤ (l.foldl colS o).lo ∧ (∀ x ∈ l, x.lo ≤ (l.foldl colS o).lo) ∧ ((l.foldl colS o).lo = o.lo ∨ ∃ x ∈ l, x.lo = (l.foldl colS o).lo)) ∧
 ((l.foldl colS o).hi ≤ o.hi ∧ (∀ x ∈ l, (l.foldl colS o).hi ≤ x.hi) ∧ ((l.foldl colS o).hi = o.hi ∨ ∃ x ∈ l, x.hi = (l.foldl colS o).hi))
 | [], o => by simp
 | x :: l, o => by
   obtain ⟨⟨a1, a2, a3⟩, b1, b2, b3⟩ := colL_go l (colS o x)
   simp only [List.foldl_cons]
   generalize l.foldl colS (colS o x) = r at *
   have e1 : (colS o x).lo = if o.lo < x.lo then x.lo else o.lo := rfl
   have e2 : (colS o x).hi = if x.hi < o.hi then x.hi else o.hi := rfl
   rw [e1] at a1 a3
   rw [e2] at b1 b3
   refine ⟨⟨?_, ?_, ?_⟩, ?_, ?_, ?_⟩
   ·split at a1 <;> omega
   ·intro y hy
    rcases List.mem_cons.1 hy with rfl | hy
    ·split at a1 <;> omega
    ·exact a2 y hy
   ·rcases a3 with a3 | ⟨y, hy, e⟩
    ·split at a3
     ·exact .inr ⟨x, List.mem_cons_self, a3.symm⟩
     ·exact .inl a3
    ·exact .inr ⟨y, List.mem_cons_of_mem _ hy, e⟩
   ·split at b1 <;> omega
   ·intro y hy
    rcases List.mem_cons.1 hy with rfl | hy
    ·split at b1 <;> omega
    ·exact b2 y hy
   ·rcases b3 with b3 | ⟨y, hy, e⟩
    ·split at b3
     ·exact .inr ⟨x, List.mem_cons_self, b3.symm⟩
     ·exact .inl b3
    ·exact .inr ⟨y, List.mem_cons_of_mem _ hy, e⟩
theorem early_snoc (l : List Itm) {v : Itm} {day : Int} (hd : v.kn ≤ day) : earlyL (l ++ [v]) day = earlyL l day ++ [v] := by
 unfold earlyL
 rw [List.filter_append]
 simp [hd]
theorem voidB_snoc (l : List Itm) {v : Itm} (hk : v.kd = 7) (i : Int) : voidB (l ++ [v]) i = (voidB l i || v.vo == i) := by
 unfold voidB
 rw [List.any_append]
 simp [hk]
/-- With an item more that withdraws another one, just this one counts no more. -/
theorem count_void (l : List Itm) {v : Itm} {day : Int} (hk : v.kd = 7) (hd : v.kn ≤ day) : countL (l ++ [v]) day = (countL l day).filter fun x => x.id != v.vo := by
 unfold countL
 rw [early_snoc l hd]
 unfold standL
 rw [List.filter_append, List.filter_filter]
 have e : [v].filter (fun x => x.kd != 7 && !voidB (earlyL l day ++ [v]) x.id) = [] := by simp [hk]
 rw [e, List.append_nil]
 refine List.filter_congr fun x _ => ?_
 rw [voidB_snoc _ hk]
 rw [show (v.vo == x.id) = (x.id == v.vo) from Bool.beq_comm]
 cases x.kd != 7 <;> cases voidB (earlyL l day) x.id <;> cases h : x.id == v.vo <;> simp [bne, h]
theorem kept_void (l : List Itm) {v : Itm} {day : Int} (hk : v.kd = 7) (hd : v.kn ≤ day) (k id : Int) : keptL (countL (l ++ [v]) day) k id = (keptL (countL l day) k id).filter fun x => x.id != v.vo := by
 unfold keptL
 rw [count_void l hk hd, List.filter_filter, List.filter_filter]
 refine List.filter_congr fun x _ => ?_
 rw [Bool.and_comm]
theorem look_same {l m : List Itm} {day id : Int} (hl : LookOk l day id) (hm : LookOk m day id) (hs : ∀ x ∈ countL m day, x ∈ countL l day) : lookS m day id = lookS l day id := by
 obtain ⟨x, hx, e1, _, e3⟩ := sherdO_some hl.some
 obtain ⟨y, hy, f1, _, f3⟩ := sherdO_some hm.some
 have : y = x := ids_inj (countL_ids hl.cat.ids day) (hs y hy) hx (by omega)
 rw [e3, f3, this]
theorem ways_sub {co : Int} {a b : List Itm} (h : a.Sublist b) : Sub (waysB co a) (waysB co b) := by
 obtain ⟨h1, h2⟩ := sys_sub (k := 2) (co := co) h
 simp only [sysB, if_pos] at h1 h2
 exact ⟨h1, h2⟩
theorem rest_in {v : Int} {K R : List Itm} (h : R.Sublist K) (hv : v ∉ idsI R) : R.Sublist (K.filter fun x => x.id != v) := by
 have e : R.filter (fun x => x.id != v) = R := List.filter_eq_self.2 fun x hx => by
  have : x.id ≠ v := fun e => hv (mem_ascOf.2 (List.mem_map.2 ⟨x, hx, e⟩))
  simpa using this
 rw [← e]
 exact h.filter _
theorem endNeeds_false {co fr tw : Int} {up : Bool} {l m : List Itm} (h : endNeeds co fr tw up l m = false) : endN co fr tw up m = endN co fr tw up l := by
 unfold endNeeds at h
 simp only [Bool.not_eq_false', Bool.and_eq_true, beq_iff_eq] at h
 exact Prod.ext h.1 h.2
theorem gr_both {p x y : Int} {bs : List Bd} (hc : chk p bs = 0) (hok : okB p bs = true) (x0 : 0 ≤ x) (x1 : x < p) (y0 : 0 ≤ y) (y1 : y < p) : (grB p bs x y = true ↔ gD p bs x y < FAR) ∧ (gD p bs x y < FAR → grN p bs x y = gD p bs x y) := by
 have hE := askE_in hc hok x0 x1 y0 y1
 have hle := (gD_range (Sys.of_chk hc) (x := x) (y := y) x0 x1 y0 y1).2
 unfold grB grN
 simp only [decide_eq_true_eq]
 exact ⟨⟨fun h => by omega, fun h => ⟨hE, by omega⟩⟩, fun h => by rw [if_pos ⟨hE, by omega⟩]⟩
/-- An end of a way stays if no measurement is withdrawn on which it rests. -/
theorem lineage_way {l : List Itm} {v : Itm} {day id fr tw : Int} {up : Bool} (hk : v.kd = 7) (hd : v.kn ≤ day) (hw : wayK l day id fr tw = true) (hm : lookE (l ++ [v]) day id = 0) (hv : v.vo ∉ wRestsL l day id fr tw up) :
 wayE (l ++ [v]) day id fr tw = 0 ∧ (up = true → wayK (l ++ [v]) day id fr tw = true ∧ wayHi (l ++ [v]) day id fr tw = wayHi l day id fr tw) ∧
  (up = false → wayK (l ++ [v]) day id fr tw = true → wayLo (l ++ [v]) day id fr tw = wayLo l day id fr tw) := by
 obtain ⟨hW, hf⟩ := wayK_iff.1 hw
 obtain ⟨hL, p1, p2, p3, hok⟩ := hW
 have hW : WayOk l day id fr tw := ⟨hL, p1, p2, p3, hok⟩
 have hback := hW.back
 have hM := look_ok hm
 have hcs := count_void l hk hd
 have hS := look_same hL hM (fun x hx => by rw [hcs] at hx; exact (List.mem_filter.1 hx).1)
 have hF := kept_void l hk hd 2 id
 have hP : wayP (l ++ [v]) day id = wayP l day id := by unfold wayP; rw [hS]
 have hBm : wayB (l ++ [v]) day id = waysB (lookS l day id).co ((keptL (countL l day) 2 id).filter fun x => x.id != v.vo) := by unfold wayB; rw [hS, hF]
 have hE : wayE l day id fr tw = 0 := by rw [wayK, Bool.and_eq_true, decide_eq_true_eq] at hw; exact hw.1
 unfold wRestsL at hv
 rw [if_pos hE] at hv
 have hpw : wayP l day id = (lookS l day id).co + 1 := rfl
 have hbw : wayB l day id = waysB (lookS l day id).co (keptL (countL l day) 2 id) := rfl
 have hck := hL.ways
 generalize hK : keptL (countL l day) 2 id = K at *
 generalize hco : (lookS l day id).co = co at *
 have hRs := spareL_sub (endNeeds co fr tw up K) K
 have hRn : endNeeds co fr tw up K (spareL (endNeeds co fr tw up K) K) = false := spareK_not _ _ _ (by unfold endNeeds; simp)
 have hRe := endNeeds_false hRn
 generalize spareL (endNeeds co fr tw up K) K = R at *
 have hRF := rest_in hRs hv
 have hFK : (K.filter fun x => x.id != v.vo).Sublist K := List.filter_sublist
 generalize (K.filter fun x => x.id != v.vo) = F at *
 rw [hpw, hbw] at hck hok hf hback
 have cF : chk (co + 1) (waysB co F) = 0 := (ways_sub hFK).chk hck
 have cR : chk (co + 1) (waysB co R) = 0 := (ways_sub hRs).chk hck
 have oF : okB (co + 1) (waysB co F) = true := okB_sub hck hok (ways_sub hFK).1 (ways_sub hFK).2
 have oR : okB (co + 1) (waysB co R) = true := okB_sub hck hok (ways_sub hRs).1 (ways_sub hRs).2
 have hWm : WayOk (l ++ [v]) day id fr tw := ⟨hM, p1, p2, by rw [hS, hco]; exact p3, by rw [hP, hpw, hBm]; exact oF⟩
 have hEm := WayOk.e hm hWm.pf hWm.pl hWm.pt hWm.ok
 refine ⟨hEm, fun hu => ?_, fun hu hwm => ?_⟩
 ·subst hu
  obtain ⟨gK1, gK2⟩ := gr_both hck hok (x := fr) (y := tw) (by omega) (by omega) (by omega) (by omega)
  obtain ⟨gR1, gR2⟩ := gr_both cR oR (x := fr) (y := tw) (by omega) (by omega) (by omega) (by omega)
  have e1 : grN (co + 1) (waysB co R) fr tw = grN (co + 1) (waysB co K) fr tw := congrArg Prod.fst hRe
  have e2 : grB (co + 1) (waysB co R) fr tw = grB (co + 1) (waysB co K) fr tw := congrArg Prod.snd hRe
  have hRf := gR1.1 (by rw [e2]; exact gK1.2 hf)
  rw [gR2 hRf, gK2 hf] at e1
  have s1 := gD_sub (ways_sub hFK (co := co)) hck hok (x := fr) (y := tw) (by omega) (by omega) (by omega) (by omega)
  have s2 := gD_sub (ways_sub hRF (co := co)) cF oF (x := fr) (y := tw) (by omega) (by omega) (by omega) (by omega)
  have hfm : gD (wayP (l ++ [v]) day id) (wayB (l ++ [v]) day id) fr tw < FAR := by rw [hP, hpw, hBm]; omega
  have hKm := wayK_iff.2 ⟨hWm, hfm⟩
  refine ⟨hKm, ?_⟩
  rw [(way_vals hKm).1, (way_vals hw).1, hP, hpw, hBm, hbw]
  omega
 ·subst hu
  have hbm := hWm.back
  rw [(way_vals hwm).2, (way_vals hw).2]
  rw [hP, hpw, hBm] at hbm ⊢
  rw [hbw]
  obtain ⟨gK1, gK2⟩ := gr_both hck hok (x := tw) (y := fr) (by omega) (by omega) (by omega) (by omega)
  obtain ⟨gR1, gR2⟩ := gr_both cR oR (x := tw) (y := fr) (by omega) (by omega) (by omega) (by omega)
  have e1 : (if grB (co + 1) (waysB co R) tw fr then - grN (co + 1) (waysB co R) tw fr else 0) = (if grB (co + 1) (waysB co K) tw fr then - grN (co + 1) (waysB co K) tw fr else 0) := congrArg Prod.fst hRe
  have e2 : grB (co + 1) (waysB co R) tw fr = grB (co + 1) (waysB co K) tw fr := congrArg Prod.snd hRe
  have hkB := gK1.2 hback
  have hRf := gR1.1 (by rw [e2]; exact hkB)
  rw [if_pos (e2.trans hkB), if_pos hkB, gR2 hRf, gK2 hback] at e1
  have s1 := gD_sub (ways_sub hFK (co := co)) hck hok (x := tw) (y := fr) (by omega) (by omega) (by omega) (by omega)
  have s2 := gD_sub (ways_sub hRF (co := co)) cF oF (x := tw) (y := fr) (by omega) (by omega) (by omega) (by omega)
  omega
/-- Each end of a common span is that of an item, or the outermost one. -/
theorem colL_by : ∀ (l : List Itm) (o : Spn), (((l.foldl colS o).lo = o.lo ∧ (l.foldl colS o).lob = o.lob) ∨ ∃ x ∈ l, x.lo = (l.foldl colS o).lo ∧ x.id = (l.foldl colS o).lob) ∧
 (((l.foldl colS o).hi = o.hi ∧ (l.foldl colS o).hib = o.hib) ∨ ∃ x ∈ l, x.hi = (l.foldl colS o).hi ∧ x.id = (l.foldl colS o).hib)
 | [], o => ⟨.inl ⟨rfl, rfl⟩, .inl ⟨rfl, rfl⟩⟩
 | x :: l, o => by
   obtain ⟨a, b⟩ := colL_by l (colS o x)
   simp only [List.foldl_cons]
   generalize l.foldl colS (colS o x) = r at *
   have e1 : (colS o x).lo = if o.lo < x.lo then x.lo else o.lo := rfl
   have e2 : (colS o x).hi = if x.hi < o.hi then x.hi else o.hi := rfl
   have e3 : (colS o x).lob = if o.lo < x.lo then x.id else o.lob := rfl
   have e4 : (colS o x).hib = if x.hi < o.hi then x.id else o.hib := rfl
   rw [e1, e3] at a
   rw [e2, e4] at b
   refine ⟨?_, ?_⟩
   ·rcases a with ⟨a1, a2⟩ | ⟨y, hy, a1, a2⟩
    ·split at a1
     ·rename_i h; rw [if_pos h] at a2; exact .inr ⟨x, List.mem_cons_self, a1.symm, a2.symm⟩
     ·rename_i h; rw [if_neg h] at a2; exact .inl ⟨a1, a2⟩
    ·exact .inr ⟨y, List.mem_cons_of_mem _ hy, a1, a2⟩
   ·rcases b with ⟨a1, a2⟩ | ⟨y, hy, a1, a2⟩
    ·split at a1
     ·rename_i h; rw [if_pos h] at a2; exact .inr ⟨x, List.mem_cons_self, a1.symm, a2.symm⟩
     ·rename_i h; rw [if_neg h] at a2; exact .inl ⟨a1, a2⟩
    ·exact .inr ⟨y, List.mem_cons_of_mem _ hy, a1, a2⟩
/-- A colour stays if no measurement is withdrawn on which it rests. -/
theorem lineage_col {l : List Itm} {v : Itm} {day id : Int} (hk : v.kd = 7) (hd : v.kn ≤ day) (hv0 : v.vo ≠ 0) (he : colE l day id = 0) (hm : lookE (l ++ [v]) day id = 0) (hv : v.vo ∉ colRestsL l day id) :
 colE (l ++ [v]) day id = 0 ∧ (colR (l ++ [v]) day id).lo = (colR l day id).lo ∧ (colR (l ++ [v]) day id).hi = (colR l day id).hi := by
 unfold colRestsL at hv
 rw [if_pos he] at hv
 have hR : colR l day id = colL (keptL (countL l day) 4 id) := by unfold colR; rw [if_pos he]
 rw [hR] at hv ⊢
 have hlt : ¬ (colL (keptL (countL l day) 4 id)).hi < (colL (keptL (countL l day) 4 id)).lo := by
  unfold colE at he
  split at he
  ·split at he
   ·omega
   ·assumption
  ·contradiction
 have hF := kept_void l hk hd 4 id
 have hRm : colR (l ++ [v]) day id = if colE (l ++ [v]) day id = 0 then colL (keptL (countL (l ++ [v]) day) 4 id) else ⟨0, 0, 0, 0⟩ := rfl
 have hEm : colE (l ++ [v]) day id = if (colL (keptL (countL (l ++ [v]) day) 4 id)).hi < (colL (keptL (countL (l ++ [v]) day) 4 id)).lo then 21 else 0 := by unfold colE; rw [if_pos hm]
 rw [hF] at hRm hEm
 generalize keptL (countL l day) 4 id = K at *
 have key : (colL (K.filter fun x => x.id != v.vo)).lo = (colL K).lo ∧ (colL (K.filter fun x => x.id != v.vo)).hi = (colL K).hi := by
  rw [mem_ascOf, List.mem_filter] at hv
  have hv' : ¬ (v.vo = (colL K).lob) ∧ ¬ (v.vo = (colL K).hib) := by
   constructor
   ·intro e; exact hv ⟨by simp [e], by simpa using hv0⟩
   ·intro e; exact hv ⟨by simp [e], by simpa using hv0⟩
  obtain ⟨⟨a1, a2, a3⟩, b1, b2, b3⟩ := colL_go K ⟨0, 1000, 0, 0⟩
  obtain ⟨⟨c1, c2, c3⟩, d1, d2, d3⟩ := colL_go (K.filter fun x => x.id != v.vo) ⟨0, 1000, 0, 0⟩
  obtain ⟨k1, k2⟩ := colL_by K ⟨0, 1000, 0, 0⟩
  rw [show K.foldl colS ⟨0, 1000, 0, 0⟩ = colL K from rfl] at *
  rw [show (K.filter fun x => x.id != v.vo).foldl colS ⟨0, 1000, 0, 0⟩ = colL (K.filter fun x => x.id != v.vo) from rfl] at *
  generalize colL K = A at *
  generalize colL (K.filter fun x => x.id != v.vo) = B at *
  simp only at a1 a3 b1 b3 c1 c3 d1 d3 k1 k2
  refine ⟨?_, ?_⟩
  ·have hle : B.lo ≤ A.lo := by
    rcases c3 with c3 | ⟨x, hx, e⟩
    ·omega
    ·have := a2 x (List.mem_filter.1 hx).1; omega
   rcases k1 with ⟨k1, _⟩ | ⟨x, hx, e1, e2⟩
   ·omega
   ·have := c2 x (List.mem_filter.2 ⟨hx, by simp; intro e; exact hv'.1 (by omega)⟩)
    omega
  ·have hle : A.hi ≤ B.hi := by
    rcases d3 with d3 | ⟨x, hx, e⟩
    ·omega
    ·have := b2 x (List.mem_filter.1 hx).1; omega
   rcases k2 with ⟨k1, _⟩ | ⟨x, hx, e1, e2⟩
   ·omega
   ·have := d2 x (List.mem_filter.2 ⟨hx, by simp; intro e; exact hv'.2 (by omega)⟩)
    omega
 obtain ⟨q1, q2⟩ := key
 rw [q1, q2, if_neg hlt] at hEm
 rw [hEm, if_pos rfl] at hRm
 rw [hRm]
 exact ⟨hEm, q1, q2⟩
end Go.Proofs.YtelkcohhagblaaaGreat
namespace Go.Proofs.YtelkcohhagblaaaGreat
open Go.RowKit Go.Shelf Go.Sort
set_option maxHeartbeats 4000000
set_option maxRecDepth 100000
theorem asc_filter (p : Int → Bool) (l : List Int) : (ascOf l).filter p = ascOf (l.filter p) := by
 refine asc_ext (List.Pairwise.filter _ (ascOf_asc l)) (ascOf_asc _) fun x => ?_
 unfold ascOf
 rw [List.mem_filter, (ascOf_go l [] (by simp [Asc])).2 x, (ascOf_go (l.filter p) [] (by simp [Asc])).2 x, List.mem_filter]
 simp
theorem snz (x : Int) (W : World) : FnGives Tryz.prog 108 #[] #[.int .i64 x] (.bool (x == 0)) W := by
 show Calls Tryz.prog 108 #[.int .i64 x] W _
 go_enter Tryz.func108, Tryz.ntmps108
 go_wp2
 all_goals (go_ret; exact ⟨rfl, 0, rfl⟩)
theorem sdelNz (base : Nat) (ns : List Int) (v : Value) (w : World) (h : w.ownsRow base 3 1 v ns.length (ns.map (.int .i64))) (h0 : ns ≠ []) (hl : ns.length ≤ 100000) :
 Calls Tryz.prog 106 #[v, .func (.func 108) #[] #[]] w fun e w' => ∃ v', e = .returned v' ∧
  w'.ownsRow base 3 1 v' (ns.filter fun n => n != 0).length ((ns.filter fun n => n != 0).map (.int .i64)) ∧ SL.Chg v.ownBlock.toList w w' := by
 have hnl : 0 < ns.length := List.length_pos_iff.2 h0
 have h' := h
 obtain ⟨_, ⟨rfl, e0⟩ | ⟨g, cap, cur, rfl, hbg, hg, g1, g2, g3, g4⟩⟩ := h
 ·omega
 have hH : Holds (Value.int .i64) w g 0 ns.toArray := by
  intro j hj
  have hj' : j < ns.length := by simpa using hj
  refine ⟨?_, by simp [World.frozen?, hg]⟩
  have e1 : (cur.toList.take (ns.length * 1))[j]? = (ns.map (Value.int .i64))[j]? := by rw [g4]
  rw [List.getElem?_take_of_lt (by omega)] at e1
  simp only [World.cell?, hg, Nat.zero_add]
  simp only [Option.isSome_none, Bool.false_eq_true, if_false]
  rw [← Array.getElem?_toList, e1]
  simp [hj', getElem!_pos]
 have hcon := AnyE.slices_DeleteFunc Tryz.delFA (Value.int .i64) (fun _ => rfl) (fun x => x == 0) 108 #[] (enters_of Tryz.func108 (by kernel_rfl) rfl) 0 Tryz.zeroValue3 g 0 cap ns.toArray w
  (fun W x hb => snz x W) (fun n os dk x _ => snz x _) hH (by simp; omega) (by simp; omega)
 simp only [List.size_toArray, List.toList_toArray] at hcon
 have e2 : (ns.filter fun x => !(x == 0)) = ns.filter fun x => x != 0 := rfl
 rw [e2] at hcon
 have hle : (ns.filter fun x => x != 0).length ≤ ns.length := List.length_filter_le _ _
 generalize (ns.filter fun x => x != 0) = ys at *
 refine hcon.mono ?_
 rintro e w' ⟨rfl, q, rfl⟩
 have ho := Lib.ownsRow_putRow (q := q) (ys := ys ++ List.replicate (ns.length - ys.length) 0) h' (by simp; omega) hle
 rw [List.take_left] at ho
 refine ⟨_, rfl, ho, ⟨rfl, rfl, rfl, by simp [putRow, mapBlock, Sort.ahead], fun k hk hne => ?_⟩⟩
 have hgk : g ≠ k := fun e => hne (by simp [Value.ownBlock, e])
 simp [putRow, mapBlock, Sort.ahead, Array.getElem?_modify, hgk]
theorem asc_ne2 (a b : Int) : ascOf [a, b] ≠ [] := by
 intro h
 have : a ∈ ascOf [a, b] := ((ascOf_go [a, b] [] (by simp [Asc])).2 a).2 (by simp)
 rw [h] at this
 cases this
theorem asc_len2 (a b : Int) : (ascOf [a, b]).length ≤ 2 := by
 show ([a, b].foldl (fun a x => insI x a) []).length ≤ 2
 simp only [List.foldl_cons, List.foldl_nil, insI]
 repeat' split
 all_goals (simp [insI]; try (repeat' split)); try simp
theorem sColRests_any (a : Option Addr) (n cap : Nat) (l : List Itm) (day id : Int) (w : World) (h : ItmsAt w a n cap l) (hcap : l.length ≤ cap) :
 Calls Tryz.prog 46 #[.slice a n cap, .int .i64 day, .int .i64 id] w (IntE w (colE l day id) (colRestsL l day id)) := by
 have hC := sColour_any a n cap l day id w h hcap
 have hR : colRestsL l day id = if colE l day id = 0 then ascOf ([(colR l day id).lob, (colR l day id).hib].filter fun n => n != 0) else [] := rfl
 generalize colRestsL l day id = RR at *
 generalize colR l day id = o at *
 simp only [Spn.v, Spn.cs] at hC
 by_cases h0 : colE l day id = 0
 ·rw [if_pos h0] at hR
  rw [h0] at hC ⊢
  clear h0
  rw [← asc_filter] at hR
  have hU := fun W a c (hx : IntsAt W a 2 c [o.lob, o.hib]) => sunique_any a 2 c [o.lob, o.hib] W hx (by simp)
  have hD := fun b W v (hr : W.ownsRow b 3 1 v (ascOf [o.lob, o.hib]).length ((ascOf [o.lob, o.hib]).map (.int .i64))) => sdelNz b (ascOf [o.lob, o.hib]) v W hr (asc_ne2 _ _) (by have := asc_len2 o.lob o.hib; omega)
  rw [← hR] at hD
  have HP := Lib.hid (show ∀ v w', Below w.heap.size w w' → w'.ownsRow w.heap.size 3 1 v RR.length (RR.map (.int .i64)) → IntE w 0 RR (.returned (.tuple #[v, .int .i64 0])) w' from fun v w' h1 h2 => ⟨v, rfl, h1, h2⟩)
  generalize IntE w 0 RR = Post at *
  generalize ascOf [o.lob, o.hib] = A at *
  have HU := Lib.hid hU
  have HD := Lib.hid hD
  clear hU hD hR
  go_enter Tryz.func46, Tryz.ntmps46
  go_wp2_with (first
   | (go_at_call 32; (with_reducible refine hC.mono ?_); rintro e w1 ⟨rfl, hb1⟩; have hL := fun (W : World) => (⟨rfl, by simp, RowAt.of_heap (cap := 2) (World.alloc_heap_new W (Obj.cells #[.int .i64 o.lob, .int .i64 o.hib] 3))⟩ : IntsAt (W.alloc (Obj.cells #[.int .i64 o.lob, .int .i64 o.hib] 3)) (some ⟨W.heap.size, 0, none⟩) 2 2 [o.lob, o.hib]))
   | (go_at_call 107; (have hLx := hL (w1.alloc (Obj.cells #[.int .i64 o.lo, .int .i64 o.hi, .int .i64 o.lob, .int .i64 o.hib] 43)); rw [World.size_alloc] at hLx; have hU := HU.out _ _ _ hLx; with_reducible refine hU.mono ?_); rintro e w2 ⟨v2, rfl, hb2, ho2⟩)
   | (go_at_call 106; (have hD := HD.out _ _ _ ho2; with_reducible refine hD.mono ?_); rintro e w3 ⟨v3, rfl, ho3, hc3⟩))
  have hBz := (hb1.ch2 (one_alloc w1 (Obj.cells #[.int .i64 o.lo, .int .i64 o.hi, .int .i64 o.lob, .int .i64 o.hib] 43))).ch2 (one_alloc _ (Obj.cells #[.int .i64 o.lob, .int .i64 o.hib] 3))
  exact HP.out _ _ ((hBz.ch2 hb2).trans (hc3.belowE_w (hBz.ch2 hb2).size (fun k hk => by have := (SL.row_bounds ho2 k hk).1; have := hBz.size; omega))) (SL.row_base ho3 hBz.size)
 ·rw [if_neg h0] at hR
  have HP := Lib.hid (show ∀ v w', v = .slice none 0 0 → Below w.heap.size w w' → IntE w (colE l day id) RR (.returned (.tuple #[v, .int .i64 (colE l day id)])) w' from fun v w' h1 h2 => ⟨v, rfl, h2, by rw [hR, h1]; exact World.ownsRow_nil _ _ _ _⟩)
  generalize IntE w (colE l day id) RR = Post at *
  have e1 : (colE l day id != 0) = true := by simpa using h0
  clear hR h0
  generalize colE l day id = E at *
  go_enter Tryz.func46, Tryz.ntmps46
  go_wp2_with (go_at_call 32; (with_reducible refine hC.mono ?_); rintro e w1 ⟨rfl, hb1⟩)
  exact HP.out _ _ rfl (hb1.ch2 (one_alloc _ _))
end Go.Proofs.YtelkcohhagblaaaGreat
namespace Go.Proofs.YtelkcohhagblaaaGreat
open Go.RowKit Go.Shelf
set_option maxHeartbeats 8000000
set_option maxRecDepth 100000
theorem r2has_any (a : Option Addr) (len cap : Nat) (xs : List Int) (n : Int) (w : World) (hx : IntsAt w a len cap xs) :
 Calls Tryz.prog 51 #[.slice a len cap, .int .i64 n] w fun e w' => e = .returned (.bool (xs.any (· == n))) ∧ w = w' := by
 have hlen := hx.small
 obtain rfl := hx.len
 go_enter Tryz.func51, Tryz.ntmps51
 go_wp2
 go_loop [5] (fun i => ∃ k : Nat, k ≤ xs.length ∧ i = .int .i64 k ∧ (xs.take k).any (· == n) = false) (fun i => xs.length - (RowKit.intOf i).toNat)
 case atStart => exact ⟨0, Nat.zero_le _, rfl, rfl⟩
 case round =>
  obtain ⟨k, hk, rfl, hno⟩ := hrel
  have Hno := Lib.hid hno
  clear hno
  by_cases hlt : k < xs.length
  ·obtain ⟨b, off, rfl, hbl, d0⟩ := hx.get hlt
   generalize hy : xs.getD k 0 = y at *
   have Hy := Lib.hid hy
   clear hy
   have hget : xs[k] = y := by rw [← Hy.out]; simp [List.getD_eq_getElem?_getD, List.getElem?_eq_getElem hlt]
   have Hget := Lib.hid hget
   clear hget
   by_cases e : y = n
   ·subst e
    go_wp2
    go_ret
    refine ⟨?_, rfl⟩
    rw [show xs.any (· == y) = true from List.any_eq_true.2 ⟨xs[k], List.getElem_mem hlt, by rw [Hget.out]; simp⟩]; rfl
   ·have e' : (y == n) = false := by simpa using e
    go_wp2
    go_round
    case rel => exact ⟨k + 1, by omega, by go_num, by rw [List.take_succ_eq_append_getElem hlt, List.any_append, Hno.out, Hget.out]; simp [e]⟩
    case measure => simp [RowKit.intOf]; omega
  ·go_wp2
   go_ret
   refine ⟨?_, rfl⟩
   rw [List.take_of_length_le (by omega)] at Hno
   rw [Hno.out]; rfl
end Go.Proofs.YtelkcohhagblaaaGreat
namespace Go.Proofs.YtelkcohhagblaaaGreat
open Go.ChangeShapes Go.WideShapes Go.ChangeAt Go.RowKit Go.Joins Go.Deep
set_option maxRecDepth 100000
set_option maxHeartbeats 2000000
theorem okWide_iw {w : World} {base : Nat} {v : Value} (h : Value.okWide Tryz.prog w .any base 3 v) : ∃ n : Int, v = .int .i64 n ∧ (Lit.int .i64 n).wf = true := by
 simp only [Value.okWide, Tryz.underlying3, Cell.okWide] at h
 cases v with
 | int k n =>
   simp only [Cell.ok, Tryz.underlying3] at h
   obtain ⟨rfl, h1, h2⟩ := h
   exact ⟨n, rfl, by simp only [Lit.wf, Bool.and_eq_true, decide_eq_true_eq]; exact ⟨h1, h2⟩⟩
 | _ => simp [Cell.ok, Tryz.underlying3] at h
end Go.Proofs.YtelkcohhagblaaaGreat
namespace Go.Proofs.YtelkcohhagblaaaGreat
open Go.RowKit Go.Shelf
set_option maxHeartbeats 8000000
set_option maxRecDepth 100000
/-- The item that withdraws another one. -/
def vdI (M K vo : Int) : Itm := ⟨M, K, 7, ⟨#[]⟩, 0, 0, 0, false, 0, 0, 0, 0, 0, ⟨#[]⟩, 0, vo⟩
theorem vd_wide {M K vo : Int} (h : (Lit.int .i64 M).wf = true) (hv : (Lit.int .i64 vo).wf = true) : (vdI M K vo).Wide := ⟨by show (0 : Nat) ≤ maxLen; unfold maxLen; decide, by show (0 : Nat) ≤ maxLen; unfold maxLen; decide, by show (0 : Int) ≤ 7 ∧ (7 : Int) ≤ 255; decide, h, hv⟩
theorem wf_max {a b : Int} (ha : (Lit.int .i64 a).wf = true) (hb : (Lit.int .i64 b).wf = true) : (Lit.int .i64 (max a b)).wf = true := by
 rw [Int.max_def]
 split <;> assumption
theorem vd_ne {l : List Itm} {M K vo : Int} (h : apE l (vdI M K vo) = 0) : vo ≠ 0 := by
 have h1 : refE l (vdI M K vo) = 0 := by
  unfold apE at h
  split at h
  ·exact h
  ·contradiction
 have h2 : itemB (vdI M K vo) = true := by
  cases hb : itemB (vdI M K vo) with
  | true => rfl
  | false =>
    unfold refE at h1
    rw [hb] at h1
    split at h1
    ·omega
    ·simp at h1
 unfold itemB kindB at h2
 simp only [Bool.and_eq_true] at h2
 have h3 := h2.2.1
 have hk : (vdI M K vo).kd = 7 := rfl
 rw [if_neg (by omega), if_neg (by omega), if_neg (by omega), if_neg (by omega), if_neg (by omega), if_neg (by omega), if_pos hk] at h3
 have h4 : rngB vo 1 1000000 = true := h3
 have := rngB_iff.1 h4
 omega
theorem rests_len {l : List Itm} {day id fr tw : Int} {up : Bool} : (wRestsL l day id fr tw up).length ≤ l.length := by
 unfold wRestsL
 split
 ·refine Nat.le_trans (ascOf_len _) ?_
  rw [List.length_map]
  exact Nat.le_trans (spareL_sub _ _).length_le (Nat.le_trans (List.length_filter_le _ _) (countL_len l day))
 ·simp
theorem crests_len {l : List Itm} {day id : Int} : (colRestsL l day id).length ≤ 2 := by
 unfold colRestsL
 split
 ·exact Nat.le_trans (ascOf_len _) (List.length_filter_le _ _)
 ·simp
theorem llineage (a : Option Addr) (n cap : Nat) (l : List Itm) (id fr tw : Int) (up : Bool) (vo : Int) (hvo : (Lit.int .i64 vo).wf = true) (w : World) (h : ItmsAt w a n cap l) (hcap : l.length ≤ cap) :
 Calls Tryz.prog 10 #[.slice a n cap, .int .i64 id, .int .i64 fr, .int .i64 tw, .bool up, .int .i64 vo] w fun e w' => e = .returned (.bool true) ∧ Below w.heap.size w w' := by
 have hSh := fun W => lshelved W
 have hFe := lfew 18 a n cap l w h (by omega)
 have h18 : ((18 : Nat) : Int) = 18 := rfl
 rw [h18] at hFe
 have hlen := fun (hF : fewB l 18 = true) => fewB_len hF
 generalize hFF : fewB l 18 = F at *
 cases F with
 | false =>
   clear hlen
   go_enter Tryz.func10, Tryz.ntmps10
   go_wp2_with (first
    | (go_at_call 18; (with_reducible refine hFe.mono ?_); rintro e w1 ⟨rfl, hb1⟩)
    | (go_at_call 20; (with_reducible refine (hSh _).mono ?_); rintro e w2 ⟨rfl, hb2⟩))
   go_ret
   exact ⟨rfl, hb1.ch2 hb2⟩
 | true =>
   have hl18 := hlen rfl
   clear hlen
   rcases Nat.eq_zero_or_pos l.length with hl0 | hl0
   ·have hn0 : n = 0 := by rw [h.len]; exact hl0
    subst hn0
    go_enter Tryz.func10, Tryz.ntmps10
    go_wp2_with (first
     | (go_at_call 18; (with_reducible refine hFe.mono ?_); rintro e w1 ⟨rfl, hb1⟩)
     | (go_at_call 20; (with_reducible refine (hSh _).mono ?_); rintro e w2 ⟨rfl, hb2⟩))
    go_ret
    exact ⟨rfl, hb1.ch2 hb2⟩
   ·have hlq := h.len
    obtain ⟨q, rfl⟩ : ∃ q, n = q + 1 := ⟨n - 1, by omega⟩
    obtain ⟨AB, AO, rfl, hAb, _⟩ := h.get (i := q) (by omega)
    have hgt := fun W (hi : ItmsAt W (some ⟨AB, AO, none⟩) (q + 1) cap l) => hi.get (i := q) (by omega)
    have Hlq := Lib.hid hlq
    clear hlq
    generalize hK : (l.getD q default).kn = K at *
    have hW1 := fun W hi => sWay_any soutline (some ⟨AB, AO, none⟩) (q + 1) cap l K id fr tw W hi hcap
    have hR1 := fun W hi => sRests_any (some ⟨AB, AO, none⟩) (q + 1) cap l K id fr tw up W hi hcap
    have hC1 := fun W hi => sColour_any (some ⟨AB, AO, none⟩) (q + 1) cap l K id W hi hcap
    have hS1 := fun W hi => sColRests_any (some ⟨AB, AO, none⟩) (q + 1) cap l K id W hi hcap
    unfold QuadI at hW1
    unfold IntE at hR1 hS1
    simp only [Spn.v, Spn.cs] at hC1
    have hRl := rests_len (l := l) (day := K) (id := id) (fr := fr) (tw := tw) (up := up)
    have hSl := crests_len (l := l) (day := K) (id := id)
    have z1 : (0 : Int) ≤ (q : Int) := by omega
    have z3 : (q : Int) ≤ 100 := by have := Hlq.out; omega
    have Hk := Lib.hid hK
    clear hK
    obtain ⟨RL, hRL⟩ : ∃ R, wRestsL l K id fr tw up = R := ⟨_, rfl⟩
    obtain ⟨CL, hCL⟩ : ∃ R, colRestsL l K id = R := ⟨_, rfl⟩
    rw [hRL] at hR1 hRl
    rw [hCL] at hS1 hSl
    have HRL := Lib.hid hRL
    have HCL := Lib.hid hCL
    clear hRL hCL
    go_enter Tryz.func10, Tryz.ntmps10
    go_wp2_with (first
     | (go_at_call 18; (with_reducible refine hFe.mono ?_); rintro e w1 ⟨rfl, hb1⟩; have hi := h.below hb1; obtain ⟨_, _, he, _, g0⟩ := hgt _ hi; injection he with he; injection he with he1 he2; subst he1 he2; have g1 := g0.c1; rw [Hk.out] at g1; have hB := hb1)
     | (go_at_call 28; (with_reducible refine (hW1 _ hi).mono ?_); rintro e w2 ⟨rfl, hb⟩; clear g0 g1; have hi := hi.below hb; have hB := hB.ch2 hb)
     | (go_at_call 44; (with_reducible refine (hR1 _ hi).mono ?_); rintro e w3 ⟨rv, rfl, hb, hro⟩; obtain ⟨ra, rc, rfl, _⟩ := owns_slice hro; have hRi := IntsAt.of_owns hro (by omega); have hi := hi.below hb; have hB := hB.ch2 hb)
     | (go_at_call 32; (with_reducible refine (hC1 _ hi).mono ?_); rintro e w4 ⟨rfl, hb⟩; have hal4 := one_alloc w4 (Obj.cells #[.int .i64 (colR l K id).lo, .int .i64 (colR l K id).hi, .int .i64 (colR l K id).lob, .int .i64 (colR l K id).hib] 43); have hc4 := World.alloc_heap_new w4 (Obj.cells #[.int .i64 (colR l K id).lo, .int .i64 (colR l K id).hi, .int .i64 (colR l K id).lob, .int .i64 (colR l K id).hib] 43); have hi := (hi.below hb).below hal4; have hRi := (hRi.below hb).below hal4; have hB := (hB.ch2 hb).ch2 hal4)
     | (go_at_call 46; (with_reducible refine (hS1 _ hi).mono ?_); rintro e w5 ⟨sv, rfl, hb, hso⟩; obtain ⟨sa, sc, rfl, _⟩ := owns_slice hso; have hSi := IntsAt.of_owns hso (by omega); have hi := hi.below hb; have hRi := hRi.below hb; have hB := hB.ch2 hb; have hc5 := (hb.block w4.heap.size (by simp)).trans hc4))
    have hI5 := hi
    have hR5 := hRi
    have hS5 := hSi
    have hB5 := hB
    clear hW1 hR1 hC1 hS1 hFe
    go_loopw [24, 25] (fun mst i wr => ∃ (k : Nat) (M : Int), k ≤ q + 1 ∧ i = .int .i64 k ∧ mst = .int .i64 M ∧ (Lit.int .i64 M).wf = true ∧ Below w5.heap.size w5 wr) (fun _ i _ => (q + 1) - (RowKit.intOf i).toNat)
    case atStart => exact ⟨0, 1, by omega, rfl, rfl, by decide, Below.refl _ _⟩
    case round =>
    obtain ⟨k, M, hk, rfl, rfl, hM, hBr⟩ := hrel
    by_cases hlt : k < q + 1
    ·have i1 : (k : Int) < (q : Int) + 1 := by omega
     have hnn : (0 : Int) ≤ (k : Int) := by omega
     obtain ⟨_, _, he, _, g0⟩ := (hI5.below hBr).get (i := k) (by rw [← Hlq.out]; exact hlt)
     injection he with he
     injection he with he1 he2
     subst he1 he2
     have g1 := g0.c0
     clear g0
     generalize (l.getD k default).id = u at *
     go_wp2_with fail
     go_roundw
     case rel => exact ⟨k + 1, max M (wrap64 (u + 1)), by omega, by go_num, rfl, wf_max hM (wrap64_wf _), hBr⟩
     case measure => simp [RowKit.intOf]; omega
    have hnl : ¬ (k : Int) < (q : Int) + 1 := by omega
    clear hlt hk hgt z1 z3
    have hAp := fun W hi => sAppend_any (vdI M K vo) (some ⟨AB, AO, none⟩) (q + 1) cap l W hi hcap (fun y hy w1 => sCheckItem_any y w1 (by
     rcases hy with hy | rfl
     ·exact h.wide y hy
     ·exact vd_wide hM hvo))
    unfold RowE at hAp
    have HAw : Hid (∀ y ∈ apL l (vdI M K vo), y.Wide) := Lib.hid (by
     unfold apL
     split
     ·intro y hy
      rcases List.mem_append.1 hy with hy | hy
      ·exact h.wide y hy
      ·simp at hy; subst hy; exact vd_wide hM hvo
     ·intro y hy; cases hy)
    have HAl : Hid ((apL l (vdI M K vo)).length ≤ 19) := Lib.hid (by unfold apL; split <;> simp; omega)
    have hSo := fun W ma mc (hm : ItmsAt W ma (apL l (vdI M K vo)).length mc (apL l (vdI M K vo))) (hc : (apL l (vdI M K vo)).length ≤ mc) => sSherdOf_any ma _ mc (apL l (vdI M K vo)) K id W hm hc
    have hW2 := fun W ma mc (hm : ItmsAt W ma (apL l (vdI M K vo)).length mc (apL l (vdI M K vo))) (hc : (apL l (vdI M K vo)).length ≤ mc) => sWay_any soutline ma _ mc (apL l (vdI M K vo)) K id fr tw W hm hc
    have hC2 := fun W ma mc (hm : ItmsAt W ma (apL l (vdI M K vo)).length mc (apL l (vdI M K vo))) (hc : (apL l (vdI M K vo)).length ≤ mc) => sColour_any ma _ mc (apL l (vdI M K vo)) K id W hm hc
    unfold QuadI at hW2
    simp only [Spn.v, Spn.cs] at hC2
    simp only [Shd.v, Shd.cs] at hSo
    have hH1 := fun W (hx : IntsAt W ra RL.length rc RL) => r2has_any ra _ rc RL vo W hx
    have hH2 := fun W (hx : IntsAt W sa CL.length sc CL) => r2has_any sa _ sc CL vo W hx
    have zc5 := (Array.getElem?_eq_some_iff.1 hc5).1
    have HC5 := Lib.hid hc5
    have tokA : True := trivial
    have tokB : True := trivial
    clear hc5 hAb h18 hFF hl0 hRl hSl
    have Hv0 := Lib.hid (vd_ne (l := l) (M := M) (K := K) (vo := vo))
    have HLW := Lib.hid (fun (hm : lookE (l ++ [vdI M K vo]) K id = 0) (h1 : wayK l K id fr tw = true) (h2 : vo ∉ RL) => lineage_way (v := vdI M K vo) (up := up) rfl (Int.le_refl K) h1 hm (by rw [HRL.out]; exact h2))
    have HLC := Lib.hid (fun (h0 : vo ≠ 0) (hm : lookE (l ++ [vdI M K vo]) K id = 0) (h1 : colE l K id = 0) (h2 : vo ∉ CL) => lineage_col (v := vdI M K vo) rfl (Int.le_refl K) h0 h1 hm (by rw [HCL.out]; exact h2))
    have HA2 : Hid (apE l (vdI M K vo) = 0 → apL l (vdI M K vo) = l ++ [vdI M K vo]) := Lib.hid (fun h => by unfold apL; rw [if_pos h])
    have HK1 : Hid (wayK l K id fr tw = true → wayE l K id fr tw = 0) := Lib.hid (fun h => by rw [wayK, Bool.and_eq_true, decide_eq_true_eq] at h; exact h.1)
    have Hr1 : Hid ((RL.any fun x => x == vo) = false → vo ∉ RL) := Lib.hid (fun h hm => by rw [List.any_eq_false] at h; exact h vo hm (by simp))
    have Hr2 : Hid ((CL.any fun x => x == vo) = false → vo ∉ CL) := Lib.hid (fun h hm => by rw [List.any_eq_false] at h; exact h vo hm (by simp))
    have Htail : ∀ m, apL l (vdI M K vo) = m → lookE m K id = 0 → apE l (vdI M K vo) = 0 → lookE (l ++ [vdI M K vo]) K id = 0 := fun m h1 h2 h3 => by rw [← HA2.out h3, h1]; exact h2
    have Htl := Lib.hid Htail
    clear Htail
    generalize apE l (vdI M K vo) = E2 at *
    generalize hAA : apL l (vdI M K vo) = A2 at *
    have HAA := Lib.hid hAA
    clear hAA
    simp only [Itm.v, Itm.cs, vdI] at hAp
    generalize (RL.any fun x => x == vo) = r1 at *
    generalize (CL.any fun x => x == vo) = r2 at *
    generalize lookZ A2 K id = z at *
    by_cases hE2 : E2 = 0
    ·subst hE2
     have hA2 := HA2.out rfl
     by_cases hE3 : lookE A2 K id = 0
     ·have hM := Htl.out A2 rfl hE3 rfl
      rw [hE3] at hSo
      have HW := Lib.hid (HLW.out hM)
      have HC := Lib.hid (HLC.out (Hv0.out rfl) hM)
      clear hE3 hM
      rw [← hA2] at HW HC
      clear hA2 HLW HLC HA2 Htl Hv0
      generalize wayLo l K id fr tw = lo1 at *
      generalize wayHi l K id fr tw = hi1 at *
      generalize wayK l K id fr tw = K1 at *
      generalize wayE l K id fr tw = E1 at *
      generalize wayLo A2 K id fr tw = lo2 at *
      generalize wayHi A2 K id fr tw = hi2 at *
      generalize wayK A2 K id fr tw = K2 at *
      generalize wayE A2 K id fr tw = F2 at *
      generalize colE l K id = C1 at *
      generalize colE A2 K id = D1 at *
      generalize (colR l K id).lo = c1l at *
      generalize (colR l K id).hi = c1h at *
      generalize (colR l K id).lob = c1a at *
      generalize (colR l K id).hib = c1b at *
      generalize (colR A2 K id).lo = c2l at *
      generalize (colR A2 K id).hi = c2h at *
      generalize (colR A2 K id).lob = c2a at *
      generalize (colR A2 K id).hib = c2b at *
      by_cases d1 : C1 = 0
      ·subst d1
       cases r2 with
       | true =>
         clear HC
         cases K1 with
         | true =>
           have hE1 := HK1.out rfl
           subst hE1
           cases r1 with
           | true =>
             clear HW
             as_aux_lemma =>
              go_wp2_with (first
               | (go_at_call 23; (with_reducible refine (hAp _ (hI5.below hBr)).mono ?_); rintro e w8 ⟨mv, rfl, hb8, hmo⟩; obtain ⟨ma, mc, rfl, _⟩ := owns_slice hmo; have hmi := ItmsAt.of_owns hmo (by have := HAl.out; omega) HAw.out; have hmc := row_cap hmo; have hBr := hBr.ch2 hb8)
               | (go_at_call 50; (with_reducible refine (hSo _ ma mc hmi hmc).mono ?_); rintro e w9 ⟨rfl, hb⟩; have hal := one_alloc w9 (Obj.cells #[.int .i64 z.id, .string z.wa, .int .i64 z.pit, .int .i64 z.ly, .int .i64 z.co, .bool z.ft] 72); have hmi := (hmi.below hb).below hal; have hBr := (hBr.ch2 hb).ch2 hal)
               | (go_at_call 20; (with_reducible refine (hSh _).mono ?_); rintro e wz ⟨rfl, hbz⟩)
               | (go_at_call 51; clear tokA; (with_reducible refine (hH1 _ (hR5.below hBr)).mono ?_); rintro e w10 ⟨rfl, rfl⟩)
               | (go_at_call 28; (with_reducible refine (hW2 _ ma mc hmi hmc).mono ?_); rintro e w11 ⟨rfl, hb⟩; have hmi := hmi.below hb; have hBr := hBr.ch2 hb)
               | (go_at_call 51; clear tokB; (with_reducible refine (hH2 _ (hS5.below hBr)).mono ?_); rintro e w12 ⟨rfl, rfl⟩)
               | (go_at_call 32; (with_reducible refine (hC2 _ ma mc hmi hmc).mono ?_); rintro e w13 ⟨rfl, hb⟩; have hal := one_alloc w13 (Obj.cells #[.int .i64 c2l, .int .i64 c2h, .int .i64 c2a, .int .i64 c2b] 43); have hcc := alKeep (o' := Obj.cells #[.int .i64 c2l, .int .i64 c2h, .int .i64 c2a, .int .i64 c2b] 43) (((hBr.ch2 hb).block w4.heap.size zc5).trans HC5.out); have f0 := (SL.cells_of hcc).1 0; have f1 := (SL.cells_of hcc).1 1; simp at f0 f1; have zf := (Array.getElem?_eq_some_iff.1 hcc).1; have hBr := (hBr.ch2 hb).ch2 hal))
              go_ret
              exact ⟨rfl, (hB5.ch2 hBr).ch2 hbz⟩
           | false =>
             obtain ⟨w1, w2, w3⟩ := HW.out rfl (Hr1.out rfl)
             subst w1
             clear HW
             cases up with
             | true =>
               obtain ⟨k2, k3⟩ := w2 rfl
               subst k2 k3
               clear w2 w3
               as_aux_lemma =>
                go_wp2_with (first
                 | (go_at_call 23; (with_reducible refine (hAp _ (hI5.below hBr)).mono ?_); rintro e w8 ⟨mv, rfl, hb8, hmo⟩; obtain ⟨ma, mc, rfl, _⟩ := owns_slice hmo; have hmi := ItmsAt.of_owns hmo (by have := HAl.out; omega) HAw.out; have hmc := row_cap hmo; have hBr := hBr.ch2 hb8)
                 | (go_at_call 50; (with_reducible refine (hSo _ ma mc hmi hmc).mono ?_); rintro e w9 ⟨rfl, hb⟩; have hal := one_alloc w9 (Obj.cells #[.int .i64 z.id, .string z.wa, .int .i64 z.pit, .int .i64 z.ly, .int .i64 z.co, .bool z.ft] 72); have hmi := (hmi.below hb).below hal; have hBr := (hBr.ch2 hb).ch2 hal)
                 | (go_at_call 20; (with_reducible refine (hSh _).mono ?_); rintro e wz ⟨rfl, hbz⟩)
                 | (go_at_call 51; clear tokA; (with_reducible refine (hH1 _ (hR5.below hBr)).mono ?_); rintro e w10 ⟨rfl, rfl⟩)
                 | (go_at_call 28; (with_reducible refine (hW2 _ ma mc hmi hmc).mono ?_); rintro e w11 ⟨rfl, hb⟩; have hmi := hmi.below hb; have hBr := hBr.ch2 hb)
                 | (go_at_call 51; clear tokB; (with_reducible refine (hH2 _ (hS5.below hBr)).mono ?_); rintro e w12 ⟨rfl, rfl⟩)
                 | (go_at_call 32; (with_reducible refine (hC2 _ ma mc hmi hmc).mono ?_); rintro e w13 ⟨rfl, hb⟩; have hal := one_alloc w13 (Obj.cells #[.int .i64 c2l, .int .i64 c2h, .int .i64 c2a, .int .i64 c2b] 43); have hcc := alKeep (o' := Obj.cells #[.int .i64 c2l, .int .i64 c2h, .int .i64 c2a, .int .i64 c2b] 43) (((hBr.ch2 hb).block w4.heap.size zc5).trans HC5.out); have f0 := (SL.cells_of hcc).1 0; have f1 := (SL.cells_of hcc).1 1; simp at f0 f1; have zf := (Array.getElem?_eq_some_iff.1 hcc).1; have hBr := (hBr.ch2 hb).ch2 hal))
                go_ret
                exact ⟨rfl, (hB5.ch2 hBr).ch2 hbz⟩
             | false =>
               clear w2
               cases K2 with
               | false =>
                 clear w3
                 as_aux_lemma =>
                  go_wp2_with (first
                   | (go_at_call 23; (with_reducible refine (hAp _ (hI5.below hBr)).mono ?_); rintro e w8 ⟨mv, rfl, hb8, hmo⟩; obtain ⟨ma, mc, rfl, _⟩ := owns_slice hmo; have hmi := ItmsAt.of_owns hmo (by have := HAl.out; omega) HAw.out; have hmc := row_cap hmo; have hBr := hBr.ch2 hb8)
                   | (go_at_call 50; (with_reducible refine (hSo _ ma mc hmi hmc).mono ?_); rintro e w9 ⟨rfl, hb⟩; have hal := one_alloc w9 (Obj.cells #[.int .i64 z.id, .string z.wa, .int .i64 z.pit, .int .i64 z.ly, .int .i64 z.co, .bool z.ft] 72); have hmi := (hmi.below hb).below hal; have hBr := (hBr.ch2 hb).ch2 hal)
                   | (go_at_call 20; (with_reducible refine (hSh _).mono ?_); rintro e wz ⟨rfl, hbz⟩)
                   | (go_at_call 51; clear tokA; (with_reducible refine (hH1 _ (hR5.below hBr)).mono ?_); rintro e w10 ⟨rfl, rfl⟩)
                   | (go_at_call 28; (with_reducible refine (hW2 _ ma mc hmi hmc).mono ?_); rintro e w11 ⟨rfl, hb⟩; have hmi := hmi.below hb; have hBr := hBr.ch2 hb)
                   | (go_at_call 51; clear tokB; (with_reducible refine (hH2 _ (hS5.below hBr)).mono ?_); rintro e w12 ⟨rfl, rfl⟩)
                   | (go_at_call 32; (with_reducible refine (hC2 _ ma mc hmi hmc).mono ?_); rintro e w13 ⟨rfl, hb⟩; have hal := one_alloc w13 (Obj.cells #[.int .i64 c2l, .int .i64 c2h, .int .i64 c2a, .int .i64 c2b] 43); have hcc := alKeep (o' := Obj.cells #[.int .i64 c2l, .int .i64 c2h, .int .i64 c2a, .int .i64 c2b] 43) (((hBr.ch2 hb).block w4.heap.size zc5).trans HC5.out); have f0 := (SL.cells_of hcc).1 0; have f1 := (SL.cells_of hcc).1 1; simp at f0 f1; have zf := (Array.getElem?_eq_some_iff.1 hcc).1; have hBr := (hBr.ch2 hb).ch2 hal))
                  go_ret
                  exact ⟨rfl, (hB5.ch2 hBr).ch2 hbz⟩
               | true =>
                 have k3 := w3 rfl rfl
                 subst k3
                 clear w3
                 as_aux_lemma =>
                  go_wp2_with (first
                   | (go_at_call 23; (with_reducible refine (hAp _ (hI5.below hBr)).mono ?_); rintro e w8 ⟨mv, rfl, hb8, hmo⟩; obtain ⟨ma, mc, rfl, _⟩ := owns_slice hmo; have hmi := ItmsAt.of_owns hmo (by have := HAl.out; omega) HAw.out; have hmc := row_cap hmo; have hBr := hBr.ch2 hb8)
                   | (go_at_call 50; (with_reducible refine (hSo _ ma mc hmi hmc).mono ?_); rintro e w9 ⟨rfl, hb⟩; have hal := one_alloc w9 (Obj.cells #[.int .i64 z.id, .string z.wa, .int .i64 z.pit, .int .i64 z.ly, .int .i64 z.co, .bool z.ft] 72); have hmi := (hmi.below hb).below hal; have hBr := (hBr.ch2 hb).ch2 hal)
                   | (go_at_call 20; (with_reducible refine (hSh _).mono ?_); rintro e wz ⟨rfl, hbz⟩)
                   | (go_at_call 51; clear tokA; (with_reducible refine (hH1 _ (hR5.below hBr)).mono ?_); rintro e w10 ⟨rfl, rfl⟩)
                   | (go_at_call 28; (with_reducible refine (hW2 _ ma mc hmi hmc).mono ?_); rintro e w11 ⟨rfl, hb⟩; have hmi := hmi.below hb; have hBr := hBr.ch2 hb)
                   | (go_at_call 51; clear tokB; (with_reducible refine (hH2 _ (hS5.below hBr)).mono ?_); rintro e w12 ⟨rfl, rfl⟩)
                   | (go_at_call 32; (with_reducible refine (hC2 _ ma mc hmi hmc).mono ?_); rintro e w13 ⟨rfl, hb⟩; have hal := one_alloc w13 (Obj.cells #[.int .i64 c2l, .int .i64 c2h, .int .i64 c2a, .int .i64 c2b] 43); have hcc := alKeep (o' := Obj.cells #[.int .i64 c2l, .int .i64 c2h, .int .i64 c2a, .int .i64 c2b] 43) (((hBr.ch2 hb).block w4.heap.size zc5).trans HC5.out); have f0 := (SL.cells_of hcc).1 0; have f1 := (SL.cells_of hcc).1 1; simp at f0 f1; have zf := (Array.getElem?_eq_some_iff.1 hcc).1; have hBr := (hBr.ch2 hb).ch2 hal))
                  go_ret
                  exact ⟨rfl, (hB5.ch2 hBr).ch2 hbz⟩
         | false =>
           clear HW
           by_cases d2 : E1 = 0
           ·subst d2
            as_aux_lemma =>
             go_wp2_with (first
              | (go_at_call 23; (with_reducible refine (hAp _ (hI5.below hBr)).mono ?_); rintro e w8 ⟨mv, rfl, hb8, hmo⟩; obtain ⟨ma, mc, rfl, _⟩ := owns_slice hmo; have hmi := ItmsAt.of_owns hmo (by have := HAl.out; omega) HAw.out; have hmc := row_cap hmo; have hBr := hBr.ch2 hb8)
              | (go_at_call 50; (with_reducible refine (hSo _ ma mc hmi hmc).mono ?_); rintro e w9 ⟨rfl, hb⟩; have hal := one_alloc w9 (Obj.cells #[.int .i64 z.id, .string z.wa, .int .i64 z.pit, .int .i64 z.ly, .int .i64 z.co, .bool z.ft] 72); have hmi := (hmi.below hb).below hal; have hBr := (hBr.ch2 hb).ch2 hal)
              | (go_at_call 20; (with_reducible refine (hSh _).mono ?_); rintro e wz ⟨rfl, hbz⟩)
              | (go_at_call 51; clear tokA; (with_reducible refine (hH1 _ (hR5.below hBr)).mono ?_); rintro e w10 ⟨rfl, rfl⟩)
              | (go_at_call 28; (with_reducible refine (hW2 _ ma mc hmi hmc).mono ?_); rintro e w11 ⟨rfl, hb⟩; have hmi := hmi.below hb; have hBr := hBr.ch2 hb)
              | (go_at_call 51; clear tokB; (with_reducible refine (hH2 _ (hS5.below hBr)).mono ?_); rintro e w12 ⟨rfl, rfl⟩)
              | (go_at_call 32; (with_reducible refine (hC2 _ ma mc hmi hmc).mono ?_); rintro e w13 ⟨rfl, hb⟩; have hal := one_alloc w13 (Obj.cells #[.int .i64 c2l, .int .i64 c2h, .int .i64 c2a, .int .i64 c2b] 43); have hcc := alKeep (o' := Obj.cells #[.int .i64 c2l, .int .i64 c2h, .int .i64 c2a, .int .i64 c2b] 43) (((hBr.ch2 hb).block w4.heap.size zc5).trans HC5.out); have f0 := (SL.cells_of hcc).1 0; have f1 := (SL.cells_of hcc).1 1; simp at f0 f1; have zf := (Array.getElem?_eq_some_iff.1 hcc).1; have hBr := (hBr.ch2 hb).ch2 hal))
             go_ret
             exact ⟨rfl, (hB5.ch2 hBr).ch2 hbz⟩
           ·have e6 : (E1 == 0) = false := by simpa using d2
            clear d2
            as_aux_lemma =>
             go_wp2_with (first
              | (go_at_call 23; (with_reducible refine (hAp _ (hI5.below hBr)).mono ?_); rintro e w8 ⟨mv, rfl, hb8, hmo⟩; obtain ⟨ma, mc, rfl, _⟩ := owns_slice hmo; have hmi := ItmsAt.of_owns hmo (by have := HAl.out; omega) HAw.out; have hmc := row_cap hmo; have hBr := hBr.ch2 hb8)
              | (go_at_call 50; (with_reducible refine (hSo _ ma mc hmi hmc).mono ?_); rintro e w9 ⟨rfl, hb⟩; have hal := one_alloc w9 (Obj.cells #[.int .i64 z.id, .string z.wa, .int .i64 z.pit, .int .i64 z.ly, .int .i64 z.co, .bool z.ft] 72); have hmi := (hmi.below hb).below hal; have hBr := (hBr.ch2 hb).ch2 hal)
              | (go_at_call 20; (with_reducible refine (hSh _).mono ?_); rintro e wz ⟨rfl, hbz⟩)
              | (go_at_call 51; clear tokA; (with_reducible refine (hH1 _ (hR5.below hBr)).mono ?_); rintro e w10 ⟨rfl, rfl⟩)
              | (go_at_call 28; (with_reducible refine (hW2 _ ma mc hmi hmc).mono ?_); rintro e w11 ⟨rfl, hb⟩; have hmi := hmi.below hb; have hBr := hBr.ch2 hb)
              | (go_at_call 51; clear tokB; (with_reducible refine (hH2 _ (hS5.below hBr)).mono ?_); rintro e w12 ⟨rfl, rfl⟩)
              | (go_at_call 32; (with_reducible refine (hC2 _ ma mc hmi hmc).mono ?_); rintro e w13 ⟨rfl, hb⟩; have hal := one_alloc w13 (Obj.cells #[.int .i64 c2l, .int .i64 c2h, .int .i64 c2a, .int .i64 c2b] 43); have hcc := alKeep (o' := Obj.cells #[.int .i64 c2l, .int .i64 c2h, .int .i64 c2a, .int .i64 c2b] 43) (((hBr.ch2 hb).block w4.heap.size zc5).trans HC5.out); have f0 := (SL.cells_of hcc).1 0; have f1 := (SL.cells_of hcc).1 1; simp at f0 f1; have zf := (Array.getElem?_eq_some_iff.1 hcc).1; have hBr := (hBr.ch2 hb).ch2 hal))
             go_ret
             exact ⟨rfl, (hB5.ch2 hBr).ch2 hbz⟩
       | false =>
         obtain ⟨x1, x2, x3⟩ := HC.out rfl (Hr2.out rfl)
         subst x1 x2 x3
         clear HC
         cases K1 with
         | true =>
           have hE1 := HK1.out rfl
           subst hE1
           cases r1 with
           | true =>
             clear HW
             as_aux_lemma =>
              go_wp2_with (first
               | (go_at_call 23; (with_reducible refine (hAp _ (hI5.below hBr)).mono ?_); rintro e w8 ⟨mv, rfl, hb8, hmo⟩; obtain ⟨ma, mc, rfl, _⟩ := owns_slice hmo; have hmi := ItmsAt.of_owns hmo (by have := HAl.out; omega) HAw.out; have hmc := row_cap hmo; have hBr := hBr.ch2 hb8)
               | (go_at_call 50; (with_reducible refine (hSo _ ma mc hmi hmc).mono ?_); rintro e w9 ⟨rfl, hb⟩; have hal := one_alloc w9 (Obj.cells #[.int .i64 z.id, .string z.wa, .int .i64 z.pit, .int .i64 z.ly, .int .i64 z.co, .bool z.ft] 72); have hmi := (hmi.below hb).below hal; have hBr := (hBr.ch2 hb).ch2 hal)
               | (go_at_call 20; (with_reducible refine (hSh _).mono ?_); rintro e wz ⟨rfl, hbz⟩)
               | (go_at_call 51; clear tokA; (with_reducible refine (hH1 _ (hR5.below hBr)).mono ?_); rintro e w10 ⟨rfl, rfl⟩)
               | (go_at_call 28; (with_reducible refine (hW2 _ ma mc hmi hmc).mono ?_); rintro e w11 ⟨rfl, hb⟩; have hmi := hmi.below hb; have hBr := hBr.ch2 hb)
               | (go_at_call 51; clear tokB; (with_reducible refine (hH2 _ (hS5.below hBr)).mono ?_); rintro e w12 ⟨rfl, rfl⟩)
               | (go_at_call 32; (with_reducible refine (hC2 _ ma mc hmi hmc).mono ?_); rintro e w13 ⟨rfl, hb⟩; have hal := one_alloc w13 (Obj.cells #[.int .i64 c2l, .int .i64 c2h, .int .i64 c2a, .int .i64 c2b] 43); have hcc := alKeep (o' := Obj.cells #[.int .i64 c2l, .int .i64 c2h, .int .i64 c2a, .int .i64 c2b] 43) (((hBr.ch2 hb).block w4.heap.size zc5).trans HC5.out); have f0 := (SL.cells_of hcc).1 0; have f1 := (SL.cells_of hcc).1 1; simp at f0 f1; have zf := (Array.getElem?_eq_some_iff.1 hcc).1; have hBr := (hBr.ch2 hb).ch2 hal))
              go_ret
              exact ⟨rfl, (hB5.ch2 hBr).ch2 hbz⟩
           | false =>
             obtain ⟨w1, w2, w3⟩ := HW.out rfl (Hr1.out rfl)
             subst w1
             clear HW
             cases up with
             | true =>
               obtain ⟨k2, k3⟩ := w2 rfl
               subst k2 k3
               clear w2 w3
               as_aux_lemma =>
                go_wp2_with (first
                 | (go_at_call 23; (with_reducible refine (hAp _ (hI5.below hBr)).mono ?_); rintro e w8 ⟨mv, rfl, hb8, hmo⟩; obtain ⟨ma, mc, rfl, _⟩ := owns_slice hmo; have hmi := ItmsAt.of_owns hmo (by have := HAl.out; omega) HAw.out; have hmc := row_cap hmo; have hBr := hBr.ch2 hb8)
                 | (go_at_call 50; (with_reducible refine (hSo _ ma mc hmi hmc).mono ?_); rintro e w9 ⟨rfl, hb⟩; have hal := one_alloc w9 (Obj.cells #[.int .i64 z.id, .string z.wa, .int .i64 z.pit, .int .i64 z.ly, .int .i64 z.co, .bool z.ft] 72); have hmi := (hmi.below hb).below hal; have hBr := (hBr.ch2 hb).ch2 hal)
                 | (go_at_call 20; (with_reducible refine (hSh _).mono ?_); rintro e wz ⟨rfl, hbz⟩)
                 | (go_at_call 51; clear tokA; (with_reducible refine (hH1 _ (hR5.below hBr)).mono ?_); rintro e w10 ⟨rfl, rfl⟩)
                 | (go_at_call 28; (with_reducible refine (hW2 _ ma mc hmi hmc).mono ?_); rintro e w11 ⟨rfl, hb⟩; have hmi := hmi.below hb; have hBr := hBr.ch2 hb)
                 | (go_at_call 51; clear tokB; (with_reducible refine (hH2 _ (hS5.below hBr)).mono ?_); rintro e w12 ⟨rfl, rfl⟩)
                 | (go_at_call 32; (with_reducible refine (hC2 _ ma mc hmi hmc).mono ?_); rintro e w13 ⟨rfl, hb⟩; have hal := one_alloc w13 (Obj.cells #[.int .i64 c2l, .int .i64 c2h, .int .i64 c2a, .int .i64 c2b] 43); have hcc := alKeep (o' := Obj.cells #[.int .i64 c2l, .int .i64 c2h, .int .i64 c2a, .int .i64 c2b] 43) (((hBr.ch2 hb).block w4.heap.size zc5).trans HC5.out); have f0 := (SL.cells_of hcc).1 0; have f1 := (SL.cells_of hcc).1 1; simp at f0 f1; have zf := (Array.getElem?_eq_some_iff.1 hcc).1; have hBr := (hBr.ch2 hb).ch2 hal))
                go_ret
                exact ⟨rfl, (hB5.ch2 hBr).ch2 hbz⟩
             | false =>
               clear w2
               cases K2 with
               | false =>
                 clear w3
                 as_aux_lemma =>
                  go_wp2_with (first
                   | (go_at_call 23; (with_reducible refine (hAp _ (hI5.below hBr)).mono ?_); rintro e w8 ⟨mv, rfl, hb8, hmo⟩; obtain ⟨ma, mc, rfl, _⟩ := owns_slice hmo; have hmi := ItmsAt.of_owns hmo (by have := HAl.out; omega) HAw.out; have hmc := row_cap hmo; have hBr := hBr.ch2 hb8)
                   | (go_at_call 50; (with_reducible refine (hSo _ ma mc hmi hmc).mono ?_); rintro e w9 ⟨rfl, hb⟩; have hal := one_alloc w9 (Obj.cells #[.int .i64 z.id, .string z.wa, .int .i64 z.pit, .int .i64 z.ly, .int .i64 z.co, .bool z.ft] 72); have hmi := (hmi.below hb).below hal; have hBr := (hBr.ch2 hb).ch2 hal)
                   | (go_at_call 20; (with_reducible refine (hSh _).mono ?_); rintro e wz ⟨rfl, hbz⟩)
                   | (go_at_call 51; clear tokA; (with_reducible refine (hH1 _ (hR5.below hBr)).mono ?_); rintro e w10 ⟨rfl, rfl⟩)
                   | (go_at_call 28; (with_reducible refine (hW2 _ ma mc hmi hmc).mono ?_); rintro e w11 ⟨rfl, hb⟩; have hmi := hmi.below hb; have hBr := hBr.ch2 hb)
                   | (go_at_call 51; clear tokB; (with_reducible refine (hH2 _ (hS5.below hBr)).mono ?_); rintro e w12 ⟨rfl, rfl⟩)
                   | (go_at_call 32; (with_reducible refine (hC2 _ ma mc hmi hmc).mono ?_); rintro e w13 ⟨rfl, hb⟩; have hal := one_alloc w13 (Obj.cells #[.int .i64 c2l, .int .i64 c2h, .int .i64 c2a, .int .i64 c2b] 43); have hcc := alKeep (o' := Obj.cells #[.int .i64 c2l, .int .i64 c2h, .int .i64 c2a, .int .i64 c2b] 43) (((hBr.ch2 hb).block w4.heap.size zc5).trans HC5.out); have f0 := (SL.cells_of hcc).1 0; have f1 := (SL.cells_of hcc).1 1; simp at f0 f1; have zf := (Array.getElem?_eq_some_iff.1 hcc).1; have hBr := (hBr.ch2 hb).ch2 hal))
                  go_ret
                  exact ⟨rfl, (hB5.ch2 hBr).ch2 hbz⟩
               | true =>
                 have k3 := w3 rfl rfl
                 subst k3
                 clear w3
                 as_aux_lemma =>
                  go_wp2_with (first
                   | (go_at_call 23; (with_reducible refine (hAp _ (hI5.below hBr)).mono ?_); rintro e w8 ⟨mv, rfl, hb8, hmo⟩; obtain ⟨ma, mc, rfl, _⟩ := owns_slice hmo; have hmi := ItmsAt.of_owns hmo (by have := HAl.out; omega) HAw.out; have hmc := row_cap hmo; have hBr := hBr.ch2 hb8)
                   | (go_at_call 50; (with_reducible refine (hSo _ ma mc hmi hmc).mono ?_); rintro e w9 ⟨rfl, hb⟩; have hal := one_alloc w9 (Obj.cells #[.int .i64 z.id, .string z.wa, .int .i64 z.pit, .int .i64 z.ly, .int .i64 z.co, .bool z.ft] 72); have hmi := (hmi.below hb).below hal; have hBr := (hBr.ch2 hb).ch2 hal)
                   | (go_at_call 20; (with_reducible refine (hSh _).mono ?_); rintro e wz ⟨rfl, hbz⟩)
                   | (go_at_call 51; clear tokA; (with_reducible refine (hH1 _ (hR5.below hBr)).mono ?_); rintro e w10 ⟨rfl, rfl⟩)
                   | (go_at_call 28; (with_reducible refine (hW2 _ ma mc hmi hmc).mono ?_); rintro e w11 ⟨rfl, hb⟩; have hmi := hmi.below hb; have hBr := hBr.ch2 hb)
                   | (go_at_call 51; clear tokB; (with_reducible refine (hH2 _ (hS5.below hBr)).mono ?_); rintro e w12 ⟨rfl, rfl⟩)
                   | (go_at_call 32; (with_reducible refine (hC2 _ ma mc hmi hmc).mono ?_); rintro e w13 ⟨rfl, hb⟩; have hal := one_alloc w13 (Obj.cells #[.int .i64 c2l, .int .i64 c2h, .int .i64 c2a, .int .i64 c2b] 43); have hcc := alKeep (o' := Obj.cells #[.int .i64 c2l, .int .i64 c2h, .int .i64 c2a, .int .i64 c2b] 43) (((hBr.ch2 hb).block w4.heap.size zc5).trans HC5.out); have f0 := (SL.cells_of hcc).1 0; have f1 := (SL.cells_of hcc).1 1; simp at f0 f1; have zf := (Array.getElem?_eq_some_iff.1 hcc).1; have hBr := (hBr.ch2 hb).ch2 hal))
                  go_ret
                  exact ⟨rfl, (hB5.ch2 hBr).ch2 hbz⟩
         | false =>
           clear HW
           by_cases d2 : E1 = 0
           ·subst d2
            as_aux_lemma =>
             go_wp2_with (first
              | (go_at_call 23; (with_reducible refine (hAp _ (hI5.below hBr)).mono ?_); rintro e w8 ⟨mv, rfl, hb8, hmo⟩; obtain ⟨ma, mc, rfl, _⟩ := owns_slice hmo; have hmi := ItmsAt.of_owns hmo (by have := HAl.out; omega) HAw.out; have hmc := row_cap hmo; have hBr := hBr.ch2 hb8)
              | (go_at_call 50; (with_reducible refine (hSo _ ma mc hmi hmc).mono ?_); rintro e w9 ⟨rfl, hb⟩; have hal := one_alloc w9 (Obj.cells #[.int .i64 z.id, .string z.wa, .int .i64 z.pit, .int .i64 z.ly, .int .i64 z.co, .bool z.ft] 72); have hmi := (hmi.below hb).below hal; have hBr := (hBr.ch2 hb).ch2 hal)
              | (go_at_call 20; (with_reducible refine (hSh _).mono ?_); rintro e wz ⟨rfl, hbz⟩)
              | (go_at_call 51; clear tokA; (with_reducible refine (hH1 _ (hR5.below hBr)).mono ?_); rintro e w10 ⟨rfl, rfl⟩)
              | (go_at_call 28; (with_reducible refine (hW2 _ ma mc hmi hmc).mono ?_); rintro e w11 ⟨rfl, hb⟩; have hmi := hmi.below hb; have hBr := hBr.ch2 hb)
              | (go_at_call 51; clear tokB; (with_reducible refine (hH2 _ (hS5.below hBr)).mono ?_); rintro e w12 ⟨rfl, rfl⟩)
              | (go_at_call 32; (with_reducible refine (hC2 _ ma mc hmi hmc).mono ?_); rintro e w13 ⟨rfl, hb⟩; have hal := one_alloc w13 (Obj.cells #[.int .i64 c2l, .int .i64 c2h, .int .i64 c2a, .int .i64 c2b] 43); have hcc := alKeep (o' := Obj.cells #[.int .i64 c2l, .int .i64 c2h, .int .i64 c2a, .int .i64 c2b] 43) (((hBr.ch2 hb).block w4.heap.size zc5).trans HC5.out); have f0 := (SL.cells_of hcc).1 0; have f1 := (SL.cells_of hcc).1 1; simp at f0 f1; have zf := (Array.getElem?_eq_some_iff.1 hcc).1; have hBr := (hBr.ch2 hb).ch2 hal))
             go_ret
             exact ⟨rfl, (hB5.ch2 hBr).ch2 hbz⟩
           ·have e6 : (E1 == 0) = false := by simpa using d2
            clear d2
            as_aux_lemma =>
             go_wp2_with (first
              | (go_at_call 23; (with_reducible refine (hAp _ (hI5.below hBr)).mono ?_); rintro e w8 ⟨mv, rfl, hb8, hmo⟩; obtain ⟨ma, mc, rfl, _⟩ := owns_slice hmo; have hmi := ItmsAt.of_owns hmo (by have := HAl.out; omega) HAw.out; have hmc := row_cap hmo; have hBr := hBr.ch2 hb8)
              | (go_at_call 50; (with_reducible refine (hSo _ ma mc hmi hmc).mono ?_); rintro e w9 ⟨rfl, hb⟩; have hal := one_alloc w9 (Obj.cells #[.int .i64 z.id, .string z.wa, .int .i64 z.pit, .int .i64 z.ly, .int .i64 z.co, .bool z.ft] 72); have hmi := (hmi.below hb).below hal; have hBr := (hBr.ch2 hb).ch2 hal)
              | (go_at_call 20; (with_reducible refine (hSh _).mono ?_); rintro e wz ⟨rfl, hbz⟩)
              | (go_at_call 51; clear tokA; (with_reducible refine (hH1 _ (hR5.below hBr)).mono ?_); rintro e w10 ⟨rfl, rfl⟩)
              | (go_at_call 28; (with_reducible refine (hW2 _ ma mc hmi hmc).mono ?_); rintro e w11 ⟨rfl, hb⟩; have hmi := hmi.below hb; have hBr := hBr.ch2 hb)
              | (go_at_call 51; clear tokB; (with_reducible refine (hH2 _ (hS5.below hBr)).mono ?_); rintro e w12 ⟨rfl, rfl⟩)
              | (go_at_call 32; (with_reducible refine (hC2 _ ma mc hmi hmc).mono ?_); rintro e w13 ⟨rfl, hb⟩; have hal := one_alloc w13 (Obj.cells #[.int .i64 c2l, .int .i64 c2h, .int .i64 c2a, .int .i64 c2b] 43); have hcc := alKeep (o' := Obj.cells #[.int .i64 c2l, .int .i64 c2h, .int .i64 c2a, .int .i64 c2b] 43) (((hBr.ch2 hb).block w4.heap.size zc5).trans HC5.out); have f0 := (SL.cells_of hcc).1 0; have f1 := (SL.cells_of hcc).1 1; simp at f0 f1; have zf := (Array.getElem?_eq_some_iff.1 hcc).1; have hBr := (hBr.ch2 hb).ch2 hal))
             go_ret
             exact ⟨rfl, (hB5.ch2 hBr).ch2 hbz⟩
      ·have e5 : (C1 == 0) = false := by simpa using d1
       clear HC d1
       cases K1 with
       | true =>
         have hE1 := HK1.out rfl
         subst hE1
         cases r1 with
         | true =>
           clear HW
           as_aux_lemma =>
            go_wp2_with (first
             | (go_at_call 23; (with_reducible refine (hAp _ (hI5.below hBr)).mono ?_); rintro e w8 ⟨mv, rfl, hb8, hmo⟩; obtain ⟨ma, mc, rfl, _⟩ := owns_slice hmo; have hmi := ItmsAt.of_owns hmo (by have := HAl.out; omega) HAw.out; have hmc := row_cap hmo; have hBr := hBr.ch2 hb8)
             | (go_at_call 50; (with_reducible refine (hSo _ ma mc hmi hmc).mono ?_); rintro e w9 ⟨rfl, hb⟩; have hal := one_alloc w9 (Obj.cells #[.int .i64 z.id, .string z.wa, .int .i64 z.pit, .int .i64 z.ly, .int .i64 z.co, .bool z.ft] 72); have hmi := (hmi.below hb).below hal; have hBr := (hBr.ch2 hb).ch2 hal)
             | (go_at_call 20; (with_reducible refine (hSh _).mono ?_); rintro e wz ⟨rfl, hbz⟩)
             | (go_at_call 51; clear tokA; (with_reducible refine (hH1 _ (hR5.below hBr)).mono ?_); rintro e w10 ⟨rfl, rfl⟩)
             | (go_at_call 28; (with_reducible refine (hW2 _ ma mc hmi hmc).mono ?_); rintro e w11 ⟨rfl, hb⟩; have hmi := hmi.below hb; have hBr := hBr.ch2 hb)
             | (go_at_call 51; clear tokB; (with_reducible refine (hH2 _ (hS5.below hBr)).mono ?_); rintro e w12 ⟨rfl, rfl⟩)
             | (go_at_call 32; (with_reducible refine (hC2 _ ma mc hmi hmc).mono ?_); rintro e w13 ⟨rfl, hb⟩; have hal := one_alloc w13 (Obj.cells #[.int .i64 c2l, .int .i64 c2h, .int .i64 c2a, .int .i64 c2b] 43); have hcc := alKeep (o' := Obj.cells #[.int .i64 c2l, .int .i64 c2h, .int .i64 c2a, .int .i64 c2b] 43) (((hBr.ch2 hb).block w4.heap.size zc5).trans HC5.out); have f0 := (SL.cells_of hcc).1 0; have f1 := (SL.cells_of hcc).1 1; simp at f0 f1; have zf := (Array.getElem?_eq_some_iff.1 hcc).1; have hBr := (hBr.ch2 hb).ch2 hal))
            go_ret
            exact ⟨rfl, (hB5.ch2 hBr).ch2 hbz⟩
         | false =>
           obtain ⟨w1, w2, w3⟩ := HW.out rfl (Hr1.out rfl)
           subst w1
           clear HW
           cases up with
           | true =>
             obtain ⟨k2, k3⟩ := w2 rfl
             subst k2 k3
             clear w2 w3
             as_aux_lemma =>
              go_wp2_with (first
               | (go_at_call 23; (with_reducible refine (hAp _ (hI5.below hBr)).mono ?_); rintro e w8 ⟨mv, rfl, hb8, hmo⟩; obtain ⟨ma, mc, rfl, _⟩ := owns_slice hmo; have hmi := ItmsAt.of_owns hmo (by have := HAl.out; omega) HAw.out; have hmc := row_cap hmo; have hBr := hBr.ch2 hb8)
               | (go_at_call 50; (with_reducible refine (hSo _ ma mc hmi hmc).mono ?_); rintro e w9 ⟨rfl, hb⟩; have hal := one_alloc w9 (Obj.cells #[.int .i64 z.id, .string z.wa, .int .i64 z.pit, .int .i64 z.ly, .int .i64 z.co, .bool z.ft] 72); have hmi := (hmi.below hb).below hal; have hBr := (hBr.ch2 hb).ch2 hal)
               | (go_at_call 20; (with_reducible refine (hSh _).mono ?_); rintro e wz ⟨rfl, hbz⟩)
               | (go_at_call 51; clear tokA; (with_reducible refine (hH1 _ (hR5.below hBr)).mono ?_); rintro e w10 ⟨rfl, rfl⟩)
               | (go_at_call 28; (with_reducible refine (hW2 _ ma mc hmi hmc).mono ?_); rintro e w11 ⟨rfl, hb⟩; have hmi := hmi.below hb; have hBr := hBr.ch2 hb)
               | (go_at_call 51; clear tokB; (with_reducible refine (hH2 _ (hS5.below hBr)).mono ?_); rintro e w12 ⟨rfl, rfl⟩)
               | (go_at_call 32; (with_reducible refine (hC2 _ ma mc hmi hmc).mono ?_); rintro e w13 ⟨rfl, hb⟩; have hal := one_alloc w13 (Obj.cells #[.int .i64 c2l, .int .i64 c2h, .int .i64 c2a, .int .i64 c2b] 43); have hcc := alKeep (o' := Obj.cells #[.int .i64 c2l, .int .i64 c2h, .int .i64 c2a, .int .i64 c2b] 43) (((hBr.ch2 hb).block w4.heap.size zc5).trans HC5.out); have f0 := (SL.cells_of hcc).1 0; have f1 := (SL.cells_of hcc).1 1; simp at f0 f1; have zf := (Array.getElem?_eq_some_iff.1 hcc).1; have hBr := (hBr.ch2 hb).ch2 hal))
              go_ret
              exact ⟨rfl, (hB5.ch2 hBr).ch2 hbz⟩
           | false =>
             clear w2
             cases K2 with
             | false =>
               clear w3
               as_aux_lemma =>
                go_wp2_with (first
                 | (go_at_call 23; (with_reducible refine (hAp _ (hI5.below hBr)).mono ?_); rintro e w8 ⟨mv, rfl, hb8, hmo⟩; obtain ⟨ma, mc, rfl, _⟩ := owns_slice hmo; have hmi := ItmsAt.of_owns hmo (by have := HAl.out; omega) HAw.out; have hmc := row_cap hmo; have hBr := hBr.ch2 hb8)
                 | (go_at_call 50; (with_reducible refine (hSo _ ma mc hmi hmc).mono ?_); rintro e w9 ⟨rfl, hb⟩; have hal := one_alloc w9 (Obj.cells #[.int .i64 z.id, .string z.wa, .int .i64 z.pit, .int .i64 z.ly, .int .i64 z.co, .bool z.ft] 72); have hmi := (hmi.below hb).below hal; have hBr := (hBr.ch2 hb).ch2 hal)
                 | (go_at_call 20; (with_reducible refine (hSh _).mono ?_); rintro e wz ⟨rfl, hbz⟩)
                 | (go_at_call 51; clear tokA; (with_reducible refine (hH1 _ (hR5.below hBr)).mono ?_); rintro e w10 ⟨rfl, rfl⟩)
                 | (go_at_call 28; (with_reducible refine (hW2 _ ma mc hmi hmc).mono ?_); rintro e w11 ⟨rfl, hb⟩; have hmi := hmi.below hb; have hBr := hBr.ch2 hb)
                 | (go_at_call 51; clear tokB; (with_reducible refine (hH2 _ (hS5.below hBr)).mono ?_); rintro e w12 ⟨rfl, rfl⟩)
                 | (go_at_call 32; (with_reducible refine (hC2 _ ma mc hmi hmc).mono ?_); rintro e w13 ⟨rfl, hb⟩; have hal := one_alloc w13 (Obj.cells #[.int .i64 c2l, .int .i64 c2h, .int .i64 c2a, .int .i64 c2b] 43); have hcc := alKeep (o' := Obj.cells #[.int .i64 c2l, .int .i64 c2h, .int .i64 c2a, .int .i64 c2b] 43) (((hBr.ch2 hb).block w4.heap.size zc5).trans HC5.out); have f0 := (SL.cells_of hcc).1 0; have f1 := (SL.cells_of hcc).1 1; simp at f0 f1; have zf := (Array.getElem?_eq_some_iff.1 hcc).1; have hBr := (hBr.ch2 hb).ch2 hal))
                go_ret
                exact ⟨rfl, (hB5.ch2 hBr).ch2 hbz⟩
             | true =>
               have k3 := w3 rfl rfl
               subst k3
               clear w3
               as_aux_lemma =>
                go_wp2_with (first
                 | (go_at_call 23; (with_reducible refine (hAp _ (hI5.below hBr)).mono ?_); rintro e w8 ⟨mv, rfl, hb8, hmo⟩; obtain ⟨ma, mc, rfl, _⟩ := owns_slice hmo; have hmi := ItmsAt.of_owns hmo (by have := HAl.out; omega) HAw.out; have hmc := row_cap hmo; have hBr := hBr.ch2 hb8)
                 | (go_at_call 50; (with_reducible refine (hSo _ ma mc hmi hmc).mono ?_); rintro e w9 ⟨rfl, hb⟩; have hal := one_alloc w9 (Obj.cells #[.int .i64 z.id, .string z.wa, .int .i64 z.pit, .int .i64 z.ly, .int .i64 z.co, .bool z.ft] 72); have hmi := (hmi.below hb).below hal; have hBr := (hBr.ch2 hb).ch2 hal)
                 | (go_at_call 20; (with_reducible refine (hSh _).mono ?_); rintro e wz ⟨rfl, hbz⟩)
                 | (go_at_call 51; clear tokA; (with_reducible refine (hH1 _ (hR5.below hBr)).mono ?_); rintro e w10 ⟨rfl, rfl⟩)
                 | (go_at_call 28; (with_reducible refine (hW2 _ ma mc hmi hmc).mono ?_); rintro e w11 ⟨rfl, hb⟩; have hmi := hmi.below hb; have hBr := hBr.ch2 hb)
                 | (go_at_call 51; clear tokB; (with_reducible refine (hH2 _ (hS5.below hBr)).mono ?_); rintro e w12 ⟨rfl, rfl⟩)
                 | (go_at_call 32; (with_reducible refine (hC2 _ ma mc hmi hmc).mono ?_); rintro e w13 ⟨rfl, hb⟩; have hal := one_alloc w13 (Obj.cells #[.int .i64 c2l, .int .i64 c2h, .int .i64 c2a, .int .i64 c2b] 43); have hcc := alKeep (o' := Obj.cells #[.int .i64 c2l, .int .i64 c2h, .int .i64 c2a, .int .i64 c2b] 43) (((hBr.ch2 hb).block w4.heap.size zc5).trans HC5.out); have f0 := (SL.cells_of hcc).1 0; have f1 := (SL.cells_of hcc).1 1; simp at f0 f1; have zf := (Array.getElem?_eq_some_iff.1 hcc).1; have hBr := (hBr.ch2 hb).ch2 hal))
                go_ret
                exact ⟨rfl, (hB5.ch2 hBr).ch2 hbz⟩
       | false =>
         clear HW
         by_cases d2 : E1 = 0
         ·subst d2
          as_aux_lemma =>
           go_wp2_with (first
            | (go_at_call 23; (with_reducible refine (hAp _ (hI5.below hBr)).mono ?_); rintro e w8 ⟨mv, rfl, hb8, hmo⟩; obtain ⟨ma, mc, rfl, _⟩ := owns_slice hmo; have hmi := ItmsAt.of_owns hmo (by have := HAl.out; omega) HAw.out; have hmc := row_cap hmo; have hBr := hBr.ch2 hb8)
            | (go_at_call 50; (with_reducible refine (hSo _ ma mc hmi hmc).mono ?_); rintro e w9 ⟨rfl, hb⟩; have hal := one_alloc w9 (Obj.cells #[.int .i64 z.id, .string z.wa, .int .i64 z.pit, .int .i64 z.ly, .int .i64 z.co, .bool z.ft] 72); have hmi := (hmi.below hb).below hal; have hBr := (hBr.ch2 hb).ch2 hal)
            | (go_at_call 20; (with_reducible refine (hSh _).mono ?_); rintro e wz ⟨rfl, hbz⟩)
            | (go_at_call 51; clear tokA; (with_reducible refine (hH1 _ (hR5.below hBr)).mono ?_); rintro e w10 ⟨rfl, rfl⟩)
            | (go_at_call 28; (with_reducible refine (hW2 _ ma mc hmi hmc).mono ?_); rintro e w11 ⟨rfl, hb⟩; have hmi := hmi.below hb; have hBr := hBr.ch2 hb)
            | (go_at_call 51; clear tokB; (with_reducible refine (hH2 _ (hS5.below hBr)).mono ?_); rintro e w12 ⟨rfl, rfl⟩)
            | (go_at_call 32; (with_reducible refine (hC2 _ ma mc hmi hmc).mono ?_); rintro e w13 ⟨rfl, hb⟩; have hal := one_alloc w13 (Obj.cells #[.int .i64 c2l, .int .i64 c2h, .int .i64 c2a, .int .i64 c2b] 43); have hcc := alKeep (o' := Obj.cells #[.int .i64 c2l, .int .i64 c2h, .int .i64 c2a, .int .i64 c2b] 43) (((hBr.ch2 hb).block w4.heap.size zc5).trans HC5.out); have f0 := (SL.cells_of hcc).1 0; have f1 := (SL.cells_of hcc).1 1; simp at f0 f1; have zf := (Array.getElem?_eq_some_iff.1 hcc).1; have hBr := (hBr.ch2 hb).ch2 hal))
           go_ret
           exact ⟨rfl, (hB5.ch2 hBr).ch2 hbz⟩
         ·have e6 : (E1 == 0) = false := by simpa using d2
          clear d2
          as_aux_lemma =>
           go_wp2_with (first
            | (go_at_call 23; (with_reducible refine (hAp _ (hI5.below hBr)).mono ?_); rintro e w8 ⟨mv, rfl, hb8, hmo⟩; obtain ⟨ma, mc, rfl, _⟩ := owns_slice hmo; have hmi := ItmsAt.of_owns hmo (by have := HAl.out; omega) HAw.out; have hmc := row_cap hmo; have hBr := hBr.ch2 hb8)
            | (go_at_call 50; (with_reducible refine (hSo _ ma mc hmi hmc).mono ?_); rintro e w9 ⟨rfl, hb⟩; have hal := one_alloc w9 (Obj.cells #[.int .i64 z.id, .string z.wa, .int .i64 z.pit, .int .i64 z.ly, .int .i64 z.co, .bool z.ft] 72); have hmi := (hmi.below hb).below hal; have hBr := (hBr.ch2 hb).ch2 hal)
            | (go_at_call 20; (with_reducible refine (hSh _).mono ?_); rintro e wz ⟨rfl, hbz⟩)
            | (go_at_call 51; clear tokA; (with_reducible refine (hH1 _ (hR5.below hBr)).mono ?_); rintro e w10 ⟨rfl, rfl⟩)
            | (go_at_call 28; (with_reducible refine (hW2 _ ma mc hmi hmc).mono ?_); rintro e w11 ⟨rfl, hb⟩; have hmi := hmi.below hb; have hBr := hBr.ch2 hb)
            | (go_at_call 51; clear tokB; (with_reducible refine (hH2 _ (hS5.below hBr)).mono ?_); rintro e w12 ⟨rfl, rfl⟩)
            | (go_at_call 32; (with_reducible refine (hC2 _ ma mc hmi hmc).mono ?_); rintro e w13 ⟨rfl, hb⟩; have hal := one_alloc w13 (Obj.cells #[.int .i64 c2l, .int .i64 c2h, .int .i64 c2a, .int .i64 c2b] 43); have hcc := alKeep (o' := Obj.cells #[.int .i64 c2l, .int .i64 c2h, .int .i64 c2a, .int .i64 c2b] 43) (((hBr.ch2 hb).block w4.heap.size zc5).trans HC5.out); have f0 := (SL.cells_of hcc).1 0; have f1 := (SL.cells_of hcc).1 1; simp at f0 f1; have zf := (Array.getElem?_eq_some_iff.1 hcc).1; have hBr := (hBr.ch2 hb).ch2 hal))
           go_ret
           exact ⟨rfl, (hB5.ch2 hBr).ch2 hbz⟩
     ·have e3 : (lookE A2 K id != 0) = true := by simpa using hE3
      clear hE3 hA2
      go_wp2_with (first
       | (go_at_call 23; (with_reducible refine (hAp _ (hI5.below hBr)).mono ?_); rintro e w8 ⟨mv, rfl, hb8, hmo⟩; obtain ⟨ma, mc, rfl, _⟩ := owns_slice hmo; have hmi := ItmsAt.of_owns hmo (by have := HAl.out; omega) HAw.out; have hmc := row_cap hmo; have hBr := hBr.ch2 hb8)
       | (go_at_call 50; (with_reducible refine (hSo _ ma mc hmi hmc).mono ?_); rintro e w9 ⟨rfl, hb⟩; have hal := one_alloc w9 (Obj.cells #[.int .i64 z.id, .string z.wa, .int .i64 z.pit, .int .i64 z.ly, .int .i64 z.co, .bool z.ft] 72); have hBr := (hBr.ch2 hb).ch2 hal)
       | (go_at_call 20; (with_reducible refine (hSh _).mono ?_); rintro e wz ⟨rfl, hbz⟩))
      go_ret
      exact ⟨rfl, (hB5.ch2 hBr).ch2 hbz⟩
    ·have e2 : (E2 != 0) = true := by simpa using hE2
     clear hE2
     go_wp2_with (first
      | (go_at_call 23; (with_reducible refine (hAp _ (hI5.below hBr)).mono ?_); rintro e w8 ⟨mv, rfl, hb8, hmo⟩; obtain ⟨ma, mc, rfl, _⟩ := owns_slice hmo; have hmi := ItmsAt.of_owns hmo (by have := HAl.out; omega) HAw.out; have hmc := row_cap hmo; have hBr := hBr.ch2 hb8)
      | (go_at_call 50; (with_reducible refine (hSo _ ma mc hmi hmc).mono ?_); rintro e w9 ⟨rfl, hb⟩; have hal := one_alloc w9 (Obj.cells #[.int .i64 z.id, .string z.wa, .int .i64 z.pit, .int .i64 z.ly, .int .i64 z.co, .bool z.ft] 72); have hBr := (hBr.ch2 hb).ch2 hal)
      | (go_at_call 20; (with_reducible refine (hSh _).mono ?_); rintro e wz ⟨rfl, hbz⟩))
     go_ret
     exact ⟨rfl, (hB5.ch2 hBr).ch2 hbz⟩
end Go.Proofs.YtelkcohhagblaaaGreat
namespace Go.Proofs.YtelkcohhagblaaaGreat
open Go.ChangeShapes Go.WideShapes Go.ChangeAt Go.RowKit Go.Joins Go.Deep
set_option maxRecDepth 100000 in
theorem sherdLineage_lifted (os : Os) (started : os.Started) (H : Type) (enc : TypeId × Value → H) :
 ReturnsInHanded {} Tryz.checked os 10 .any (Rows.sherdLineageSpec.pre6 enc Tryz.prog Tryz.f10 Rows.sherdLineageRow.domain false) (Rows.sherdLineageSpec.post enc Tryz.prog Tryz.f10 false true false false) := by
 refine returnsInHanded_of_change_sized (C := Tryz.checked) Tryz.own started (by kernel_rfl) Tryz.func10
  (ChangeSpec.witness6 (enc := enc) (C := Tryz.checked) false ⟨#[], #[.slice none 0 0, .int .i64 0, .int .i64 0, .int .i64 0, .bool false, .int .i64 0], []⟩ 8 (by kernel_rfl) (by kernel_rfl) (by kernel_rfl) (by kernel_rfl)) ?_
 intro W base args ds gs before hval0 hW _ hsz0 _
 have hsz : (DataW.weightsEach Tryz.prog (Tryz.f10.params.toList ++ Rows.sherdLineageSpec.plain.varTypes Tryz.prog) (ds ++ gs)).all (· ≤ reachBytes) = true := hsz0
 clear hsz0
 have hval : ∀ (j : Nat) t v, Tryz.f10.params[j]? = some t → args[j]? = some v → Value.okWide Tryz.prog W .any base t v := hval0
 have hW' := hW
 obtain ⟨p, q, hA0, hV, rfl, _, _⟩ := hW
 have hA : DataW.TrodAll enc Tryz.prog W 0 (fun _ => true) true Tryz.f10.params.toList args.toList ds p := hA0
 rw [Tryz.params10] at hA hval hsz
 obtain ⟨v0, vs0, d0, ds0, p0, q0, hargs, rfl, rfl, h0, r0⟩ := trodAll_cons hA
 obtain ⟨v1, vs1, d1, ds1, p1, q1, rfl, rfl, rfl, h1, r1⟩ := trodAll_cons r0
 obtain ⟨v2, vs2, d2, ds2, p2, q2, rfl, rfl, rfl, h2, r2⟩ := trodAll_cons r1
 obtain ⟨v3, vs3, d3, ds3, p3, q3, rfl, rfl, rfl, h3, r3⟩ := trodAll_cons r2
 obtain ⟨v4, vs4, d4, ds4, p4, q4, rfl, rfl, rfl, h4, r4⟩ := trodAll_cons r3
 obtain ⟨v5, vs5, d5, ds5, p5, q5, rfl, rfl, rfl, h5, r5⟩ := trodAll_cons r4
 obtain ⟨rfl, rfl, rfl⟩ := trodAll_nil r5
 obtain rfl : args = #[v0, v1, v2, v3, v4, v5] := by cases args; simp_all
 obtain ⟨rfl, rfl⟩ := trodVars_none hV
 clear hA0 hval0
 have hlt : ∀ x ∈ p0 ++ p1 ++ p2 ++ p3 ++ p4 ++ p5, x.block < W.heap.size := fun x hx => by have := hW'.lt x (by simpa using hx); simpa using this
 obtain ⟨a0, n0, k0, xs0, rfl, hb0, hn0⟩ := items_open (hval 0 22 v0 rfl rfl) h0 (fun n hn => by
  have := List.all_eq_true.1 hsz _ (DataW.weights_mem_each (j := 0) rfl rfl n hn)
  simpa using this)
 obtain ⟨x1, rfl⟩ := okWide_int Tryz.underlying3 (hval 1 3 v1 rfl rfl)
 obtain ⟨x2, rfl⟩ := okWide_int Tryz.underlying3 (hval 2 3 v2 rfl rfl)
 obtain ⟨x3, rfl⟩ := okWide_int Tryz.underlying3 (hval 3 3 v3 rfl rfl)
 obtain ⟨x4, rfl⟩ := okWide_bool Tryz.underlying4 (hval 4 4 v4 rfl rfl)
 obtain ⟨x5, rfl, hw5⟩ := okWide_iw (hval 5 3 v5 rfl rfl)
 refine (llineage a0 n0 k0 xs0 x1 x2 x3 x4 x5 hw5 W hb0 hn0).mono fun e W' ⟨he, hw⟩ => ?_
 subst he
 exact ⟨_, rfl, ⟨_, _, _, [], _, [], hW', trodAll_mk1 (shut_bool Tryz.underlying4 _), (trodAll_cons_mk (Below.trod Tryz.laidOut (by kernel_rfl) (of_decide_eq_true (by kernel_rfl)) h0 hw (fun x hx => hlt x (by simp [hx]))) (trodAll_cons_mk (Below.trod Tryz.laidOut (by kernel_rfl) (of_decide_eq_true (by kernel_rfl)) h1 hw (fun x hx => hlt x (by simp [hx]))) (trodAll_cons_mk (Below.trod Tryz.laidOut (by kernel_rfl) (of_decide_eq_true (by kernel_rfl)) h2 hw (fun x hx => hlt x (by simp [hx]))) (trodAll_cons_mk (Below.trod Tryz.laidOut (by kernel_rfl) (of_decide_eq_true (by kernel_rfl)) h3 hw (fun x hx => hlt x (by simp [hx]))) (trodAll_cons_mk (Below.trod Tryz.laidOut (by kernel_rfl) (of_decide_eq_true (by kernel_rfl)) h4 hw (fun x hx => hlt x (by simp [hx]))) (trodAll_cons_mk (Below.trod Tryz.laidOut (by kernel_rfl) (of_decide_eq_true (by kernel_rfl)) h5 hw (fun x hx => hlt x (by simp [hx]))) trodAll_mk0)))))), rfl, hw.frame _, fun h => by cases h⟩⟩
set_option maxRecDepth 100000 in
set_option maxHeartbeats 8000000 in
theorem sherdLineage_closed : joinedFacts Tryz.prog 10 Tryz.f10 Rows.sherdLineageSpec Rows.sherdLineageRow = true := by
 unfold joinedFacts
 repeat' (with_reducible refine (Bool.and_eq_true _ _).mpr ⟨?_, ?_⟩)
 all_goals as_aux_lemma => kernel_rfl
theorem sherdLineage_holds : Rows.SherdLineageSaid :=
 OpenClaim.holds_of_wide 10 Tryz.f10 rfl rfl rfl rfl rfl rfl rfl ⟨rfl, rfl, rfl, rfl, rfl⟩ rfl rfl rfl rfl rfl (by kernel_rfl) Tryz.func10 sherdLineage_closed
  (of_decide_eq_true (by kernel_rfl)) (by unfold Func.isWrapper; rw [if_neg (of_decide_eq_false (by kernel_rfl))]; exact ⟨rfl, rfl⟩)
  (fun os started H enc _ => sherdLineage_lifted os started H enc)
#print axioms sherdLineage_holds
end Go.Proofs.YtelkcohhagblaaaGreat
