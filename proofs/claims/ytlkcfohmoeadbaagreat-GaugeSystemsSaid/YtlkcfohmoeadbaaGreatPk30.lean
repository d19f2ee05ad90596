/-
  Lemmas and walks for the laws on bounds and their sums; the parts' own heads say what each proves, for every input.
-/
import Derived.Test.YtlkcfohmoeadbaaGreatPk22
import Derived.Test.YtlkcfohmoeadbaaGreatPk29
import Derived.Test.YtlkcfohmoeadbaaGreatPk13
import Derived.Test.YtlkcfohmoeadbaaGreatPk26
import Derived.Test.YtlkcfohmoeadbaaGreatPk04
import Derived.Test.YtlkcfohmoeadbaaGreatPk11
set_option linter.unusedSimpArgs false
set_option linter.unusedVariables false
set_option linter.unnecessarySimpa false
/-
  Chains of worlds that leave alone what lay below the first one's edge (for a seat without the circles).
-/
namespace Go.Proofs.YtlkcfohmoeadbaaGreat
open Go.RowKit

theorem _root_.Go.RowKit.Below.ch {a b c : World} (h : Below a.heap.size a b) (h2 : Below b.heap.size b c) : Below a.heap.size a c := h.trans (h2.mono h.size)
theorem _root_.Go.RowKit.Below.al {a b : World} (h : Below a.heap.size a b) (o : Obj) : Below a.heap.size a (b.alloc o) := h.alloc h.size o
end Go.Proofs.YtlkcfohmoeadbaaGreat

/-
  Gauge, walked: Ids.
-/
namespace Go.Proofs.YtlkcfohmoeadbaaGreat
open Go.RowKit Go.Shelf
set_option maxHeartbeats 4000000
set_option maxRecDepth 100000

/-- The bounds at some indices; whether these are all indices of bounds. -/
def pickB (bs : List Bd) (xs : List Int) : List Bd := xs.map (fun i => bs.getD i.toNat default)
def inB (bs : List Bd) (i : Int) : Bool := withinB i 0 ((bs.length : Int) - 1)
def idE (p : Int) (bs : List Bd) (xs : List Int) : Int := if chk p bs = 0 then (if xs.all (inB bs) then 0 else 1) else chk p bs
def idL (p : Int) (bs : List Bd) (xs : List Int) : List Int := if idE p bs xs = 0 then idsL (pickB bs xs) else []

theorem pickB_snoc {bs : List Bd} {xs : List Int} {k : Nat} (hk : k < xs.length) : pickB bs (xs.take (k + 1)) = pickB bs (xs.take k) ++ [bs.getD (xs.getD k 0).toNat default] := by
  unfold pickB
  rw [List.take_succ_eq_append_getElem hk, List.map_append]
  simp [List.getD_eq_getElem?_getD, List.getElem?_eq_getElem hk]
theorem pickB_len (bs : List Bd) (xs : List Int) : (pickB bs xs).length = xs.length := by simp [pickB]
theorem pickB_bids {p : Int} {bs : List Bd} (h : chk p bs = 0) {xs : List Int} (hx : xs.all (inB bs) = true) : ∀ b ∈ pickB bs xs, 0 ≤ b.bid ∧ b.bid ≤ 1000000 := by
  intro b hb
  obtain ⟨i, hi, rfl⟩ := List.mem_map.1 hb
  have := withinB_iff.1 (List.all_eq_true.1 hx i hi)
  exact chk_bids h _ (getD_mem (by omega))

def idsEnd (bs : List Bd) (xs : List Int) (OB : Nat) (w1 : World) (e : Ending) (w' : World) : Prop :=
  (xs.all (inB bs) = false → e = .panicked gaveUp ∧ Below w1.heap.size w1 w') ∧ (xs.all (inB bs) = true → e = .returned (.int .i64 0) ∧ SL.Chg [OB] w1 w' ∧
    ∃ v, w'.heap[OB]? = some (.cells #[v] 27 (0, 0)) ∧ w'.ownsRow w1.heap.size 3 1 v (idsL (pickB bs xs)).length ((idsL (pickB bs xs)).map (.int .i64)))

theorem gIds1_any (p : Int) (a : Option Addr) (n cap : Nat) (bs : List Bd) (al : Option Addr) (m c : Nat) (xs : List Int) (XB SB OB : Nat) (w1 : World) (h0 : chk p bs = 0) (hb : BdsAt w1 a n cap bs) (hx : IntsAt w1 al m c xs) (hl : xs.length ≤ 1000)
    (c1 : w1.cell? ⟨SB, 1, none⟩ = some (.slice a n cap)) (cx : w1.cell? ⟨XB, 0, none⟩ = some (.slice al m c)) (hO : w1.heap[OB]? = some (.cells #[.slice none 0 0] 27 (0, 0))) :
    Calls Tryz.prog 49 #[.pointer (some ⟨XB, 0, none⟩), .pointer (some ⟨SB, 0, none⟩), .pointer (some ⟨OB, 0, none⟩)] w1 (idsEnd bs xs OB w1) := by
  have z0 := World.block_lt_of_cell? w1 _ c1
  have z1 := World.block_lt_of_cell? w1 _ cx
  have z2 := (Array.getElem?_eq_some_iff.1 hO).1
  simp only at z0 z1
  have hbl := (Sys.of_chk h0).len
  have hbid := pickB_bids h0 (xs := xs)
  obtain rfl := hb.len
  obtain rfl := hx.len
  have Hbid := Lib.hid hbid
  have HE := Lib.hid (show ∀ e w', ((xs.all (inB bs) = false → e = .panicked gaveUp ∧ Below w1.heap.size w1 w') ∧ (xs.all (inB bs) = true → e = .returned (.int .i64 0) ∧ SL.Chg [OB] w1 w' ∧
    ∃ v, w'.heap[OB]? = some (.cells #[v] 27 (0, 0)) ∧ w'.ownsRow w1.heap.size 3 1 v (idsL (pickB bs xs)).length ((idsL (pickB bs xs)).map (.int .i64)))) → idsEnd bs xs OB w1 e w' from fun _ _ h => h)
  clear hbid h0
  go_enter Tryz.func49, Tryz.ntmps49
  go_wp2_with fail
  go_loopw [9, 6, 4] (fun i _ v wr => ∃ k : Nat, k ≤ xs.length ∧ i = .int .i64 k ∧ Below w1.heap.size w1 wr ∧ (xs.take k).all (inB bs) = true ∧ wr.ownsRow w1.heap.size 26 4 v k (bcs (pickB bs (xs.take k)))) (fun i _ _ _ => xs.length - (intOf i).toNat)
  case atStart => exact ⟨0, Nat.zero_le _, rfl, Below.refl _ _, rfl, World.ownsRow_nil _ _ _ _⟩
  case round =>
    obtain ⟨k, hk, rfl, hB, hall, hown⟩ := hrel
    obtain ⟨sa, sc, rfl, _⟩ := owns_slice hown
    have Hall := Lib.hid hall
    clear hall
    have y1 := ((bcell hB).1 _ 1 z0).trans c1
    have y2 := hB.size
    have s0 : SB < wr.heap.size := by omega
    by_cases hlt : k < xs.length
    · obtain ⟨xb, xo, rfl, xl, g1⟩ := (hx.below hB).get hlt
      have Hpk := Lib.hid (pickB_snoc (bs := bs) hlt)
      have Hta := Lib.hid (fun h => take_all (f := inB bs) hlt Hall.out h)
      have Hna := Lib.hid (fun h => not_all (f := inB bs) hlt h)
      generalize xs.getD k 0 = i at *
      have hW := fun w2 => gwithin_any i 0 ((bs.length : Int) - 1) w2
      cases hin : inB bs i with
      | true =>
        have hin' : withinB i 0 ((bs.length : Int) - 1) = true := hin
        rw [hin'] at hW
        obtain ⟨i0, i1⟩ := withinB_iff.1 hin'
        obtain ⟨b, off, rfl, hbl2, d0, d1, d2, d3⟩ := (hb.below hB).get (i := i.toNat) (by omega)
        have i2 : i < (bs.length : Int) := by omega
        generalize bs.getD i.toNat default = x at *
        have hin2 := Hta.out hin
        have Hin2 := Lib.hid hin2
        clear hin hin' hin2
        go_wp2_with (first
          | (go_at_call 35; refine (hW _).mono ?_; rintro e w5 ⟨rfl, rfl⟩)
          | (go_at_call 34; refine (gneed_yes _).mono ?_; rintro e w6 ⟨rfl, rfl⟩)
          | (at_builtin; refine wpList_app elemB rfl _ _ rfl (World.ownsRow.up hown ((Below.refl _ _).alloc (Nat.le_refl _) (Obj.cells #[.int .i64 x.frm, .int .i64 x.tow, .int .i64 x.most, .int .i64 x.bid] 26)) (Nat.le_refl _)) rfl rfl (RowAt.of_heap (World.alloc_heap_new wr _)) rfl (bcs_one [x]) ?_ ?_ ?_ ?_))
        · unfold maxLen; omega
        · omega
        · simp; omega
        · intro v' w4 ho hg hb4 _ hat
          have hBn : Below w1.heap.size w1 w4 := hB.trans (((Below.refl _ _).alloc (by omega) _).trans hb4)
          go_wp2
          go_roundw
          case rel =>
            refine ⟨k + 1, by omega, by go_num, hBn, Hin2.out, ?_⟩
            rw [Hpk.out, bcs_append]
            exact ho
          case measure => simp [intOf]; omega
      | false =>
        have hin' : withinB i 0 ((bs.length : Int) - 1) = false := hin
        rw [hin'] at hW
        have hno := Hna.out hin
        have Hno := Lib.hid hno
        clear hin hin' hno
        go_wp2_with (first
          | (go_at_call 35; refine (hW _).mono ?_; rintro e w5 ⟨rfl, rfl⟩)
          | (go_at_call 34; refine (gneed_no _).mono ?_; rintro e w6 ⟨rfl, rfl⟩))
        exact ⟨rfl, HE.out _ _ ⟨fun _ => ⟨rfl, hB⟩, fun h => by rw [Hno.out] at h; cases h⟩⟩
    · obtain rfl : k = xs.length := by omega
      rw [List.take_of_length_le (Nat.le_refl _)] at Hall hown
      have hlen := pickB_len bs xs
      have hBd : BdsAt wr sa xs.length sc (pickB bs xs) := by rw [← hlen] at hown ⊢; exact BdsAt.of_owns hown (by omega)
      have hG := gidsOf_any sa xs.length sc (pickB bs xs) wr hBd (by omega) (Hbid.out Hall.out)
      clear hlen
      have hOr := (hB.block OB z2).trans hO
      have z3 : OB < wr.heap.size := by omega
      go_wp2_with (go_at_call 50; refine hG.mono ?_; rintro e w5 ⟨v5, rfl, ho5, hb5⟩; obtain ⟨va, vc, rfl, _⟩ := owns_slice ho5; have hO5 := (hb5.block OB z3).trans hOr; have f5 := (SL.cells_of hO5).2; have e5 := (SL.cells_of hO5).1 0; simp at e5; have z5 : OB < w5.heap.size := lt_size hb5 z3)
      go_ret
      exact ⟨(fun h => by rw [Hall.out] at h; cases h), fun _ => ⟨rfl, (SL.Chg.of_below (hB.trans (hb5.mono hB.size))).trans (.setCell _ (by simp) _), _, SL.heap_set hO5 _, SL.row_base (SL.row_set ho5 (fun h => by have := (SL.row_bounds ho5 _ h).1; simp at this; omega) _) hB.size⟩⟩

theorem gIds_any (p : Int) (a : Option Addr) (n cap : Nat) (bs : List Bd) (al : Option Addr) (m c : Nat) (xs : List Int) (w : World) (hb : BdsAt w a n cap bs) (hx : IntsAt w al m c xs) (hl : xs.length ≤ 1000) :
    Calls Tryz.prog 19 #[.agg #[.int .i64 p, .slice a n cap], .slice al m c] w fun e w' => ∃ v, e = .returned (.tuple #[v, .int .i64 (idE p bs xs)]) ∧ Below w.heap.size w w' ∧ w'.ownsRow w.heap.size 3 1 v (idL p bs xs).length ((idL p bs xs).map (.int .i64)) := by
  have hmf := makeFunc_run
  generalize hw3 : ((w.alloc (Obj.cells #[.int .i64 p, .slice a n cap] 24)).alloc (Obj.cells #[.slice al m c] 27)).alloc (Obj.cells #[.slice none 0 0] 27) = w3
  have hB3 : Below w.heap.size w w3 := by rw [← hw3]; ((repeat (first | assumption | exact Below.refl _ _ | refine Below.alloc ?_ ?_ _ | refine Below.setCell ?_ ?_ _ | refine Below.drew ?_ | refine belowN ?_ | refine Below.up ?_ (by assumption) ?_)) <;> (first | assumption | omega | (simp; done) | (simp; omega)))
  have z3 : w3.heap.size = w.heap.size + 3 := by rw [← hw3]; simp
  have c1 : w3.cell? ⟨w.heap.size, 1, none⟩ = some (.slice a n cap) := by rw [← hw3]; simp [go_sem]
  have c2 : w3.cell? ⟨w.heap.size + 1, 0, none⟩ = some (.slice al m c) := by rw [← hw3]; simp [go_sem]
  have h2 : w3.heap[w.heap.size + 1 + 1]? = some (.cells #[.slice none 0 0] 27 (0, 0)) := by
    rw [← hw3]
    have h := World.alloc_heap_new ((w.alloc (Obj.cells #[.int .i64 p, .slice a n cap] 24)).alloc (Obj.cells #[.slice al m c] 27)) (Obj.cells #[.slice none 0 0] 27)
    simp only [World.size_alloc] at h
    exact h
  have hA := gtried_any p a n cap bs 49 #[.pointer (some ⟨w.heap.size + 1, 0, none⟩), .pointer (some ⟨w.heap.size, 0, none⟩), .pointer (some ⟨w.heap.size + 1 + 1, 0, none⟩)] w3 (hb.below hB3)
    [w.heap.size + 1 + 1] (by simp; omega)
    (fun c' w' => xs.all (inB bs) = true ∧ c' = 0 ∧ ∃ v, w'.heap[w.heap.size + 1 + 1]? = some (.cells #[v] 27 (0, 0)) ∧ w'.ownsRow (w3.heap.size + 2) 3 1 v (idsL (pickB bs xs)).length ((idsL (pickB bs xs)).map (.int .i64))) (fun w' => xs.all (inB bs) = false ∧ Below w3.heap.size w3 w')
    (fun c' w1 w2 h hc => ⟨h.1, h.2.1, by obtain ⟨v, r1, r2⟩ := h.2.2; exact ⟨v, heap_chg r1 hc (by simp; omega), row_chg r2 hc (by simp)⟩⟩)
    (fun w1 w2 h hc => ⟨h.1, h.2.trans (hc.belowE h.2.size (by simp <;> omega))⟩) (enters_of Tryz.func49 (by kernel_rfl) rfl)
    (fun h0 w1 hb1 hz1 => by
      have hc := (bcell hb1).1
      have hB1 : Below w.heap.size w w1 := hB3.trans (hb1.mono (by omega))
      refine (gIds1_any p a n cap bs al m c xs _ _ _ w1 h0 (hb.below hB1) (hx.below hB1) hl ((hc _ _ (by omega)).trans c1) ((hc _ _ (by omega)).trans c2) ((hb1.block _ (by omega)).trans h2)).mono ?_
      rintro e w' ⟨e1, e2⟩
      cases q1 : xs.all (inB bs) with
      | false =>
        obtain ⟨r1, r2⟩ := e1 q1
        exact ⟨.of_below r2, .inr ⟨r1, rfl, hb1.trans (r2.mono hb1.size)⟩⟩
      | true =>
        obtain ⟨r1, r2, v, r3, r4⟩ := e2 q1
        exact ⟨r2, .inl ⟨0, r1, rfl, rfl, v, r3, SL.row_base r4 hz1⟩⟩)
  have hcell : ∀ (c' : Int) (w5 : World), SL.Chg [w.heap.size + 1 + 1] w3 w5 → (chk p bs ≠ 0 → c' = chk p bs ∧ Below w3.heap.size w3 w5) → (chk p bs = 0 → (xs.all (inB bs) = true ∧ c' = 0 ∧ ∃ v, w5.heap[w.heap.size + 1 + 1]? = some (.cells #[v] 27 (0, 0)) ∧ w5.ownsRow (w3.heap.size + 2) 3 1 v (idsL (pickB bs xs)).length ((idsL (pickB bs xs)).map (.int .i64))) ∨ (c' = 1 ∧ xs.all (inB bs) = false ∧ Below w3.heap.size w3 w5)) →
      c' = idE p bs xs ∧ Below w.heap.size w w5 ∧ ∃ v, w5.cell? ⟨w.heap.size + 1 + 1, 0, none⟩ = some v ∧ w5.ownsRow w.heap.size 3 1 v (idL p bs xs).length ((idL p bs xs).map (.int .i64)) := fun c' w5 hC h1 h2' => by
    have kB : Below w.heap.size w w5 := hB3.trans (hC.belowE (by omega) (by simp; omega))
    have hno : idE p bs xs ≠ 0 → Below w3.heap.size w3 w5 → ∃ v, w5.cell? ⟨w.heap.size + 1 + 1, 0, none⟩ = some v ∧ w5.ownsRow w.heap.size 3 1 v (idL p bs xs).length ((idL p bs xs).map (.int .i64)) := fun h0 hb => by
      have := (SL.cells_of ((hb.block _ (by omega)).trans h2)).1 0
      have hn : idL p bs xs = [] := by unfold idL; rw [if_neg h0]
      rw [hn]
      exact ⟨_, by simpa using this, World.ownsRow_nil _ _ _ _⟩
    by_cases h0 : chk p bs = 0
    · rcases h2' h0 with ⟨ko, rfl, v, r1, r2⟩ | ⟨rfl, ko, k2⟩
      · have hE : idE p bs xs = 0 := by unfold idE; rw [if_pos h0, if_pos ko]
        have hL : idL p bs xs = idsL (pickB bs xs) := by unfold idL; rw [if_pos hE]
        rw [hL]
        have := (SL.cells_of r1).1 0
        exact ⟨hE.symm, kB, v, by simpa using this, SL.row_base r2 (by omega)⟩
      · have hE : idE p bs xs = 1 := by unfold idE; rw [if_pos h0, ko]; rfl
        exact ⟨hE.symm, kB, hno (by omega) k2⟩
    · obtain ⟨rfl, k2⟩ := h1 h0
      have hE : idE p bs xs = chk p bs := by unfold idE; rw [if_neg h0]
      exact ⟨hE.symm, kB, hno (by omega) k2⟩
  subst hw3
  generalize idL p bs xs = L at *
  generalize idE p bs xs = ce at *
  go_enter Tryz.func19, Tryz.ntmps19
  go_wp2_with fail
  refine hA.mono ?_
  rintro e w5 ⟨c', rfl, hC, h1, h2'⟩
  obtain ⟨rfl, hB5, v, hv, ho⟩ := hcell c' w5 hC h1 h2'
  clear hA hcell h1 h2' hC
  go_wp2
  refine bodyPost_ret (v := .tuple #[v, .int .i64 c']) (by simp [results, Tryz.results19, go_sem, *]) rfl ⟨v, rfl, hB5, ho⟩
end Go.Proofs.YtlkcfohmoeadbaaGreat

/-
  The reference of layer 1, walked: Only, Ids.
-/
namespace Go.Proofs.YtlkcfohmoeadbaaGreat
open Go.RowKit Go.Shelf
set_option maxHeartbeats 4000000
set_option maxRecDepth 100000

theorem rOnly_any (p : Int) (a : Option Addr) (n cap : Nat) (bs : List Bd) (al : Option Addr) (m c : Nat) (xs : List Int) (w : World) (hb : BdsAt w a n cap bs) (hx : IntsAt w al m c xs) :
    Calls Tryz.prog 18 #[.agg #[.int .i64 p, .slice a n cap], .slice al m c] w fun e w' => ∃ v, e = .returned (.tuple #[.agg #[.int .i64 (if chk p bs = 0 then p else 0), v], .int .i64 (chk p bs)]) ∧ Below w.heap.size w w' ∧
      w'.ownsRow w.heap.size 26 4 v (if chk p bs = 0 then bs.filter (onlyB xs) else []).length (bcs (if chk p bs = 0 then bs.filter (onlyB xs) else [])) := by
  have hB2 : Below w.heap.size w ((w.alloc (Obj.cells #[.int .i64 p, .slice a n cap] 24)).alloc (Obj.cells #[.int .i64 0, .slice none 0 0] 24)) := by ((repeat (first | assumption | exact Below.refl _ _ | refine Below.alloc ?_ ?_ _ | refine Below.setCell ?_ ?_ _ | refine Below.drew ?_ | refine belowN ?_ | refine Below.up ?_ (by assumption) ?_)) <;> (first | assumption | omega | (simp; done) | (simp; omega)))
  have hbx := hb.below hB2
  have hxx := hx.below hB2
  have hC := rcheck_any p a n cap bs _ hbx
  by_cases h0 : chk p bs = 0
  · have h4 := chk_400 h0
    have hO := fun w1 (h : BdsAt w1 a n cap bs) (h2 : IntsAt w1 al m c xs) => ronly_any p a n cap bs al m c xs w1 h h2 h4
    simp only [h0, if_true] at hC ⊢
    generalize bs.filter (onlyB xs) = F at *
    clear h0 h4
    go_enter Tryz.func18, Tryz.ntmps18
    go_wp2_with (first
      | (go_at_call 11; refine (hC).mono ?_; rintro e w1 ⟨rfl, hb1⟩; obtain ⟨hc1, hf1⟩ := bcell hb1; have hz1a := lt_size hb1 (b := w.heap.size) (by first | assumption | omega | (simp; done) | (simp; omega)); have hz1b := lt_size hb1 (b := w.heap.size+1) (by first | assumption | omega | (simp; done) | (simp; omega)))
      | (go_at_call 48; refine (hO _ (hbx.below hb1) (hxx.below hb1)).mono ?_; rintro e w2 ⟨v2, rfl, ho2, hb2⟩; obtain ⟨fa, fc, rfl, u2⟩ := owns_slice ho2; obtain ⟨hc2, hf2⟩ := bcell hb2; have s2 := lt_size hb2 (b := w.heap.size + 1) (by first | assumption | omega | (simp; done) | (simp; omega))))
    have zz := hb1.size
    simp only [World.size_alloc] at zz
    have z2 := hb2.size
    have hne : w.heap.size + 1 ∉ (Value.slice fa F.length fc).ownBlock.toList := fun h => by have := (SL.row_bounds ho2 _ h).1; omega
    refine bodyPost_ret (v := .tuple #[.agg #[.int .i64 p, .slice fa F.length fc], .int .i64 0]) (by simp [results, Tryz.results18, go_sem, *]) rfl ⟨_, rfl, ?_, ?_⟩
    · refine Below.setCell (Below.setCell ?_ (by simp) _) (by simp) _
      exact (hB2.trans (hb1.mono (by simp; omega))).trans (hb2.mono (by omega))
    · exact SL.row_base (SL.row_set (SL.row_set ho2 hne _) hne _) (by omega)
  · have h0' : (chk p bs == 0) = false := by simpa using h0
    rw [if_neg h0, if_neg h0]
    generalize chk p bs = ce at *
    go_enter Tryz.func18, Tryz.ntmps18
    go_wp2_with (go_at_call 11; refine (hC).mono ?_; rintro e w1 ⟨rfl, hb1⟩; obtain ⟨hc1, hf1⟩ := bcell hb1; have hz1a := lt_size hb1 (b := w.heap.size) (by first | assumption | omega | (simp; done) | (simp; omega)); have hz1b := lt_size hb1 (b := w.heap.size+1) (by first | assumption | omega | (simp; done) | (simp; omega)))
    have zz := hb1.size
    simp only [World.size_alloc] at zz
    refine bodyPost_ret (v := .tuple #[.agg #[.int .i64 0, .slice none 0 0], .int .i64 ce]) (by simp [results, Tryz.results18, go_sem, *]) rfl ⟨_, rfl, ?_, World.ownsRow_nil _ _ _ _⟩
    refine Below.setCell (Below.setCell ?_ (by simp) _) (by simp) _
    exact hB2.trans (hb1.mono (by simp; omega))

theorem rIds_any (p : Int) (a : Option Addr) (n cap : Nat) (bs : List Bd) (al : Option Addr) (m c : Nat) (xs : List Int) (w : World) (hb : BdsAt w a n cap bs) (hx : IntsAt w al m c xs) (hl : xs.length ≤ 1000) :
    Calls Tryz.prog 20 #[.agg #[.int .i64 p, .slice a n cap], .slice al m c] w fun e w' => ∃ v, e = .returned (.tuple #[v, .int .i64 (idE p bs xs)]) ∧ Below w.heap.size w w' ∧ w'.ownsRow w.heap.size 3 1 v (idL p bs xs).length ((idL p bs xs).map (.int .i64)) := by
  have hbx := hb.below (w' := w.alloc (Obj.cells #[.int .i64 p, .slice a n cap] 24)) ((Below.refl _ _).alloc (Nat.le_refl _) _)
  have hC := rcheck_any p a n cap bs _ hbx
  have hsm := hx.small
  obtain rfl := hb.len
  obtain rfl := hx.len
  by_cases h0 : chk p bs = 0
  · have hlb := (Sys.of_chk h0).len
    have hbid := pickB_bids h0 (xs := xs)
    have HY := Lib.hid (show xs.all (inB bs) = true → idE p bs xs = 0 ∧ idL p bs xs = (pickB bs xs).foldl ralS [] from fun h => by
      have hE : idE p bs xs = 0 := by unfold idE; rw [if_pos h0, if_pos h]
      exact ⟨hE, by unfold idL; rw [if_pos hE, rall_idsL (hbid h)]⟩)
    have HN := Lib.hid (show xs.all (inB bs) = false → idE p bs xs = 1 ∧ idL p bs xs = [] from fun h => by
      have hE : idE p bs xs = 1 := by unfold idE; rw [if_pos h0, h]; rfl
      exact ⟨hE, by unfold idL; rw [hE]; rfl⟩)
    simp only [h0] at hC
    clear hbid h0
    generalize idE p bs xs = RE at *
    generalize idL p bs xs = RL at *
    go_enter Tryz.func20, Tryz.ntmps20
    go_wp2_with (go_at_call 11; refine (hC).mono ?_; rintro e w1 ⟨rfl, hb1⟩; obtain ⟨hc1, hf1⟩ := bcell hb1; have hz1a := lt_size hb1 (b := w.heap.size) (by first | assumption | omega | (simp; done) | (simp; omega)))
    have hB1 : Below w.heap.size w w1 := ((Below.refl _ _).alloc (Nat.le_refl _) _).trans (hb1.mono (by simp))
    have s1 : w.heap.size < w1.heap.size := by assumption
    have q1 : w1.cell? ⟨w.heap.size, 1, none⟩ = some (.slice a bs.length cap) := by rw [(bcell hb1).1 _ _ (by simp)]; simp [go_sem]
    clear hc1 hf1 hb1
    go_loopw [7, 8] (fun v i wr => ∃ k : Nat, k ≤ xs.length ∧ i = .int .i64 k ∧ Below w.heap.size w wr ∧ w.heap.size < wr.heap.size ∧ wr.cell? ⟨w.heap.size, 1, none⟩ = some (.slice a bs.length cap) ∧ (xs.take k).all (inB bs) = true ∧ wr.ownsRow (w.heap.size + 1) 3 1 v ((pickB bs (xs.take k)).foldl ralS []).length (((pickB bs (xs.take k)).foldl ralS []).map (.int .i64))) (fun _ i _ => xs.length - (intOf i).toNat)
    case atStart => exact ⟨0, Nat.zero_le _, rfl, hB1, s1, q1, rfl, World.ownsRow_nil _ _ _ _⟩
    case round =>
      obtain ⟨k, hk, rfl, hB, hz, r1, hall, hown⟩ := hrel
      have hll := ral_len (pickB bs (xs.take k))
      rw [pickB_len] at hll
      have hll2 : (xs.take k).length ≤ k := List.length_take_le _ _
      obtain ⟨sa, sc, rfl, _⟩ := owns_slice hown
      have Hall := Lib.hid hall
      clear hall q1
      by_cases hlt : k < xs.length
      · obtain ⟨xb, xo, rfl, xl, g1⟩ := (hx.below hB).get hlt
        have Hpk := Lib.hid (pickB_snoc (bs := bs) hlt)
        have Hta := Lib.hid (fun h => take_all (f := inB bs) hlt Hall.out h)
        have Hna := Lib.hid (fun h => not_all (f := inB bs) hlt h)
        generalize xs.getD k 0 = i at *
        generalize (pickB bs (xs.take k)) = PK at *
        have k1 : (k : Int) < (xs.length : Int) := by omega
        cases hin : inB bs i with
        | true =>
          obtain ⟨i0, i1⟩ := withinB_iff.1 (show withinB i 0 ((bs.length : Int) - 1) = true from hin)
          obtain ⟨b, off, rfl, hbl2, d0, d1, d2, d3⟩ := (hb.below hB).get (i := i.toNat) (by omega)
          have i2 : i < (bs.length : Int) := by omega
          have e1 : decide (i < 0) = false := decide_eq_false (by omega)
          have e2 : decide ((bs.length : Int) ≤ i) = false := decide_eq_false (by omega)
          generalize bs.getD i.toNat default = x at *
          have Hin2 := Lib.hid (Hta.out hin)
          have Hst := Lib.hid (show (pickB bs (xs.take (k + 1))).foldl ralS [] = ralS (PK.foldl ralS []) x from by rw [Hpk.out, List.foldl_append]; rfl)
          generalize PK.foldl ralS [] = l at *
          clear hin
          by_cases hx0 : 0 < x.bid
          · have e3 : decide (0 < x.bid) = true := decide_eq_true hx0
            go_wp2_with fail
            go_quiet (fail)
            go_wp2_with fail
            go_quiet (fail)
            go_wp2_with fail
            refine wp_region_still_tail 10 (by kernel_rfl) (by kernel_rfl) ?_
            simp only [List.take_succ_cons, List.take_zero, List.drop_succ_cons, List.drop_zero]
            generalize hw3 : (World.mk _ _ _ _ _) = w3
            have r1' : w3.cell? ⟨w.heap.size, 1, none⟩ = some (.slice (some ⟨b, off, none⟩) bs.length cap) := by rw [← hw3]; exact r1
            have g1' : w3.cell? ⟨xb, xo + k, none⟩ = some (.int .i64 i) := by rw [← hw3]; exact g1
            have d3' : w3.cell? ⟨b, off + i.toNat * 4 + 3, none⟩ = some (.int .i64 x.bid) := by rw [← hw3]; exact d3
            have ho' : w3.ownsRow (w.heap.size + 1) 3 1 (.slice sa l.length sc) l.length (l.map (.int .i64)) := by rw [← hw3]; exact SL.row_stab hown (fun _ _ => rfl)
            have hB' : Below w.heap.size w w3 := by rw [← hw3]; exact ⟨hB.os, hB.tape, hB.output, hB.size, fun k hk => hB.block k hk⟩
            have hz' : w.heap.size < w3.heap.size := by rw [← hw3]; exact hz
            clear hw3 r1 g1 d0 d1 d2 d3 hown hB hz
            repeat (refine wpStill_step (fun K hK => ?_); go_simp; refine hK _ ?_; clear hK K)
            refine wpStill_nil ?_
            have hW := rwith_any _ l x.bid (w.heap.size + 1) w3 ho' (by omega) (by omega)
            go_wp2_with (go_at_call 51; refine hW.mono ?_; rintro e w4 ⟨v4, rfl, ho4, hb4⟩; obtain ⟨va, vc, rfl, _⟩ := owns_slice ho4; obtain ⟨hc4, hf4⟩ := bcell hb4)
            go_roundw
            case rel => exact ⟨k + 1, by omega, by go_num, hB'.trans (hb4.mono (by omega)), by have := hb4.size; omega, (hc4 _ _ hz').trans r1', Hin2.out, by rw [Hst.out, ralS, if_pos hx0]; exact ho4⟩
            case measure => simp [intOf]; omega
          · have e3 : decide (0 < x.bid) = false := decide_eq_false hx0
            go_wp2_with fail
            go_quiet (fail)
            go_wp2_with fail
            go_quiet (fail)
            go_wp2_with fail
            go_roundw
            case rel => exact ⟨k + 1, by omega, by go_num, belowN hB, by simpa using hz, r1, Hin2.out, by rw [Hst.out, ralS, if_neg (by omega)]; exact row_drewN hown _⟩
            case measure => simp [intOf]; omega
        | false =>
          obtain ⟨rfl, rfl⟩ := HN.out (Hna.out hin)
          have hnb : ¬ (0 ≤ i ∧ i ≤ (bs.length : Int) - 1) := fun h => by
            have := withinB_iff.2 h
            rw [show inB bs i = withinB i 0 ((bs.length : Int) - 1) from rfl, this] at hin
            cases hin
          clear hin
          by_cases j0 : i < 0
          · have e1 : decide (i < 0) = true := decide_eq_true j0
            go_wp2_with fail
            go_quiet (fail)
            go_wp2
            go_ret2
            exact ⟨_, rfl, belowN hB, World.ownsRow_nil _ _ _ _⟩
          · have e1 : decide (i < 0) = false := decide_eq_false j0
            have e2 : decide ((bs.length : Int) ≤ i) = true := decide_eq_true (by omega)
            go_wp2_with fail
            go_quiet (fail)
            go_wp2
            go_ret2
            exact ⟨_, rfl, belowN hB, World.ownsRow_nil _ _ _ _⟩
      · have htk : xs.take k = xs := List.take_of_length_le (by omega)
        simp only [htk] at Hall hown ⊢
        clear htk
        obtain ⟨rfl, rfl⟩ := HY.out Hall.out
        clear hll hll2
        go_wp2_with fail
        refine bodyPost_ret (v := .tuple #[.slice sa ((pickB bs xs).foldl ralS []).length sc, .int .i64 0]) (by simp [results, Tryz.results20, go_sem, *]) rfl ⟨_, rfl, hB, SL.row_base hown (by omega)⟩
  · have h0' : (chk p bs == 0) = false := by simpa using h0
    have hE : idE p bs xs = chk p bs := by unfold idE; rw [if_neg h0]
    have hL : idL p bs xs = [] := by unfold idL; rw [hE, if_neg h0]
    rw [hE, hL]
    generalize chk p bs = ce at *
    go_enter Tryz.func20, Tryz.ntmps20
    go_wp2_with (go_at_call 11; refine (hC).mono ?_; rintro e w1 ⟨rfl, hb1⟩; obtain ⟨hc1, hf1⟩ := bcell hb1; have hz1a := lt_size hb1 (b := w.heap.size) (by first | assumption | omega | (simp; done) | (simp; omega)))
    go_ret2
    exact ⟨_, rfl, ((Below.refl _ _).alloc (Nat.le_refl _) _).trans (hb1.mono (by simp)), World.ownsRow_nil _ _ _ _⟩
end Go.Proofs.YtlkcfohmoeadbaaGreat

/-
  The reference of layer 1, walked: Breaks, Keeps.
-/
namespace Go.Proofs.YtlkcfohmoeadbaaGreat
open Go.RowKit Go.Shelf
set_option maxHeartbeats 4000000
set_option maxRecDepth 100000

theorem rBreaks_any (p : Int) (a : Option Addr) (n cap : Nat) (bs : List Bd) (al : Option Addr) (m c : Nat) (xs : List Int) (w : World) (hb : BdsAt w a n cap bs) (hx : IntsAt w al m c xs) :
    Calls Tryz.prog 7 #[.agg #[.int .i64 p, .slice a n cap], .slice al m c] w fun e w' => e = .returned (.tuple #[.int .i64 (if brH p bs xs then idxB (brkB xs) bs else 0), .bool (brH p bs xs), .int .i64 (brE p bs xs)]) ∧ Below w.heap.size w w' := by
  have hbx := hb.below (w' := w.alloc (Obj.cells #[.int .i64 p, .slice a n cap] 24)) ((Below.refl _ _).alloc (Nat.le_refl _) _)
  have hC := rcheck_any p a n cap bs _ hbx
  have hsm := hx.small
  obtain rfl := hb.len
  obtain rfl := hx.len
  by_cases h0 : chk p bs = 0
  · have hs := Sys.of_chk h0
    have hpt := Pts.of_chk h0
    have hlb := hs.len
    have HY := Lib.hid (show (xs.length : Int) = p ∧ xs.all farB = true → brE p bs xs = 0 ∧ (bs.any (brkB xs) = false → brH p bs xs = false) ∧ (bs.any (brkB xs) = true → brH p bs xs = true) from fun h => by
      have hE : brE p bs xs = 0 := by unfold brE; rw [if_pos h0, if_pos h]
      exact ⟨hE, fun h => by unfold brH; rw [hE, h]; rfl, fun h => by unfold brH; rw [hE, h]; rfl⟩)
    have HN := Lib.hid (show ¬ ((xs.length : Int) = p ∧ xs.all farB = true) → brE p bs xs = 1 ∧ brH p bs xs = false from fun h => by
      have hE : brE p bs xs = 1 := by unfold brE; rw [if_pos h0, if_neg h]
      exact ⟨hE, by unfold brH; rw [hE]; rfl⟩)
    simp only [h0] at hC
    generalize hRI : (if brH p bs xs then idxB (brkB xs) bs else 0) = RI
    have HRI := Lib.hid hRI
    clear hRI h0
    generalize brE p bs xs = RE at *
    generalize brH p bs xs = RH at *
    by_cases hl : (xs.length : Int) = p
    · have HL := Lib.hid hl
      have hld : ((xs.length : Int) != p) = false := by simpa using hl
      have Hpt := Lib.hid hpt
      clear hl hpt
      go_enter Tryz.func7, Tryz.ntmps7
      go_wp2_with (go_at_call 11; refine (hC).mono ?_; rintro e w1 ⟨rfl, hb1⟩; obtain ⟨hc1, hf1⟩ := bcell hb1; have hz1a := lt_size hb1 (b := w.heap.size) (by first | assumption | omega | (simp; done) | (simp; omega)))
      have hB1 : Below w.heap.size w w1 := ((Below.refl _ _).alloc (Nat.le_refl _) _).trans (hb1.mono (by simp))
      have s1 : w.heap.size < w1.heap.size := by assumption
      have q1 : w1.cell? ⟨w.heap.size, 1, none⟩ = some (.slice a bs.length cap) := by rw [(bcell hb1).1 _ _ (by simp)]; simp [go_sem]
      have hx1 := hx.below hB1
      have hbb := hb.below hB1
      clear hc1 hf1 hb1
      go_loopw [8] (fun i wr => ∃ k : Nat, k ≤ xs.length ∧ i = .int .i64 k ∧ (xs.take k).all farB = true ∧ wr = w1) (fun i _ => xs.length - (intOf i).toNat)
      case atStart => exact ⟨0, Nat.zero_le _, rfl, rfl, rfl⟩
      case round =>
        obtain ⟨k, hk, rfl, hall, rfl⟩ := hrel
        rename World => wo
        have Hall := Lib.hid hall
        clear hall
        by_cases hlt : k < xs.length
        · obtain ⟨b, off, rfl, hbl, d0⟩ := hx1.get hlt
          generalize hy : xs.getD k 0 = y at *
          have Hy := Lib.hid hy
          clear hy
          have hW := rwithin_any y (-1000000000) 1000000000
          cases hin : farB y with
          | true =>
            have hin' : withinB y (-1000000000) 1000000000 = true := hin
            rw [hin'] at hW
            go_wp2_with (go_at_call 37; refine (hW _).mono ?_; rintro e w3 ⟨rfl, rfl⟩)
            go_roundw
            case rel => exact ⟨k + 1, by omega, by go_num, take_all hlt Hall.out (by rw [Hy.out]; exact hin), by first | trivial | rfl⟩
            case measure => simp [intOf]; omega
          | false =>
            have hin' : withinB y (-1000000000) 1000000000 = false := hin
            rw [hin'] at hW
            have hno := not_all (f := farB) hlt (by rw [Hy.out]; exact hin)
            obtain ⟨rfl, rfl⟩ := HN.out (fun h => by rw [hno] at h; cases h.2)
            have h1 : RI = 0 := HRI.out.symm
            subst h1
            clear hno hin
            go_wp2_with (go_at_call 37; refine (hW _).mono ?_; rintro e w3 ⟨rfl, rfl⟩)
            refine bodyPost_ret (v := .tuple #[.int .i64 0, .bool false, .int .i64 1]) (by simp [results, Tryz.results7, go_sem, *]) rfl ⟨rfl, hB1⟩
        · rw [List.take_of_length_le (by omega)] at Hall
          obtain ⟨rfl, hY0, hY1⟩ := HY.out ⟨HL.out, Hall.out⟩
          have HY0 := Lib.hid hY0
          have HY1 := Lib.hid hY1
          have Hfar := Lib.hid (fun i (hi : i < xs.length) => withinB_iff.1 (List.all_eq_true.1 Hall.out (xs.getD i 0) (by rw [List.getD_eq_getElem?_getD, List.getElem?_eq_getElem hi]; exact List.getElem_mem _)))
          clear hY0 hY1 HY HN hC
          go_wp2_with fail
          go_loopw [9] (fun i wr => ∃ k j : Nat, k ≤ bs.length ∧ i = .int .i64 k ∧ (bs.take k).any (brkB xs) = false ∧ wr = wo.drewN j) (fun i _ => bs.length - (intOf i).toNat)
          case atStart => exact ⟨0, 0, Nat.zero_le _, rfl, rfl, rfl⟩
          case round =>
            obtain ⟨k, j, hk, rfl, hall, rfl⟩ := hrel
            have Hall2 := Lib.hid hall
            clear hall
            have r1 : (wo.drewN j).cell? ⟨w.heap.size, 1, none⟩ = some (.slice a bs.length cap) := q1
            have hB2 : Below w.heap.size w (wo.drewN j) := belowN hB1
            by_cases hlt : k < bs.length
            · obtain ⟨b, off, rfl, hbl, d0, d1, d2, d3⟩ := hbb.get hlt
              obtain ⟨f0, f1, t0, t1⟩ := Hpt.out _ (getD_mem hlt)
              have f1' : (bs.getD k default).frm < (xs.length : Int) := by rw [HL.out]; exact f1
              have t1' : (bs.getD k default).tow < (xs.length : Int) := by rw [HL.out]; exact t1
              obtain ⟨xb, xo, rfl, xl, g1⟩ := hx1.get (i := (bs.getD k default).tow.toNat) (by omega)
              obtain ⟨xb', xo', he, _, g2⟩ := hx1.get (i := (bs.getD k default).frm.toNat) (by omega)
              simp at he
              obtain ⟨rfl, rfl⟩ := he
              obtain ⟨m0, m1⟩ := Hfar.out (bs.getD k default).tow.toNat (by omega)
              obtain ⟨m2, m3⟩ := Hfar.out (bs.getD k default).frm.toNat (by omega)
              have hbk := Lib.hid (show brkB xs (bs.getD k default) = decide ((bs.getD k default).most < xs.getD (bs.getD k default).tow.toNat 0 - xs.getD (bs.getD k default).frm.toNat 0) from rfl)
              have hH := Lib.hid (fun h => idxB_hit (p := brkB xs) hlt Hall2.out h)
              have hM := Lib.hid (fun h => take_succ_any (f := brkB xs) hlt Hall2.out h)
              have hA := Lib.hid (show brkB xs (bs.getD k default) = true → bs.any (brkB xs) = true from fun h => List.any_eq_true.2 ⟨_, getD_mem hlt, h⟩)
              generalize xs.getD (bs.getD k default).tow.toNat 0 = u at *
              generalize xs.getD (bs.getD k default).frm.toNat 0 = v at *
              generalize brkB xs (bs.getD k default) = B at *
              generalize bs.getD k default = z at *
              have hwr : IntKind.i64.wrap (u - v) = u - v := IntWalk.i64_in _ (by omega)
              have k1 : (k : Int) < (bs.length : Int) := by omega
              cases hB : B with
              | true =>
                have hd : decide (z.most < u - v) = true := by rw [← hbk.out]; exact hB
                have hRH := HY1.out (hA.out hB)
                subst hRH
                have hRI : RI = k := by rw [← HRI.out, if_pos rfl, hH.out hB]
                subst hRI
                clear hB
                go_wp2_with fail
                go_quiet (fail)
                go_wp2
                refine bodyPost_ret (v := .tuple #[.int .i64 k, .bool true, .int .i64 0]) (by simp [results, Tryz.results7, go_sem, *]) rfl ⟨rfl, belowN hB2⟩
              | false =>
                have hd : decide (z.most < u - v) = false := by rw [← hbk.out]; exact hB
                go_wp2_with fail
                go_quiet (fail)
                go_wp2
                go_roundw
                case rel => exact ⟨k + 1, _, by omega, by go_num, hM.out hB, rfl⟩
                case measure => simp [intOf]; omega
            · have hno : bs.any (brkB xs) = false := by have := Hall2.out; rwa [List.take_of_length_le (by omega)] at this
              have hRH := HY0.out hno
              subst hRH
              have h1 : RI = 0 := HRI.out.symm
              subst h1
              clear hno
              go_wp2_with fail
              refine bodyPost_ret (v := .tuple #[.int .i64 0, .bool false, .int .i64 0]) (by simp [results, Tryz.results7, go_sem, *]) rfl ⟨rfl, hB2⟩
    · have hld : ((xs.length : Int) != p) = true := by simpa using hl
      obtain ⟨rfl, rfl⟩ := HN.out (fun h => hl h.1)
      have h1 : RI = 0 := HRI.out.symm
      subst h1
      clear hl
      go_enter Tryz.func7, Tryz.ntmps7
      go_wp2_with (go_at_call 11; refine (hC).mono ?_; rintro e w1 ⟨rfl, hb1⟩; obtain ⟨hc1, hf1⟩ := bcell hb1; have hz1a := lt_size hb1 (b := w.heap.size) (by first | assumption | omega | (simp; done) | (simp; omega)))
      refine bodyPost_ret (v := .tuple #[.int .i64 0, .bool false, .int .i64 1]) (by simp [results, Tryz.results7, go_sem, *]) rfl ⟨rfl, ((Below.refl _ _).alloc (Nat.le_refl _) _).trans (hb1.mono (by simp))⟩
  · have h0' : (chk p bs == 0) = false := by simpa using h0
    have hE : brE p bs xs = chk p bs := by unfold brE; rw [if_neg h0]
    have hH : brH p bs xs = false := by unfold brH; rw [hE, decide_eq_false h0]; rfl
    rw [hE, hH]
    clear hE hH
    generalize chk p bs = ce at *
    go_enter Tryz.func7, Tryz.ntmps7
    go_wp2_with (go_at_call 11; refine (hC).mono ?_; rintro e w1 ⟨rfl, hb1⟩; obtain ⟨hc1, hf1⟩ := bcell hb1; have hz1a := lt_size hb1 (b := w.heap.size) (by first | assumption | omega | (simp; done) | (simp; omega)))
    refine bodyPost_ret (v := .tuple #[.int .i64 0, .bool false, .int .i64 ce]) (by simp [results, Tryz.results7, go_sem, *]) rfl ⟨rfl, ((Below.refl _ _).alloc (Nat.le_refl _) _).trans (hb1.mono (by simp))⟩

theorem rKeeps_any (p : Int) (a : Option Addr) (n cap : Nat) (bs : List Bd) (al : Option Addr) (m c : Nat) (xs : List Int) (w : World) (hb : BdsAt w a n cap bs) (hx : IntsAt w al m c xs) :
    Calls Tryz.prog 9 #[.agg #[.int .i64 p, .slice a n cap], .slice al m c] w fun e w' => e = .returned (.tuple #[.bool (decide (brE p bs xs = 0) && !brH p bs xs), .int .i64 (brE p bs xs)]) ∧ Below w.heap.size w w' := by
  have hB1 : Below w.heap.size w (w.alloc (Obj.cells #[.int .i64 p, .slice a n cap] 24)) := (Below.refl _ _).alloc (Nat.le_refl _) _
  have hA := rBreaks_any p a n cap bs al m c xs _ (hb.below hB1) (hx.below hB1)
  generalize (if brH p bs xs then idxB (brkB xs) bs else 0) = i at *
  generalize brH p bs xs = h at *
  generalize brE p bs xs = ce at *
  by_cases h0 : ce = 0
  · subst h0
    cases h <;>
    · go_enter Tryz.func9, Tryz.ntmps9
      go_wp2_with (go_at_call 7; refine hA.mono ?_; rintro e w2 ⟨rfl, hb2⟩)
      go_ret2
      exact ⟨rfl, hB1.trans (hb2.mono (by simp))⟩
  · have h0' : (ce == 0) = false := by simpa using h0
    go_enter Tryz.func9, Tryz.ntmps9
    go_wp2_with (go_at_call 7; refine hA.mono ?_; rintro e w2 ⟨rfl, hb2⟩)
    go_ret2
    exact ⟨by simp [h0], hB1.trans (hb2.mono (by simp))⟩
end Go.Proofs.YtlkcfohmoeadbaaGreat
