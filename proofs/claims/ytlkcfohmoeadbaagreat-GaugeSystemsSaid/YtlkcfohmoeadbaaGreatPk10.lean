/-
  Lemmas and walks for the laws on bounds and their sums; the parts' own heads say what each proves, for every input.
-/
import Derived.Test.YtlkcfohmoeadbaaGreatPk09
import Derived.Test.YtlkcfohmoeadbaaGreatPk05
import Derived.Test.YtlkcfohmoeadbaaGreatPk06
import Derived.Test.YtlkcfohmoeadbaaGreatPk08
set_option linter.unusedSimpArgs false
set_option linter.unusedVariables false
set_option linter.unnecessarySimpa false
/-
  Gauge, walked: Rigid$1.
-/
namespace Go.Proofs.YtlkcfohmoeadbaaGreat
open Go.RowKit Go.Shelf
set_option maxHeartbeats 1000000
set_option maxRecDepth 100000

theorem gRigid1_any (p : Int) (a : Option Addr) (n cap : Nat) (bs : List Bd) (SB OB : Nat) (w1 : World) (hs : Sys p bs) (hok : okB p bs = true) (hb : BdsAt w1 a n cap bs)
    (c0 : w1.cell? ⟨SB, 0, none⟩ = some (.int .i64 p)) (c1 : w1.cell? ⟨SB, 1, none⟩ = some (.slice a n cap)) (hO : w1.heap[OB]? = some (.cells #[.slice none 0 0] 27 (0, 0))) (hne : SB ≠ OB) (hna : ∀ x, a = some x → x.block ≠ OB) :
    Calls Tryz.prog 69 #[.pointer (some ⟨SB, 0, none⟩), .pointer (some ⟨OB, 0, none⟩)] w1 fun e w' => e = .returned (.tuple #[]) ∧ SL.Chg [OB] w1 w' ∧
      ∃ v, w'.heap[OB]? = some (.cells #[v] 27 (0, 0)) ∧ w'.ownsRow w1.heap.size 3 1 v p.toNat ((rigL p bs p.toNat).map (.int .i64)) := by
  have hOl : OB < w1.heap.size := (Array.getElem?_eq_some_iff.1 hO).1
  have hSl := World.block_lt_of_cell? w1 _ c0
  simp only at hSl
  have hF := fun (w2 : World) (hc : SL.Chg [OB] w1 w2) (x y : Int) (h0 : 0 ≤ x) (h1 : x < p) (h2 : 0 ≤ y) (h3 : y < p) => gfixed_any p a n cap bs x y w2 (hb.chg hc (fun z hz => by simpa using hna z hz)) hs h0 h1 h2 h3
  obtain ⟨hp1, hp2, hq3, hq4⟩ := hs
  go_enter Tryz.func69, Tryz.ntmps69
  go_wp2_with fail
  go_loopw [8, 2, 3, 4, 5] (fun i _ _ _ _ wr => ∃ k : Nat, (k : Int) ≤ p ∧ i = .int .i64 k ∧ SL.Chg [OB] w1 wr ∧ ∃ v, wr.heap[OB]? = some (.cells #[v] 27 (0, 0)) ∧ wr.ownsRow w1.heap.size 3 1 v k ((rigL p bs k).map (.int .i64))) (fun i _ _ _ _ _ => p.toNat - (intOf i).toNat)
  case atStart => exact ⟨0, by omega, rfl, .refl _ _, _, hO, World.ownsRow_nil _ _ _ _⟩
  case round =>
    obtain ⟨k, hk, rfl, hC, v, hv, hown⟩ := hrel
    rename World => wo
    have g0 : wo.cell? ⟨SB, 0, none⟩ = some (.int .i64 p) := ((SL.Chg.cellsE hC).1 _ _ hSl (by simpa using hne)).trans c0
    have g1 : wo.cell? ⟨SB, 1, none⟩ = some (.slice a n cap) := ((SL.Chg.cellsE hC).1 _ _ hSl (by simpa using hne)).trans c1
    by_cases hlt : (k : Int) < p
    · have hid : decide ((k : Int) < p) = true := by simpa using hlt
      go_wp2_with fail
      go_loopw [3, 4, 5] (fun q _ _ wi => ∃ m : Nat, m ≤ k ∧ q = .int .i64 m ∧ Below wo.heap.size wo wi ∧ rigFrom p bs k (k - m) m = rigQ p bs k) (fun q _ _ _ => k - (intOf q).toNat)
      case atStart => exact ⟨0, Nat.zero_le _, rfl, Below.refl _ _, rfl⟩
      case round =>
        obtain ⟨m, hm, rfl, hBi, hrig⟩ := hrel
        have Hrig := Lib.hid hrig
        clear hrig
        have hOr : OB < wo.heap.size := Nat.lt_of_lt_of_le hOl hC.size
        have hSr : SB < wo.heap.size := Nat.lt_of_lt_of_le hSl hC.size
        have j0 := ((bcell hBi).1 SB 0 hSr).trans g0
        have j1 := ((bcell hBi).1 SB 1 hSr).trans g1
        have hCi : SL.Chg [OB] w1 wr := hC.trans (.of_below hBi)
        have hFi := hF wr hCi m k (by omega) (by omega) (by omega) hlt
        have hOi := (hBi.block _ hOr).trans hv
        cases hfx : fxB p bs m k with
        | true =>
          have hq : rigQ p bs k = m := by rw [← Hrig.out, rigFrom_hit hfx]
          rw [hfx] at hFi
          have hOw : OB < wr.heap.size := (Array.getElem?_eq_some_iff.1 hOi).1
          go_wp2_with (first
            | (go_at_call 70; refine hFi.mono ?_; rintro e w3 ⟨rfl, hb3⟩
               have hO3 := (hb3.block _ hOw).trans hOi
               have hO4 := (SL.cells_of hO3).1 0
               simp at hO4
               have hz3 : wr.heap.size ≤ w3.heap.size := hb3.size
               have hz2 : wo.heap.size ≤ wr.heap.size := hBi.size
               have hz1 : w1.heap.size ≤ wo.heap.size := hC.size
               have hO3l : OB < w3.heap.size := by omega
               have hB3 : Below wo.heap.size wo w3 := hBi.trans (hb3.mono hz2))
            | (at_builtin; refine wpList_app elemI rfl _ _ rfl (hown.up (hB3.alloc (by omega) (Obj.cells #[.int .i64 m] 3)) (Nat.le_refl _)) rfl rfl (RowAt.of_heap (World.alloc_heap_new w3 _)) (by simp) (ones_int [(m : Int)]) ?_ ?_ ?_ ?_))
          · unfold maxLen; omega
          · omega
          · simp; omega
          · intro v' w4 ho hg hb4 _ hat
            obtain ⟨sa, sc, rfl, _⟩ := owns_slice ho
            have hO5 : w4.heap[OB]? = some (.cells #[v] 27 (0, 0)) := by
              rw [hb4.block OB hOl, Below.heap_alloc _ _ _ hO3l]; exact hO3
            have hO6 := (SL.cells_of hO5).1 0
            have hO7 := (SL.cells_of hO5).2 0
            simp at hO6
            clear hO4
            go_wp2
            go_roundw
            case rel =>
              have hB4 : Below w1.heap.size wo w4 := (((hB3.mono hz1).alloc (by omega) _)).trans hb4
              refine ⟨k + 1, by omega, by go_num, (hC.up hB4).trans (.setCell _ (by simp) _), _, SL.heap_set hO5 _, ?_⟩
              rw [rigL_succ, hq, List.map_append]
              exact SL.row_set ho (fun h => by have := (SL.row_bounds ho _ h).1; simp at this; omega) _
            case measure => simp [intOf]; omega
        | false =>
          rw [hfx] at hFi
          have hmk : m ≠ k := fun e => by subst e; rw [fxB_self ⟨hp1, hp2, hq3, hq4⟩ hok (by omega) hlt] at hfx; cases hfx
          go_wp2_with (go_at_call 70; refine hFi.mono ?_; rintro e w3 ⟨rfl, hb3⟩)
          go_roundw
          case rel =>
            refine ⟨m + 1, by omega, by go_num, hBi.trans (hb3.mono hBi.size), ?_⟩
            rw [← Hrig.out, show k - m = (k - (m + 1)) + 1 by omega, rigFrom_miss hfx]
          case measure => simp [intOf]; omega
    · have hid : decide ((k : Int) < p) = false := by simpa using hlt
      go_wp2_with fail
      go_end0
      have hkp : p.toNat = k := by omega
      rw [hkp]
      exact ⟨rfl, hC, v, hv, hown⟩
end Go.Proofs.YtlkcfohmoeadbaaGreat

/-
  Gauge, walked: Rigid.
-/
namespace Go.Proofs.YtlkcfohmoeadbaaGreat
open Go.RowKit Go.Shelf
set_option maxHeartbeats 1000000
set_option maxRecDepth 100000

theorem gRigid_any (p : Int) (a : Option Addr) (n cap : Nat) (bs : List Bd) (w : World) (hb : BdsAt w a n cap bs) :
    Calls Tryz.prog 31 #[.agg #[.int .i64 p, .slice a n cap]] w fun e w' => ∃ v, e = .returned (.tuple #[v, .int .i64 (askE p bs 0 0)]) ∧ Below w.heap.size w w' ∧
      (askE p bs 0 0 ≠ 0 → v = .slice none 0 0) ∧ (askE p bs 0 0 = 0 → w'.ownsRow w.heap.size 3 1 v p.toNat ((rigL p bs p.toNat).map (.int .i64))) := by
  have hmf := makeFunc_run
  generalize hw2 : (w.alloc (Obj.cells #[.int .i64 p, .slice a n cap] 24)).alloc (Obj.cells #[.slice none 0 0] 27) = w2
  have hB2 : Below w.heap.size w w2 := by rw [← hw2]; ((repeat (first | assumption | exact Below.refl _ _ | refine Below.alloc ?_ ?_ _ | refine Below.setCell ?_ ?_ _ | refine Below.drew ?_ | refine belowN ?_ | refine Below.up ?_ (by assumption) ?_)) <;> (first | assumption | omega | (simp; done) | (simp; omega)))
  have z2 : w2.heap.size = w.heap.size + 2 := by rw [← hw2]; simp
  have c0 : w2.cell? ⟨w.heap.size, 0, none⟩ = some (.int .i64 p) := by rw [← hw2]; simp [go_sem]
  have c1 : w2.cell? ⟨w.heap.size, 1, none⟩ = some (.slice a n cap) := by rw [← hw2]; simp [go_sem]
  have h4 : w2.heap[w.heap.size + 1]? = some (.cells #[.slice none 0 0] 27 (0, 0)) := by rw [← hw2]; exact heap_alloc2_new _ _ _
  have hax : ∀ x, a = some x → x.block < w.heap.size := fun x hx => (hb.at_ x hx).2.1
  have hA := gasked_any p a n cap bs 0 0 69 #[.pointer (some ⟨w.heap.size, 0, none⟩), .pointer (some ⟨w.heap.size + 1, 0, none⟩)] w2 (hb.below hB2)
    [w.heap.size + 1] (by simp; omega) (fun w' => ∃ v, w'.heap[w.heap.size + 1]? = some (.cells #[v] 27 (0, 0)) ∧ w'.ownsRow (w2.heap.size + 6) 3 1 v p.toNat ((rigL p bs p.toNat).map (.int .i64)))
    (fun w1 w3 ⟨v, h1, h2⟩ hc => ⟨v, heap_chg h1 hc (by simp; omega), row_chg h2 hc (by simp)⟩) (enters_of Tryz.func69 (by kernel_rfl) rfl)
    (fun h0 w3 hb3 hz3 => by
      obtain ⟨q0, q1, q2⟩ := askE_zero h0
      have hc := (bcell hb3).1
      refine (gRigid1_any p a n cap bs _ _ w3 (Sys.of_chk q0) q2 ((hb.below hB2).below hb3) ((hc _ _ (by omega)).trans c0) ((hc _ _ (by omega)).trans c1) ((hb3.block _ (by omega)).trans h4) (by omega) (fun x hx => by have := hax x hx; omega)).mono ?_
      rintro e w' ⟨rfl, hC, v, hv, ho⟩
      exact ⟨rfl, hC, v, hv, SL.row_base ho hz3⟩)
  have hcell : ∀ w5 : World, SL.Chg [w.heap.size + 1] w2 w5 → (askE p bs 0 0 = 0 → ∃ v, w5.heap[w.heap.size + 1]? = some (.cells #[v] 27 (0, 0)) ∧ w5.ownsRow (w2.heap.size + 6) 3 1 v p.toNat ((rigL p bs p.toNat).map (.int .i64))) → (askE p bs 0 0 ≠ 0 → Below w2.heap.size w2 w5) →
      Below w.heap.size w w5 ∧ ∃ v, w5.cell? ⟨w.heap.size + 1, 0, none⟩ = some v ∧ (askE p bs 0 0 ≠ 0 → v = .slice none 0 0) ∧ (askE p bs 0 0 = 0 → w5.ownsRow w.heap.size 3 1 v p.toNat ((rigL p bs p.toNat).map (.int .i64))) := fun w5 hC hS hnS => by
    refine ⟨hB2.trans (hC.belowE (by omega) (by simp)), ?_⟩
    by_cases h0 : askE p bs 0 0 = 0
    · obtain ⟨v, h1, h2⟩ := hS h0
      have := (SL.cells_of h1).1 0
      exact ⟨v, by simpa using this, fun h => absurd h0 h, fun _ => SL.row_base h2 (by omega)⟩
    · have := (SL.cells_of (((hnS h0).block _ (by omega)).trans h4)).1 0
      exact ⟨_, by simpa using this, fun _ => rfl, fun h => absurd h h0⟩
  subst hw2
  generalize askE p bs 0 0 = q at *
  go_enter Tryz.func31, Tryz.ntmps31
  go_wp2_with fail
  refine hA.mono ?_
  rintro e w5 ⟨rfl, hC, hS, hnS⟩
  obtain ⟨hB5, v, hv, r1, r2⟩ := hcell w5 hC hS hnS
  clear hA hcell hS hnS
  go_wp2
  refine bodyPost_ret (v := .tuple #[v, .int .i64 q]) (by simp [results, Tryz.results31, go_sem, *]) rfl ⟨v, rfl, hB5, r1, r2⟩
end Go.Proofs.YtlkcfohmoeadbaaGreat

/-
  Gauge, walked: some, and the closures that it is given.
-/
namespace Go.Proofs.YtlkcfohmoeadbaaGreat
open Go.RowKit Go.Shelf
set_option maxHeartbeats 1000000
set_option maxRecDepth 100000

theorem filter_take_yes {q : Bd → Bool} {bs : List Bd} {k : Nat} (hk : k < bs.length) (h : q (bs.getD k default) = true) : (bs.take (k + 1)).filter q = (bs.take k).filter q ++ [bs.getD k default] := by
  rw [List.take_succ_eq_append_getElem hk, List.filter_append]
  have : bs.getD k default = bs[k] := by simp [List.getD_eq_getElem?_getD, List.getElem?_eq_getElem hk]
  rw [this] at h ⊢
  simp [h]
theorem filter_take_no {q : Bd → Bool} {bs : List Bd} {k : Nat} (hk : k < bs.length) (h : q (bs.getD k default) = false) : (bs.take (k + 1)).filter q = (bs.take k).filter q := by
  rw [List.take_succ_eq_append_getElem hk, List.filter_append]
  have : bs.getD k default = bs[k] := by simp [List.getD_eq_getElem?_getD, List.getElem?_eq_getElem hk]
  rw [this] at h
  simp [h]
theorem filter_take_len (q : Bd → Bool) (bs : List Bd) (k : Nat) : ((bs.take k).filter q).length ≤ bs.length := by
  refine Nat.le_trans (List.length_filter_le _ _) ?_
  simp; omega

theorem gsome_any (p : Int) (a : Option Addr) (n cap : Nat) (bs : List Bd) (k : Nat) (caps : Array Value) (q : Bd → Bool) (w : World) (hb : BdsAt w a n cap bs) (hT : Tells w k caps q) (hs : bs.length ≤ 100000) :
    Calls Tryz.prog 44 #[.agg #[.int .i64 p, .slice a n cap], .func (.func k) #[] caps] w fun e w' => ∃ v, e = .returned (.agg #[.int .i64 p, v]) ∧ w'.ownsRow w.heap.size 26 4 v (bs.filter q).length (bcs (bs.filter q)) ∧ Below w.heap.size w w' := by
  obtain rfl := hb.len
  have hent := hT.ent
  go_enter Tryz.func44, Tryz.ntmps44
  go_wp2_with fail
  go_loopw [14] (fun i wr => ∃ k : Nat, k ≤ bs.length ∧ i = .int .i64 k ∧ Below w.heap.size w wr ∧ w.heap.size + 3 ≤ wr.heap.size ∧ wr.heap[w.heap.size + 1]? = some (.cells #[.int .i64 0, .slice none 0 0] 24 (0,0)) ∧ ∃ v, wr.heap[w.heap.size + 2]? = some (.cells #[.int .i64 p, v] 24 (0,0)) ∧ wr.ownsRow (w.heap.size + 3) 26 4 v ((bs.take k).filter q).length (bcs ((bs.take k).filter q))) (fun i _ => bs.length - (intOf i).toNat)
  case atStart =>
    refine ⟨0, Nat.zero_le _, rfl, by ((repeat (first | assumption | exact Below.refl _ _ | refine Below.alloc ?_ ?_ _ | refine Below.setCell ?_ ?_ _ | refine Below.drew ?_ | refine belowN ?_ | refine Below.up ?_ (by assumption) ?_)) <;> (first | assumption | omega | (simp; done) | (simp; omega))), by simp, ?_, .slice none 0 0, ?_, World.ownsRow_nil _ _ _ _⟩
    · rw [Below.heap_alloc _ _ _ (by simp)]; exact heap_alloc2_new _ _ _
    · have h := World.alloc_heap_new ((w.alloc (Obj.cells #[.int .i64 p, .slice a bs.length cap] 24)).alloc (Obj.cells #[.int .i64 0, .slice none 0 0] 24)) (Obj.cells #[.int .i64 p, .slice none 0 0] 24)
      rw [World.size_alloc, World.size_alloc] at h
      exact h
  case round =>
    obtain ⟨j, hj, rfl, hB, hz, h1, v, h2, hown⟩ := hrel
    obtain ⟨a2, f2⟩ := SL.cells_of h2
    obtain ⟨a1, f1⟩ := SL.cells_of h1
    have c20 := a2 0
    have c21 := a2 1
    have c10 := a1 0
    have c11 := a1 1
    simp at c20 c21 c10 c11
    clear a1 a2
    by_cases hlt : j < bs.length
    · obtain ⟨b, off, rfl, hbl, d0, d1, d2, d3⟩ := (hb.below hB).get hlt
      have Hyes := Lib.hid (filter_take_yes (q := q) hlt)
      have Hno := Lib.hid (filter_take_no (q := q) hlt)
      have hL := filter_take_len q bs j
      generalize hx : bs.getD j default = x at *
      clear hx
      generalize hl : (bs.take j).filter q = l at *
      clear hl
      have HT := Lib.hid (fun w2 (hw : Below wr.heap.size wr w2) => hT.tell w2 x (hB.trans (hw.mono hB.size)))
      have hb0 : Below wr.heap.size wr (wr.alloc (Obj.cells #[.int .i64 x.frm, .int .i64 x.tow, .int .i64 x.most, .int .i64 x.bid] 26)) := (Below.refl _ _).alloc (Nat.le_refl _) _
      cases hq : q x with
      | true =>
        go_wp2_with fail
        refine (HT.out _ hb0).mono ?_
        rintro e w1 ⟨rfl, hb1⟩
        rw [hq]
        have hz1 := hb1.size
        simp only [World.size_alloc] at hz1
        have hB1 : Below wr.heap.size wr w1 := hb0.trans (hb1.mono (by simp))
        have g2 := (hB1.block _ (by omega)).trans h2
        have gx : w1.heap[wr.heap.size]? = some (.cells #[.int .i64 x.frm, .int .i64 x.tow, .int .i64 x.most, .int .i64 x.bid] 26 (0, 0)) := (hb1.block _ (by simp)).trans (World.alloc_heap_new _ _)
        obtain ⟨a2, _⟩ := SL.cells_of g2
        obtain ⟨ax, _⟩ := SL.cells_of gx
        have e20 := a2 0
        have e21 := a2 1
        have x0 := ax 0
        have x1 := ax 1
        have x2 := ax 2
        have x3 := ax 3
        simp at e20 e21 x0 x1 x2 x3
        clear a2 ax f1 f2 c10 c11 c20 c21 d0 d1 d2 d3
        go_wp2_with (at_builtin; refine wpList_app elemB rfl _ _ rfl (hown.up (hB1.alloc (by omega) (Obj.cells #[.int .i64 x.frm, .int .i64 x.tow, .int .i64 x.most, .int .i64 x.bid] 26)) (Nat.le_refl _)) rfl rfl (RowAt.of_heap (World.alloc_heap_new w1 _)) rfl (bcs_one [x]) ?_ ?_ ?_ ?_)
        · unfold maxLen; omega
        · omega
        · simp; omega
        · intro v' w4 ho hg hb4 _ hat
          obtain ⟨sa, sc, rfl, _⟩ := owns_slice ho
          have g4 : w4.heap[w.heap.size + 2]? = some (.cells #[.int .i64 p, v] 24 (0, 0)) := by
            rw [hb4.block _ (by omega), Below.heap_alloc _ _ _ (by omega)]; exact g2
          have g1 : w4.heap[w.heap.size + 1]? = some (.cells #[.int .i64 0, .slice none 0 0] 24 (0, 0)) := by
            rw [hb4.block _ (by omega), Below.heap_alloc _ _ _ (by omega), hB1.block _ (by omega)]; exact h1
          obtain ⟨a2, f2⟩ := SL.cells_of g4
          have c21 := a2 1
          simp at c21
          clear a2
          have hz4 : w.heap.size + 3 ≤ w4.heap.size := by have := (Array.getElem?_eq_some_iff.1 g4).1; omega
          have hbW : Below w.heap.size w w4 := hB.trans ((((hB1.mono (by omega)).alloc (by omega) _)).trans (hb4.mono (by omega)))
          clear e20 e21 x0 x1 x2 x3
          go_wp2
          go_roundw
          case rel =>
            refine ⟨j + 1, by omega, by go_num, hbW.setCell (by simp; omega) _, by simp; omega, ?_, _, SL.heap_set g4 _, ?_⟩
            · rw [Below.heap_setCell _ _ _ _ (by simp)]; exact g1
            · rw [Hyes.out hq, bcs_append]
              simp only [List.length_append, List.length_cons, List.length_nil]
              exact SL.row_set ho (fun h => by have := (SL.row_bounds ho _ h).1; simp at this; omega) _
          case measure => simp [intOf]; omega
      | false =>
        go_wp2_with fail
        refine (HT.out _ hb0).mono ?_
        rintro e w1 ⟨rfl, hb1⟩
        rw [hq]
        have hz1 := hb1.size
        simp only [World.size_alloc] at hz1
        have hB1 : Below wr.heap.size wr w1 := hb0.trans (hb1.mono (by simp))
        clear f1 f2 c10 c11 c20 c21 d0 d1 d2 d3
        go_wp2
        go_roundw
        case rel => exact ⟨j + 1, by omega, by go_num, hB.trans (hB1.mono hB.size), by omega, (hB1.block _ (by omega)).trans h1, v, (hB1.block _ (by omega)).trans h2, by rw [Hno.out hq]; exact hown.up hB1 (Nat.le_refl _)⟩
        case measure => simp [intOf]; omega
    · have hlen : bs.length = j := by omega
      rw [List.take_of_length_le (by omega)] at hown
      obtain ⟨sa, sc, rfl, _⟩ := owns_slice hown
      go_wp2_with fail
      refine bodyPost_ret (v := .agg #[.int .i64 p, .slice sa (bs.filter q).length sc]) (by simp [results, Tryz.results44, go_sem, *]) rfl ⟨_, rfl, ?_, ?_⟩
      · have hne : w.heap.size + 1 ∉ (Value.slice sa (bs.filter q).length sc).ownBlock.toList := fun h => by have := (SL.row_bounds hown _ h).1; omega
        exact SL.row_base (SL.row_set (SL.row_set hown hne _) hne _) (by omega)
      · exact (hB.setCell (by simp) _).setCell (by simp) _
end Go.Proofs.YtlkcfohmoeadbaaGreat

/-
  Gauge, walked: the library's Contains on ints; Without, Only.
-/
namespace Go.Proofs.YtlkcfohmoeadbaaGreat
open Go.RowKit Go.Shelf
set_option maxHeartbeats 1000000
set_option maxRecDepth 100000

def idxI (n : Int) (xs : List Int) : Int := match xs.findIdx? (· == n) with | some i => i | none => -1
theorem idxI_hit {n : Int} {xs : List Int} {j : Nat} (hj : j < xs.length) (h : (xs.take j).any (· == n) = false) (hx : xs.getD j 0 = n) : idxI n xs = j := by
  have : xs.findIdx? (· == n) = some j := by
    rw [List.findIdx?_eq_some_iff_getElem]
    refine ⟨hj, by simpa [List.getD_eq_getElem?_getD, List.getElem?_eq_getElem hj] using hx, fun i hi => ?_⟩
    rw [List.any_eq_false] at h
    have := h xs[i] (by rw [List.mem_take_iff_getElem]; exact ⟨i, by omega, rfl⟩)
    simpa using this
  simp [idxI, this]
theorem idxI_miss {n : Int} {xs : List Int} (h : xs.any (· == n) = false) : idxI n xs = -1 := by
  have : xs.findIdx? (· == n) = none := by
    rw [List.findIdx?_eq_none_iff]
    intro x hx
    rw [List.any_eq_false] at h
    simpa using h x hx
  simp [idxI, this]
theorem idxI_any (n : Int) (xs : List Int) : decide (0 ≤ idxI n xs) = xs.any (· == n) := by
  cases h : xs.any (· == n) with
  | false => rw [idxI_miss h]; rfl
  | true =>
    unfold idxI
    cases hf : xs.findIdx? (· == n) with
    | none =>
      rw [List.findIdx?_eq_none_iff] at hf
      rw [List.any_eq_true] at h
      obtain ⟨x, hx, hp⟩ := h
      have := hf x hx
      rw [hp] at this; cases this
    | some i => simp
theorem any_take_no {xs : List Int} {n : Int} {k : Nat} (hk : k < xs.length) (h : (xs.take k).any (· == n) = false) (hx : xs.getD k 0 ≠ n) : (xs.take (k + 1)).any (· == n) = false := by
  rw [List.take_succ_eq_append_getElem hk, List.any_append, h]
  simpa [List.getD_eq_getElem?_getD, List.getElem?_eq_getElem hk] using hx

theorem gindex_any (a : Option Addr) (len cap : Nat) (xs : List Int) (n : Int) (w : World) (hx : IntsAt w a len cap xs) :
    Calls Tryz.prog 74 #[.slice a len cap, .int .i64 n] w fun e w' => e = .returned (.int .i64 (idxI n xs)) ∧ w = w' := by
  have hlen := hx.small
  obtain rfl := hx.len
  go_enter Tryz.func74, Tryz.ntmps74
  go_wp2
  go_loop [8] (fun i => ∃ k : Nat, k ≤ xs.length ∧ i = .int .i64 k ∧ (xs.take k).any (· == n) = false) (fun i => xs.length - (intOf i).toNat)
  case atStart => exact ⟨0, Nat.zero_le _, rfl, rfl⟩
  case round =>
    obtain ⟨k, hk, rfl, hno⟩ := hrel
    have Hno := Lib.hid hno
    clear hno
    by_cases hlt : k < xs.length
    · obtain ⟨b, off, rfl, hbl, d0⟩ := hx.get hlt
      generalize hy : xs.getD k 0 = y at *
      have Hy := Lib.hid hy
      clear hy
      have hnn : (0 : Int) ≤ k := by omega
      by_cases e : n = y
      · subst e
        go_wp2
        go_ret
        exact ⟨by rw [idxI_hit hlt Hno.out Hy.out]; rfl, rfl⟩
      · have e' : (n == y) = false := by simpa using e
        go_wp2
        go_round
        case rel => exact ⟨k + 1, by omega, by go_num, any_take_no hlt Hno.out (by rw [Hy.out]; exact fun h => e h.symm)⟩
        case measure => simp [intOf]; omega
    · go_wp2
      go_ret
      rw [List.take_of_length_le (by omega)] at Hno
      exact ⟨by rw [idxI_miss Hno.out]; rfl, rfl⟩

theorem gcontains_any (a : Option Addr) (len cap : Nat) (xs : List Int) (n : Int) (w : World) (hx : IntsAt w a len cap xs) :
    Calls Tryz.prog 47 #[.slice a len cap, .int .i64 n] w fun e w' => e = .returned (.bool (xs.any (· == n))) ∧ w = w' := by
  go_enter Tryz.func47, Tryz.ntmps47
  go_wp2_with (go_at_call 74; refine (gindex_any _ _ _ _ _ _ hx).mono ?_; rintro e w1 ⟨rfl, rfl⟩)
  go_ret
  exact ⟨by rw [← idxI_any n xs]; rfl, rfl⟩

/-- The closures that strike the bounds of one record. -/
theorem gneq_tells (by_ : Int) (N : Nat) (w0 : World) (hc : w0.cell? ⟨N, 0, none⟩ = some (.int .i64 by_)) : Tells w0 45 #[.pointer (some ⟨N, 0, none⟩)] (fun b => b.bid != by_) := by
  refine ⟨enters_of Tryz.func45 (by kernel_rfl) rfl, fun w b hb => ?_⟩
  have hN := World.block_lt_of_cell? w0 _ hc
  have hcw := ((bcell hb).1 _ 0 hN).trans hc
  have hNw := World.block_lt_of_cell? w _ hcw
  go_enter Tryz.func45, Tryz.ntmps45
  go_wp2
  go_ret
  exact ⟨rfl, (Below.refl _ _).alloc (Nat.le_refl _) _⟩
theorem glout_tells (by_ : Int) (N : Nat) (w0 : World) (hc : w0.cell? ⟨N, 0, none⟩ = some (.int .i64 by_)) : Tells w0 83 #[.pointer (some ⟨N, 0, none⟩)] (fun b => b.bid != by_) := by
  refine ⟨enters_of Tryz.func83 (by kernel_rfl) rfl, fun w b hb => ?_⟩
  have hN := World.block_lt_of_cell? w0 _ hc
  have hcw := ((bcell hb).1 _ 0 hN).trans hc
  have hNw := World.block_lt_of_cell? w _ hcw
  go_enter Tryz.func83, Tryz.ntmps83
  go_wp2
  go_ret
  exact ⟨rfl, (Below.refl _ _).alloc (Nat.le_refl _) _⟩
def onlyB (xs : List Int) (b : Bd) : Bool := b.bid == 0 || xs.any (· == b.bid)
theorem gonly_tells (a : Option Addr) (len cap : Nat) (xs : List Int) (N : Nat) (w0 : World) (hx : IntsAt w0 a len cap xs) (hc : w0.cell? ⟨N, 0, none⟩ = some (.slice a len cap)) : Tells w0 46 #[.pointer (some ⟨N, 0, none⟩)] (onlyB xs) := by
  refine ⟨enters_of Tryz.func46 (by kernel_rfl) rfl, fun w b hb => ?_⟩
  have hN := World.block_lt_of_cell? w0 _ hc
  have hcw := ((bcell hb).1 _ 0 hN).trans hc
  have hNw := World.block_lt_of_cell? w _ hcw
  simp only at hNw
  have hxw := (hx.below hb).below (w' := w.alloc (Obj.cells #[.int .i64 b.frm, .int .i64 b.tow, .int .i64 b.most, .int .i64 b.bid] 26)) ((Below.refl _ _).alloc (Nat.le_refl _) _)
  cases e : (b.bid == 0) with
  | true =>
    go_enter Tryz.func46, Tryz.ntmps46
    go_wp2
    go_ret
    exact ⟨by simp [onlyB, e], (Below.refl _ _).alloc (Nat.le_refl _) _⟩
  | false =>
    go_enter Tryz.func46, Tryz.ntmps46
    go_wp2_with (go_at_call 47; refine (gcontains_any _ _ _ _ _ _ hxw).mono ?_; rintro e w1 ⟨rfl, rfl⟩)
    go_ret
    exact ⟨by simp [onlyB, e], (Below.refl _ _).alloc (Nat.le_refl _) _⟩

/-- Without, Only: the error, and the system (nothing where there is an error). -/
theorem gWithout_any (p : Int) (a : Option Addr) (n cap : Nat) (bs : List Bd) (by_ : Int) (w : World) (hb : BdsAt w a n cap bs) :
    Calls Tryz.prog 14 #[.agg #[.int .i64 p, .slice a n cap], .int .i64 by_] w fun e w' => ∃ v, e = .returned (.tuple #[.agg #[.int .i64 (if chk p bs = 0 then p else 0), v], .int .i64 (chk p bs)]) ∧ Below w.heap.size w w' ∧
      w'.ownsRow w.heap.size 26 4 v (if chk p bs = 0 then bs.filter (fun b => b.bid != by_) else []).length (bcs (if chk p bs = 0 then bs.filter (fun b => b.bid != by_) else [])) := by
  have hmf := makeFunc_run
  generalize hw3 : ((w.alloc (Obj.cells #[.int .i64 p, .slice a n cap] 24)).alloc (Obj.cells #[.int .i64 by_] 3)).alloc (Obj.cells #[.int .i64 0, .slice none 0 0] 24) = w3
  have hB3 : Below w.heap.size w w3 := by rw [← hw3]; ((repeat (first | assumption | exact Below.refl _ _ | refine Below.alloc ?_ ?_ _ | refine Below.setCell ?_ ?_ _ | refine Below.drew ?_ | refine belowN ?_ | refine Below.up ?_ (by assumption) ?_)) <;> (first | assumption | omega | (simp; done) | (simp; omega)))
  have z3 : w3.heap.size = w.heap.size + 3 := by rw [← hw3]; simp
  have c0 : w3.cell? ⟨w.heap.size + 1, 0, none⟩ = some (.int .i64 by_) := by rw [← hw3]; simp [go_sem]
  have r2 : w3.heap[w.heap.size + 2]? = some (.cells #[.int .i64 0, .slice none 0 0] 24 (0, 0)) := by
    have h := World.alloc_heap_new ((w.alloc (Obj.cells #[.int .i64 p, .slice a n cap] 24)).alloc (Obj.cells #[.int .i64 by_] 3)) (Obj.cells #[.int .i64 0, .slice none 0 0] 24)
    rw [World.size_alloc, World.size_alloc] at h
    rw [← hw3]; exact h
  have hbx := hb.below hB3
  have hC := gcheck_any p a n cap bs w3 hbx
  have hS := fun (h0 : chk p bs = 0) (w4 : World) (hb4 : Below w3.heap.size w3 w4) => gsome_any p a n cap bs 45 #[.pointer (some ⟨w.heap.size + 1, 0, none⟩)] (fun b => b.bid != by_) w4 (hbx.below hb4) (gneq_tells by_ _ w4 (((bcell hb4).1 _ _ (by omega)).trans c0)) (by have := (Sys.of_chk h0).len; omega)
  have hz3 : w.heap.size + 2 < w3.heap.size := by omega
  subst hw3
  by_cases h0 : chk p bs = 0
  · simp only [h0, if_true] at hC ⊢
    have hS' := hS h0
    clear hS
    generalize hl : bs.filter (fun b => b.bid != by_) = l at *
    clear hl
    go_enter Tryz.func14, Tryz.ntmps14
    go_wp2_with (first
      | (go_at_call 10; refine (hC).mono ?_; rintro e w1 ⟨rfl, hb1⟩; obtain ⟨hc1, hf1⟩ := bcell hb1; have hz1a := lt_size hb1 (b := w.heap.size) (by first | assumption | omega | (simp; done) | (simp; omega)); have hz1b := lt_size hb1 (b := w.heap.size+1) (by first | assumption | omega | (simp; done) | (simp; omega)); have hz1c := lt_size hb1 (b := w.heap.size+1+1) (by first | assumption | omega | (simp; done) | (simp; omega)))
      | (go_at_call 44; refine (hS' _ hb1).mono ?_; rintro e w5 ⟨v, rfl, ho, hb5⟩
         obtain ⟨sa, sc, rfl, _⟩ := owns_slice ho
         have r5 : w5.heap[w.heap.size + 2]? = some (.cells #[.int .i64 0, .slice none 0 0] 24 (0, 0)) := (hb5.block _ (by omega)).trans ((hb1.block _ (by omega)).trans r2)
         obtain ⟨q5, f5⟩ := SL.cells_of r5
         have q50 := q5 0
         have q51 := q5 1
         simp at q50 q51
         clear q5))
    have hne : w.heap.size + 2 ∉ (Value.slice sa l.length sc).ownBlock.toList := fun h => by have := (SL.row_bounds ho _ h).1; omega
    have hz1 := hb1.size
    simp only [World.size_alloc] at hz1
    refine bodyPost_ret (v := .tuple #[.agg #[.int .i64 p, .slice sa l.length sc], .int .i64 0]) (by simp [results, Tryz.results14, go_sem, *]) rfl ⟨_, rfl, ?_, ?_⟩
    · exact ((hB3.trans (hb1.mono (by simp; omega))).trans (hb5.mono (by omega))).setCell (by simp; omega) _ |>.setCell (by simp; omega) _
    · exact SL.row_base (SL.row_set (SL.row_set ho hne _) hne _) (by omega)
  · have h0' : (chk p bs == 0) = false := by simpa using h0
    simp only [if_neg h0] at ⊢
    generalize chk p bs = c at *
    go_enter Tryz.func14, Tryz.ntmps14
    go_wp2_with (go_at_call 10; refine (hC).mono ?_; rintro e w1 ⟨rfl, hb1⟩; obtain ⟨hc1, hf1⟩ := bcell hb1; have hz1a := lt_size hb1 (b := w.heap.size) (by first | assumption | omega | (simp; done) | (simp; omega)); have hz1b := lt_size hb1 (b := w.heap.size+1) (by first | assumption | omega | (simp; done) | (simp; omega)); have hz1c := lt_size hb1 (b := w.heap.size+1+1) (by first | assumption | omega | (simp; done) | (simp; omega)))
    have hz1 := hb1.size
    simp only [World.size_alloc] at hz1
    refine bodyPost_ret (v := .tuple #[.agg #[.int .i64 0, .slice none 0 0], .int .i64 c]) (by simp [results, Tryz.results14, go_sem, *]) rfl ⟨_, rfl, ?_, World.ownsRow_nil _ _ _ _⟩
    exact (hB3.trans (hb1.mono (by simp; omega))).setCell (by simp; omega) _ |>.setCell (by simp; omega) _
theorem gOnly_any (p : Int) (a : Option Addr) (n cap : Nat) (bs : List Bd) (al : Option Addr) (m c : Nat) (xs : List Int) (w : World) (hb : BdsAt w a n cap bs) (hx : IntsAt w al m c xs) :
    Calls Tryz.prog 17 #[.agg #[.int .i64 p, .slice a n cap], .slice al m c] w fun e w' => ∃ v, e = .returned (.tuple #[.agg #[.int .i64 (if chk p bs = 0 then p else 0), v], .int .i64 (chk p bs)]) ∧ Below w.heap.size w w' ∧
      w'.ownsRow w.heap.size 26 4 v (if chk p bs = 0 then bs.filter (onlyB xs) else []).length (bcs (if chk p bs = 0 then bs.filter (onlyB xs) else [])) := by
  have hmf := makeFunc_run
  generalize hw3 : ((w.alloc (Obj.cells #[.int .i64 p, .slice a n cap] 24)).alloc (Obj.cells #[.slice al m c] 27)).alloc (Obj.cells #[.int .i64 0, .slice none 0 0] 24) = w3
  have hB3 : Below w.heap.size w w3 := by rw [← hw3]; ((repeat (first | assumption | exact Below.refl _ _ | refine Below.alloc ?_ ?_ _ | refine Below.setCell ?_ ?_ _ | refine Below.drew ?_ | refine belowN ?_ | refine Below.up ?_ (by assumption) ?_)) <;> (first | assumption | omega | (simp; done) | (simp; omega)))
  have z3 : w3.heap.size = w.heap.size + 3 := by rw [← hw3]; simp
  have c0 : w3.cell? ⟨w.heap.size + 1, 0, none⟩ = some (.slice al m c) := by rw [← hw3]; simp [go_sem]
  have r2 : w3.heap[w.heap.size + 2]? = some (.cells #[.int .i64 0, .slice none 0 0] 24 (0, 0)) := by
    have h := World.alloc_heap_new ((w.alloc (Obj.cells #[.int .i64 p, .slice a n cap] 24)).alloc (Obj.cells #[.slice al m c] 27)) (Obj.cells #[.int .i64 0, .slice none 0 0] 24)
    rw [World.size_alloc, World.size_alloc] at h
    rw [← hw3]; exact h
  have hbx := hb.below hB3
  have hC := gcheck_any p a n cap bs w3 hbx
  have hS := fun (h0 : chk p bs = 0) (w4 : World) (hb4 : Below w3.heap.size w3 w4) => gsome_any p a n cap bs 46 #[.pointer (some ⟨w.heap.size + 1, 0, none⟩)] (onlyB xs) w4 (hbx.below hb4) (gonly_tells al m c xs _ w4 ((hx.below hB3).below hb4) (((bcell hb4).1 _ _ (by omega)).trans c0)) (by have := (Sys.of_chk h0).len; omega)
  have hz3 : w.heap.size + 2 < w3.heap.size := by omega
  subst hw3
  by_cases h0 : chk p bs = 0
  · simp only [h0, if_true] at hC ⊢
    have hS' := hS h0
    clear hS
    generalize hl : bs.filter (onlyB xs) = l at *
    clear hl
    go_enter Tryz.func17, Tryz.ntmps17
    go_wp2_with (first
      | (go_at_call 10; refine (hC).mono ?_; rintro e w1 ⟨rfl, hb1⟩; obtain ⟨hc1, hf1⟩ := bcell hb1; have hz1a := lt_size hb1 (b := w.heap.size) (by first | assumption | omega | (simp; done) | (simp; omega)); have hz1b := lt_size hb1 (b := w.heap.size+1) (by first | assumption | omega | (simp; done) | (simp; omega)); have hz1c := lt_size hb1 (b := w.heap.size+1+1) (by first | assumption | omega | (simp; done) | (simp; omega)))
      | (go_at_call 44; refine (hS' _ hb1).mono ?_; rintro e w5 ⟨v, rfl, ho, hb5⟩
         obtain ⟨sa, sc, rfl, _⟩ := owns_slice ho
         have r5 : w5.heap[w.heap.size + 2]? = some (.cells #[.int .i64 0, .slice none 0 0] 24 (0, 0)) := (hb5.block _ (by omega)).trans ((hb1.block _ (by omega)).trans r2)
         obtain ⟨q5, f5⟩ := SL.cells_of r5
         have q50 := q5 0
         have q51 := q5 1
         simp at q50 q51
         clear q5))
    have hne : w.heap.size + 2 ∉ (Value.slice sa l.length sc).ownBlock.toList := fun h => by have := (SL.row_bounds ho _ h).1; omega
    have hz1 := hb1.size
    simp only [World.size_alloc] at hz1
    refine bodyPost_ret (v := .tuple #[.agg #[.int .i64 p, .slice sa l.length sc], .int .i64 0]) (by simp [results, Tryz.results17, go_sem, *]) rfl ⟨_, rfl, ?_, ?_⟩
    · exact ((hB3.trans (hb1.mono (by simp; omega))).trans (hb5.mono (by omega))).setCell (by simp; omega) _ |>.setCell (by simp; omega) _
    · exact SL.row_base (SL.row_set (SL.row_set ho hne _) hne _) (by omega)
  · have h0' : (chk p bs == 0) = false := by simpa using h0
    simp only [if_neg h0] at ⊢
    generalize chk p bs = ce at *
    go_enter Tryz.func17, Tryz.ntmps17
    go_wp2_with (go_at_call 10; refine (hC).mono ?_; rintro e w1 ⟨rfl, hb1⟩; obtain ⟨hc1, hf1⟩ := bcell hb1; have hz1a := lt_size hb1 (b := w.heap.size) (by first | assumption | omega | (simp; done) | (simp; omega)); have hz1b := lt_size hb1 (b := w.heap.size+1) (by first | assumption | omega | (simp; done) | (simp; omega)); have hz1c := lt_size hb1 (b := w.heap.size+1+1) (by first | assumption | omega | (simp; done) | (simp; omega)))
    have hz1 := hb1.size
    simp only [World.size_alloc] at hz1
    refine bodyPost_ret (v := .tuple #[.agg #[.int .i64 0, .slice none 0 0], .int .i64 ce]) (by simp [results, Tryz.results17, go_sem, *]) rfl ⟨_, rfl, ?_, World.ownsRow_nil _ _ _ _⟩
    exact (hB3.trans (hb1.mono (by simp; omega))).setCell (by simp; omega) _ |>.setCell (by simp; omega) _
end Go.Proofs.YtlkcfohmoeadbaaGreat
