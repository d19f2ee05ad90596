/-
  Lemmas and walks for the laws on bounds and their sums; the parts' own heads say what each proves, for every input.
-/
import Derived.Test.YtlkcfohmoeadbaaGreatPk14
import Derived.Test.YtlkcfohmoeadbaaGreatPk09
import Derived.Test.YtlkcfohmoeadbaaGreatPk12
set_option linter.unusedSimpArgs false
set_option linter.unusedVariables false
set_option linter.unnecessarySimpa false
/-
  Gauge, walked: Rests, Doubt.
-/
namespace Go.Proofs.YtlkcfohmoeadbaaGreat
open Go.RowKit Go.Shelf
set_option maxHeartbeats 1000000
set_option maxRecDepth 100000

def restsL (p : Int) (bs : List Bd) (x y : Int) (up : Bool) : List Int := if askE p bs x y = 0 then rstL p bs x y up else []

theorem gRests_any (p : Int) (a : Option Addr) (n cap : Nat) (bs : List Bd) (x y : Int) (up : Bool) (w : World) (hb : BdsAt w a n cap bs) :
    Calls Tryz.prog 27 #[.agg #[.int .i64 p, .slice a n cap], .int .i64 x, .int .i64 y, .bool up] w fun e w' => ∃ v, e = .returned (.tuple #[v, .int .i64 (askE p bs x y)]) ∧ Below w.heap.size w w' ∧
      w'.ownsRow w.heap.size 3 1 v (restsL p bs x y up).length ((restsL p bs x y up).map (.int .i64)) := by
  have hmf := makeFunc_run
  generalize hw5 : ((((w.alloc (Obj.cells #[.int .i64 p, .slice a n cap] 24)).alloc (Obj.cells #[.int .i64 x] 3)).alloc (Obj.cells #[.int .i64 y] 3)).alloc (Obj.cells #[.bool up] 4)).alloc (Obj.cells #[.slice none 0 0] 27) = w5
  have hB5 : Below w.heap.size w w5 := by rw [← hw5]; ((repeat (first | assumption | exact Below.refl _ _ | refine Below.alloc ?_ ?_ _ | refine Below.setCell ?_ ?_ _ | refine Below.drew ?_ | refine belowN ?_ | refine Below.up ?_ (by assumption) ?_)) <;> (first | assumption | omega | (simp; done) | (simp; omega)))
  have z5 : w5.heap.size = w.heap.size + 5 := by rw [← hw5]; simp
  have c0 : w5.cell? ⟨w.heap.size, 0, none⟩ = some (.int .i64 p) := by rw [← hw5]; simp [go_sem]
  have c1 : w5.cell? ⟨w.heap.size, 1, none⟩ = some (.slice a n cap) := by rw [← hw5]; simp [go_sem]
  have c3 : w5.cell? ⟨w.heap.size + 1 + 1 + 1, 0, none⟩ = some (.bool up) := by rw [← hw5]; simp [go_sem]
  have h1 : w5.heap[w.heap.size + 1]? = some (.cells #[.int .i64 x] 3 (0, 0)) := by
    rw [← hw5, Below.heap_alloc _ _ _ (by simp), Below.heap_alloc _ _ _ (by simp), Below.heap_alloc _ _ _ (by simp)]
    exact heap_alloc2_new _ _ _
  have h2 : w5.heap[w.heap.size + 2]? = some (.cells #[.int .i64 y] 3 (0, 0)) := by
    rw [← hw5, Below.heap_alloc _ _ _ (by simp), Below.heap_alloc _ _ _ (by simp)]
    have h := World.alloc_heap_new ((w.alloc (Obj.cells #[.int .i64 p, .slice a n cap] 24)).alloc (Obj.cells #[.int .i64 x] 3)) (Obj.cells #[.int .i64 y] 3)
    simp only [World.size_alloc] at h
    exact h
  have h4 : w5.heap[w.heap.size + 4]? = some (.cells #[.slice none 0 0] 27 (0, 0)) := by
    rw [← hw5]
    have h := World.alloc_heap_new ((((w.alloc (Obj.cells #[.int .i64 p, .slice a n cap] 24)).alloc (Obj.cells #[.int .i64 x] 3)).alloc (Obj.cells #[.int .i64 y] 3)).alloc (Obj.cells #[.bool up] 4)) (Obj.cells #[.slice none 0 0] 27)
    simp only [World.size_alloc] at h
    exact h
  have hax : ∀ z, a = some z → z.block < w.heap.size := fun z hz => (hb.at_ z hz).2.1
  have hA := gasked_any p a n cap bs x y 60 #[.pointer (some ⟨w.heap.size + 1 + 1 + 1, 0, none⟩), .pointer (some ⟨w.heap.size + 1 + 1, 0, none⟩), .pointer (some ⟨w.heap.size + 1, 0, none⟩), .pointer (some ⟨w.heap.size, 0, none⟩), .pointer (some ⟨w.heap.size + 1 + 1 + 1 + 1, 0, none⟩)] w5 (hb.below hB5)
    [w.heap.size + 1, w.heap.size + 2, w.heap.size + 4] (by simp; omega) (fun w' => ∃ v, w'.heap[w.heap.size + 4]? = some (.cells #[v] 27 (0, 0)) ∧ w'.ownsRow (w5.heap.size + 6) 3 1 v (rstL p bs x y up).length ((rstL p bs x y up).map (.int .i64)))
    (fun w1 w3 ⟨v, h1, h2⟩ hc => ⟨v, heap_chg h1 hc (by simp <;> omega), row_chg h2 hc (by simp)⟩) (enters_of Tryz.func60 (by kernel_rfl) rfl)
    (fun h0 w3 hb3 hz3 => by
      obtain ⟨q0, q1, q2⟩ := askE_zero h0
      have hc := (bcell hb3).1
      refine (gRests1_any p a n cap bs x y up _ _ _ _ _ w3 q0 ((hb.below hB5).below hb3) q1 ((hc _ _ (by omega)).trans c0) ((hc _ _ (by omega)).trans c1) ((hc _ _ (by omega)).trans c3) ((hb3.block _ (by omega)).trans h1) ((hb3.block _ (by omega)).trans h2) ((hb3.block _ (by omega)).trans h4)
        (fun z hz => by have := hax z hz; simp; omega) (by omega) (by omega) (by omega) (by simp <;> omega)).mono ?_
      rintro e w' ⟨rfl, hC, v, hv, ho⟩
      exact ⟨rfl, hC, v, hv, SL.row_base ho hz3⟩)
  have hcell : ∀ w6 : World, SL.Chg [w.heap.size + 1, w.heap.size + 2, w.heap.size + 4] w5 w6 → (askE p bs x y = 0 → ∃ v, w6.heap[w.heap.size + 4]? = some (.cells #[v] 27 (0, 0)) ∧ w6.ownsRow (w5.heap.size + 6) 3 1 v (rstL p bs x y up).length ((rstL p bs x y up).map (.int .i64))) → (askE p bs x y ≠ 0 → Below w5.heap.size w5 w6) →
      Below w.heap.size w w6 ∧ ∃ v, w6.cell? ⟨w.heap.size + 4, 0, none⟩ = some v ∧ w6.ownsRow w.heap.size 3 1 v (restsL p bs x y up).length ((restsL p bs x y up).map (.int .i64)) := fun w6 hC hS hnS => by
    refine ⟨hB5.trans (hC.belowE (by omega) (by simp)), ?_⟩
    unfold restsL
    by_cases h0 : askE p bs x y = 0
    · obtain ⟨v, h1, h2⟩ := hS h0
      have := (SL.cells_of h1).1 0
      rw [if_pos h0]
      exact ⟨v, by simpa using this, SL.row_base h2 (by omega)⟩
    · have := (SL.cells_of (((hnS h0).block _ (by omega)).trans h4)).1 0
      rw [if_neg h0]
      exact ⟨_, by simpa using this, World.ownsRow_nil _ _ _ _⟩
  subst hw5
  generalize askE p bs x y = q at *
  go_enter Tryz.func27, Tryz.ntmps27
  go_wp2_with fail
  refine hA.mono ?_
  rintro e w6 ⟨rfl, hC, hS, hnS⟩
  obtain ⟨hB6, v, hv, r1⟩ := hcell w6 hC hS hnS
  clear hA hcell hS hnS
  go_wp2
  refine bodyPost_ret (v := .tuple #[v, .int .i64 q]) (by simp [results, Tryz.results27, go_sem, *]) rfl ⟨v, rfl, hB6, r1⟩

theorem gdoubt1_any (p : Int) (a : Option Addr) (n cap : Nat) (bs : List Bd) (w : World) (hb : BdsAt w a n cap bs) (hs : Sys p bs) :
    Calls Tryz.prog 63 #[.agg #[.int .i64 p, .slice a n cap]] w fun e w' => e = .returned (.bool (!okB p bs)) ∧ Below w.heap.size w w' := by
  have hbx := hb.below (w' := w.alloc (Obj.cells #[.int .i64 p, .slice a n cap] 24)) ((Below.refl _ _).alloc (Nat.le_refl _) _)
  have hS := fun w1 (hb1 : BdsAt w1 a n cap bs) => gsolvable_any p a n cap bs w1 hb1 hs
  generalize okB p bs = o at *
  cases o <;>
  · go_enter Tryz.func63, Tryz.ntmps63
    go_wp2_with (go_at_call 58; refine (hS _ hbx).mono ?_; rintro e w2 ⟨rfl, hb2⟩)
    go_ret
    exact ⟨rfl, ((Below.refl _ w).alloc (Nat.le_refl _) _).trans (hb2.mono (by simp))⟩

def dbtB (p : Int) (bs : List Bd) : Bool := decide (chk p bs = 0) && !okB p bs
def dbtL (p : Int) (bs : List Bd) : List Int := if dbtB p bs then loL (fun t => !okB p t) bs else []

theorem gDoubt_any (p : Int) (a : Option Addr) (n cap : Nat) (bs : List Bd) (w : World) (hb : BdsAt w a n cap bs) :
    Calls Tryz.prog 28 #[.agg #[.int .i64 p, .slice a n cap]] w fun e w' => ∃ v, e = .returned (.tuple #[v, .bool (dbtB p bs), .int .i64 (chk p bs)]) ∧ Below w.heap.size w w' ∧
      w'.ownsRow w.heap.size 3 1 v (dbtL p bs).length ((dbtL p bs).map (.int .i64)) := by
  have hb0 : Below w.heap.size w (w.alloc (Obj.cells #[.int .i64 p, .slice a n cap] 24)) := (Below.refl _ _).alloc (Nat.le_refl _) _
  have hbx := hb.below hb0
  have hC := gcheck_any p a n cap bs _ hbx
  by_cases h0 : chk p bs = 0
  · have hs := Sys.of_chk h0
    have hS := fun w1 (hb1 : BdsAt w1 a n cap bs) => gsolvable_any p a n cap bs w1 hb1 hs
    have hL := fun w1 (hb1 : BdsAt w1 a n cap bs) => gleftOut_any p a n cap bs 63 #[] (fun t => !okB p t) w1 hb1 hs (chk_bids h0) (enters_of Tryz.func63 (by kernel_rfl) rfl) (fun W a' n' c' bs' _ h1 h2 => gdoubt1_any p a' n' c' bs' W h1 h2)
    rw [h0] at hC ⊢
    have e1 : dbtB p bs = !okB p bs := by simp [dbtB, h0]
    have e2 : dbtL p bs = if !okB p bs then loL (fun t => !okB p t) bs else [] := by rw [dbtL, e1]
    rw [e1, e2]
    clear e1 e2
    cases ho : okB p bs with
    | true =>
      simp only [ho] at hS
      go_enter Tryz.func28, Tryz.ntmps28
      go_wp2_with (first
        | (go_at_call 10; refine (hC).mono ?_; rintro e w1 ⟨rfl, hb1⟩; obtain ⟨hc1, hf1⟩ := bcell hb1; have hz1a := lt_size hb1 (b := w.heap.size) (by first | assumption | omega | (simp; done) | (simp; omega)))
        | (go_at_call 58; refine (hS _ (hbx.below hb1)).mono ?_; rintro e w2 ⟨rfl, hb2⟩))
      have hz1 := hb1.size
      simp only [World.size_alloc] at hz1
      refine bodyPost_ret (v := .tuple #[.slice none 0 0, .bool false, .int .i64 0]) (by simp [results, Tryz.results28, go_sem, *]) rfl ⟨_, rfl, (hb0.trans (hb1.mono (by simp))).trans (hb2.mono (by omega)), World.ownsRow_nil _ _ _ _⟩
    | false =>
      simp only [ho] at hS
      go_enter Tryz.func28, Tryz.ntmps28
      go_wp2_with (first
        | (go_at_call 10; refine (hC).mono ?_; rintro e w1 ⟨rfl, hb1⟩; obtain ⟨hc1, hf1⟩ := bcell hb1; have hz1a := lt_size hb1 (b := w.heap.size) (by first | assumption | omega | (simp; done) | (simp; omega)))
        | (go_at_call 58; refine (hS _ (hbx.below hb1)).mono ?_; rintro e w2 ⟨rfl, hb2⟩; obtain ⟨hc2, hf2⟩ := bcell hb2; have hz2a := lt_size hb2 (b := w.heap.size) (by first | assumption | omega | (simp; done) | (simp; omega)))
        | (go_at_call 61; refine (hL _ ((hbx.below hb1).below hb2)).mono ?_; rintro e w3 ⟨v, rfl, ho3, hb3⟩))
      have hz1 := hb1.size
      simp only [World.size_alloc] at hz1
      have hz2 := hb2.size
      refine bodyPost_ret (v := .tuple #[v, .bool true, .int .i64 0]) (by simp [results, Tryz.results28, go_sem, *]) rfl ⟨_, rfl, ((hb0.trans (hb1.mono (by simp))).trans (hb2.mono (by omega))).trans (hb3.mono (by omega)), SL.row_base ho3 (by omega)⟩
  · have h0' : (chk p bs == 0) = false := by simpa using h0
    have e1 : dbtB p bs = false := by simp [dbtB, h0]
    have e2 : dbtL p bs = [] := by rw [dbtL, e1]; rfl
    rw [e1, e2]
    clear e1 e2
    generalize chk p bs = c at *
    go_enter Tryz.func28, Tryz.ntmps28
    go_wp2_with (go_at_call 10; refine (hC).mono ?_; rintro e w1 ⟨rfl, hb1⟩; obtain ⟨hc1, hf1⟩ := bcell hb1; have hz1a := lt_size hb1 (b := w.heap.size) (by first | assumption | omega | (simp; done) | (simp; omega)))
    refine bodyPost_ret (v := .tuple #[.slice none 0 0, .bool false, .int .i64 c]) (by simp [results, Tryz.results28, go_sem, *]) rfl ⟨_, rfl, hb0.trans (hb1.mono (by simp)), World.ownsRow_nil _ _ _ _⟩
end Go.Proofs.YtlkcfohmoeadbaaGreat

/-
  Gauge, walked: the ends of a view.
-/
namespace Go.Proofs.YtlkcfohmoeadbaaGreat
open Go.RowKit Go.Shelf
set_option maxHeartbeats 1000000
set_option maxRecDepth 100000

theorem SL.Chg.undrew' {E : List Nat} {w w' : World} (h : SL.Chg E w.drew w') : SL.Chg E w w' := ⟨h.os, h.tape, h.output, h.size, h.block⟩

theorem gends_any (p : Int) (a : Option Addr) (n cap : Nat) (bs : List Bd) (x y : Int) (w : World) (hb : BdsAt w a n cap bs) (hs : Sys p bs) (hx0 : 0 ≤ x) (hx1 : x < p) (hy0 : 0 ≤ y) (hy1 : y < p) :
    Calls Tryz.prog 68 #[.agg #[.int .i64 p, .slice a n cap, .int .i64 x], .int .i64 y] w fun e w' => e = .returned (.agg #[.int .i64 (gD p bs x y), .int .i64 (gD p bs y x)]) ∧ Below w.heap.size w w' := by
  have hb2 : Below w.heap.size w ((w.alloc (Obj.cells #[.int .i64 p, .slice a n cap, .int .i64 x] 88)).alloc (Obj.cells #[.int .i64 0, .int .i64 0] 89)) := by ((repeat (first | assumption | exact Below.refl _ _ | refine Below.alloc ?_ ?_ _ | refine Below.setCell ?_ ?_ _ | refine Below.drew ?_ | refine belowN ?_ | refine Below.up ?_ (by assumption) ?_)) <;> (first | assumption | omega | (simp; done) | (simp; omega)))
  have hbx := hb.below hb2
  have h1 := fun w1 (hb1 : BdsAt w1 a n cap bs) => ggreatest_any p a n cap bs x y w1 hb1 hs hx0 hx1 hy0 hy1
  have h2 := fun w1 (hb1 : BdsAt w1 a n cap bs) => ggreatest_any p a n cap bs y x w1 hb1 hs hy0 hy1 hx0 hx1
  generalize gD p bs x y = u at *
  generalize gD p bs y x = v at *
  have h9 := heap_alloc2_new w (Obj.cells #[.int .i64 p, .slice a n cap, .int .i64 x] 88) (Obj.cells #[.int .i64 0, .int .i64 0] 89)
  go_enter Tryz.func68, Tryz.ntmps68
  go_wp2_with fail
  refine SL.rule (by kernel_rfl) [w.heap.size + 1] [5, 6, 7, 8, 9, 10, 11, 12, 13, 14, 15, 16, 17] [SL.pu 5 [] (.pointer (some ⟨w.heap.size, 0, none⟩)), SL.pu 6 [0] (.agg #[.int .i64 p, .slice a n cap]), SL.pu 7 [] (.pointer (some ⟨w.heap.size, 2, none⟩)), SL.pu 8 [2] (.int .i64 x), SL.pu 9 [] (.int .i64 y), SL.pu 10 [1, 3, 4] (.int .i64 u),
    SL.pu 11 [] (.pointer (some ⟨w.heap.size, 0, none⟩)), SL.pu 12 [6] (.agg #[.int .i64 p, .slice a n cap]), SL.pu 13 [] (.int .i64 y), SL.pu 14 [] (.pointer (some ⟨w.heap.size, 2, none⟩)), SL.pu 15 [9] (.int .i64 x), SL.pu 16 [7, 8, 10] (.int .i64 v), SL.pu 17 [5, 11] (.agg #[.int .i64 u, .int .i64 v]),
    SL.boxAt 4 [12, 14] [14] (w.heap.size + 1) 89 #[.int .i64 u, .int .i64 v],
    SL.boxAt 4 [] [] (w.heap.size + 1) 89 #[.int .i64 0, .int .i64 0]] [13] (by kernel_rfl) (by kernel_rfl) _ (SL.one_held (N := w.heap.size + 1) rfl rfl ⟨rfl, h9, rfl⟩ (by simp)) SL.one_apart ?_ ?_
  · refine ⟨?_, ?_, ?_, ?_, ?_, ?_, ?_, ?_, ?_, ?_, ?_, ?_, ?_, ?_, trivial⟩
    all_goals refine SL.ob fun us w' Fe hG hu hd hv K hK => ?_
    all_goals simp [SL.frame, SL.put', SL.Used, SL.Seen, SL.pu, SL.row, SL.box, SL.rowIn, SL.boxIn, SL.boxAt, SL.boxAtIn, Bd.v, Bd.cs] at hu hv hK ⊢
    all_goals (have hcc := hG.undrew'.cellsE.1)
    all_goals (have hbw : BdsAt w' a n cap bs := hbx.chg hG.undrew' (fun z hz => by have := (hb.at_ z hz).2.1; simp; omega))
    all_goals (have g0 : w'.cell? ⟨w.heap.size, 0, none⟩ = some (.int .i64 p) := by rw [hcc _ _ (by simp; omega) (by simp)]; simp [go_sem])
    all_goals (have g1 : w'.cell? ⟨w.heap.size, 1, none⟩ = some (.slice a n cap) := by rw [hcc _ _ (by simp; omega) (by simp)]; simp [go_sem])
    all_goals (have g2 : w'.cell? ⟨w.heap.size, 2, none⟩ = some (.int .i64 x) := by rw [hcc _ _ (by simp; omega) (by simp)]; simp [go_sem])
    all_goals clear hcc
    all_goals try (go_step; refine hK _ _ _ _ (by simp [Act.put, *]; done) (SL.Chg.refl _ _) rfl rfl (by simp))
    · go_step
      refine (h1 _ hbw).mono ?_
      rintro e w2 ⟨rfl, hb3⟩
      exact hK _ _ w2 _ (by simp [Act.put, *]; done) (.of_below hb3) rfl rfl (by simp)
    · go_step
      refine (h2 _ hbw).mono ?_
      rintro e w2 ⟨rfl, hb3⟩
      exact hK _ _ w2 _ (by simp [Act.put, *]; done) (.of_below hb3) rfl rfl (by simp)
    · obtain ⟨⟨u1, _⟩, u2, u4, u5⟩ := hu
      have c0 := (SL.cells_of u4).1 0
      have c1 := (SL.cells_of u4).1 1
      have f0 := (SL.cells_of u4).2
      simp at c0 c1
      go_step
      refine hK _ undef _ _ (by simp [Act.put, *]; done) (.trans (.setCell _ (by simp [u5]) _) (.setCell _ (by simp [u5]) _)) u2 (SL.heap_set (SL.heap_set u4 _) _) rfl ?_
      rw [u5]; simp
  · intro us w' Fs hG hu hbd hd
    simp [SL.frame, SL.put', SL.Used, SL.Seen, SL.pu, SL.row, SL.box, SL.rowIn, SL.boxIn, SL.boxAt, SL.boxAtIn, Bd.v, Bd.cs] at hu ⊢
    obtain ⟨u4, hh, hF⟩ := hu
    have c0 := (SL.cells_of hh).1 0
    have c1 := (SL.cells_of hh).1 1
    simp at c0 c1
    go_wp2
    refine bodyPost_ret (v := .agg #[.int .i64 u, .int .i64 v]) (by simp [results, Tryz.results68, go_sem, *]) rfl ⟨rfl, ?_⟩
    exact hb2.trans (hG.belowF (B := w.heap.size) (by simp; omega) (by simp))
end Go.Proofs.YtlkcfohmoeadbaaGreat

/-
  Gauge, walked: Changed.
-/
namespace Go.Proofs.YtlkcfohmoeadbaaGreat
open Go.RowKit Go.Shelf
set_option maxHeartbeats 1000000
set_option maxRecDepth 100000

/-- Do the ends of point k against x differ? -/
def difB (p : Int) (bs T : List Bd) (x : Int) (k : Nat) : Bool := !(decide (gD p bs x k = gD p T x k) && decide (gD p bs k x = gD p T k x))
def chgL (p : Int) (bs T : List Bd) (x : Int) (n : Nat) : List Int := ((List.range n).filter (difB p bs T x)).map fun (k : Nat) => (k : Int)
theorem chgL_yes {p : Int} {bs T : List Bd} {x : Int} {k : Nat} (h : difB p bs T x k = true) : chgL p bs T x (k + 1) = chgL p bs T x k ++ [(k : Int)] := by
  simp [chgL, List.range_succ, List.filter_append, h]
theorem chgL_no {p : Int} {bs T : List Bd} {x : Int} {k : Nat} (h : difB p bs T x k = false) : chgL p bs T x (k + 1) = chgL p bs T x k := by
  simp [chgL, List.range_succ, List.filter_append, h]
theorem chgL_len (p : Int) (bs T : List Bd) (x : Int) (k : Nat) : (chgL p bs T x k).length ≤ k := by
  unfold chgL
  rw [List.length_map]
  refine Nat.le_trans (List.length_filter_le _ _) (by simp)

theorem eq2 (w : World) (a b c d : Int) : (Op.equalIn 10000 89 (.agg #[.int .i64 a, .int .i64 b]) (.agg #[.int .i64 c, .int .i64 d])).run Tryz.prog w = .ok (decide (a = c) && decide (b = d)) w := by
  obtain ⟨i, hi⟩ := Option.isSome_iff_exists.1 (show (Tryz.prog.info? 3).isSome = true by kernel_rfl)
  have h4 := run_equalIn_array w 9999 (ints [a, b]) (ints [c, d]) (n := 2) (e := 3) (i := i) Tryz.underlying89 hi
  have h3 := run_items w Tryz.underlying3 cells_int 9998 [a, b] [c, d] (List.range 2) (fun i hi => by rw [List.mem_range] at hi; simp; omega)
  rw [show (10000 : Nat) = 9999 + 1 from rfl]
  refine (h4.trans h3).trans ?_
  simp [List.range, List.range.loop]
  by_cases h1 : a = c <;> by_cases h2 : b = d <;> simp [h1, h2]
theorem gd2 : Tryz.prog.eqGuardType Tryz.prog.depth 89 = false := by kernel_rfl

theorem gChanged1_any (p : Int) (a : Option Addr) (n cap : Nat) (bs : List Bd) (a2 : Option Addr) (n2 cap2 : Nat) (T : List Bd) (x : Int) (TB SB AB OB : Nat) (w1 : World) (hs : Sys p bs) (hsT : Sys p T) (hb : BdsAt w1 a n cap bs) (hbT : BdsAt w1 a2 n2 cap2 T) (hx0 : 0 ≤ x) (hx1 : x < p)
    (c0 : w1.cell? ⟨SB, 0, none⟩ = some (.int .i64 p)) (c1 : w1.cell? ⟨SB, 1, none⟩ = some (.slice a n cap)) (d0 : w1.cell? ⟨TB, 0, none⟩ = some (.int .i64 p)) (d1 : w1.cell? ⟨TB, 1, none⟩ = some (.slice a2 n2 cap2)) (ca : w1.cell? ⟨AB, 0, none⟩ = some (.int .i64 x))
    (hO : w1.heap[OB]? = some (.cells #[.slice none 0 0] 27 (0, 0))) (hn1 : SB ≠ OB) (hax : ∀ z, a = some z → z.block ≠ OB) (hax2 : ∀ z, a2 = some z → z.block ≠ OB) :
    Calls Tryz.prog 67 #[.pointer (some ⟨TB, 0, none⟩), .pointer (some ⟨SB, 0, none⟩), .pointer (some ⟨AB, 0, none⟩), .pointer (some ⟨OB, 0, none⟩)] w1 fun e w' => e = .returned (.tuple #[]) ∧ SL.Chg [OB] w1 w' ∧
      ∃ v, w'.heap[OB]? = some (.cells #[v] 27 (0, 0)) ∧ w'.ownsRow w1.heap.size 3 1 v (if okB p T then chgL p bs T x p.toNat else []).length ((if okB p T then chgL p bs T x p.toNat else []).map (.int .i64)) := by
  have hmf := makeFunc_run
  have zO := (Array.getElem?_eq_some_iff.1 hO).1
  have zS := World.block_lt_of_cell? w1 _ c0
  have zT := World.block_lt_of_cell? w1 _ d0
  have zA := World.block_lt_of_cell? w1 _ ca
  simp only at zS zT zA
  have hSo := fun w (h : BdsAt w a2 n2 cap2 T) => gsolvable_any p a2 n2 cap2 T w h hsT
  have hp1 := hs.p1
  have hp2 := hs.p2
  cases ho : okB p T with
  | false =>
    simp only [ho] at hSo
    go_enter Tryz.func67, Tryz.ntmps67
    go_wp2_with (go_at_call 58; refine (hSo _ hbT).mono ?_; rintro e w2 ⟨rfl, hb2⟩)
    refine bodyPost_ret (v := .tuple #[]) (by simp [results, Tryz.results67]) rfl ⟨rfl, .of_below hb2, _, (hb2.block _ zO).trans hO, World.ownsRow_nil _ _ _ _⟩
  | true =>
    simp only [ho] at hSo
    go_enter Tryz.func67, Tryz.ntmps67
    go_wp2_with (go_at_call 58; refine (hSo _ hbT).mono ?_; rintro e w2 ⟨rfl, hb2⟩)
    have hz2 := hb2.size
    have k0 := ((bcell hb2).1 _ _ zS).trans c0
    have k1 := ((bcell hb2).1 _ _ zS).trans c1
    have k2 := ((bcell hb2).1 _ _ zT).trans d0
    have k3 := ((bcell hb2).1 _ _ zT).trans d1
    have k4 := ((bcell hb2).1 _ _ zA).trans ca
    refine SL.rule (by kernel_rfl) [] [10, 11, 12, 13, 14, 15, 16, 17, 4, 5] [SL.pu 10 [] (.agg #[.int .i64 p, .slice a n cap]), SL.pu 11 [] (.int .i64 x), SL.pu 12 [0, 1] (.agg #[.int .i64 p, .slice a n cap, .int .i64 x]), SL.pu 13 [2] (.func (.func 68) #[.agg #[.int .i64 p, .slice a n cap, .int .i64 x]] #[]),
      SL.pu 14 [] (.agg #[.int .i64 p, .slice a2 n2 cap2]), SL.pu 15 [] (.int .i64 x), SL.pu 16 [4, 5] (.agg #[.int .i64 p, .slice a2 n2 cap2, .int .i64 x]), SL.pu 17 [6] (.func (.func 68) #[.agg #[.int .i64 p, .slice a2 n2 cap2, .int .i64 x]] #[]),
      SL.pu 4 [3] (.func (.func 68) #[.agg #[.int .i64 p, .slice a n cap, .int .i64 x]] #[]), SL.pu 5 [7] (.func (.func 68) #[.agg #[.int .i64 p, .slice a2 n2 cap2, .int .i64 x]] #[])] [8, 9] (by kernel_rfl) (by kernel_rfl) (fun _ => []) (SL.none_held rfl) (by simp) ?_ ?_
    · refine ⟨?_, ?_, ?_, ?_, ?_, ?_, ?_, ?_, ?_, ?_, trivial⟩
      all_goals refine SL.ob fun us w' Fe hG hu hd hv K hK => ?_
      all_goals simp [SL.frame, SL.put', SL.Used, SL.Seen, SL.pu, SL.row, SL.box, SL.rowIn, SL.boxIn, SL.boxAt, SL.boxAtIn, Bd.v, Bd.cs] at hu hv hK ⊢
      all_goals (have hcc := (bcell hG.below').1)
      all_goals (have g0 := (hcc SB 0 (by omega)).trans k0)
      all_goals (have g1 := (hcc SB 1 (by omega)).trans k1)
      all_goals (have g2 := (hcc TB 0 (by omega)).trans k2)
      all_goals (have g3 := (hcc TB 1 (by omega)).trans k3)
      all_goals (have g4 := (hcc AB 0 (by omega)).trans k4)
      all_goals clear hcc
      all_goals try (go_step; refine hK _ _ _ _ (by simp [Act.put, *]; done) (SL.Chg.refl _ _) rfl rfl (by simp))
    · intro us w' Fs hG hu hbd hd
      simp [SL.frame, SL.put', SL.Used, SL.Seen, SL.pu, SL.row, SL.box, SL.rowIn, SL.boxIn, SL.boxAt, SL.boxAtIn, Bd.v, Bd.cs] at hu ⊢
      obtain ⟨⟨u4, _⟩, u5, _⟩ := hu
      simp only [u4, u5]
      clear hbd hd u4 u5
      have hB1 : Below w1.heap.size w1 w' := hb2.trans (hG.below'.mono hz2)
      have hz' := hB1.size
      have g0 := ((bcell hB1).1 _ _ zS).trans c0
      have hEv := fun (w3 : World) (hc3 : SL.Chg [OB] w1 w3) (k : Nat) (hk : (k : Int) < p) => gends_any p a n cap bs x k w3 (hb.chg hc3 (fun z hz => by simpa using hax z hz)) hs hx0 hx1 (by omega) hk
      have hEv2 := fun (w3 : World) (hc3 : SL.Chg [OB] w1 w3) (k : Nat) (hk : (k : Int) < p) => gends_any p a2 n2 cap2 T x k w3 (hbT.chg hc3 (fun z hz => by simpa using hax2 z hz)) hsT hx0 hx1 (by omega) hk
      have HE := Lib.hid hEv
      have HE2 := Lib.hid hEv2
      clear hEv hEv2 hSo k0 k1 k2 k3 k4
      go_wp2_with fail
      go_loopw [20] (fun i wr => ∃ k : Nat, (k : Int) ≤ p ∧ i = .int .i64 k ∧ SL.Chg [OB] w1 wr ∧ ∃ v, wr.heap[OB]? = some (.cells #[v] 27 (0, 0)) ∧ wr.ownsRow w1.heap.size 3 1 v (chgL p bs T x k).length ((chgL p bs T x k).map (.int .i64))) (fun i _ => p.toNat - (intOf i).toNat)
      case atStart => exact ⟨0, by omega, rfl, .of_below hB1, _, (hB1.block _ zO).trans hO, World.ownsRow_nil _ _ _ _⟩
      case round =>
        obtain ⟨k, hk, rfl, hC, v, hv, hown⟩ := hrel
        have hcl := chgL_len p bs T x k
        have hOr : OB < wr.heap.size := (Array.getElem?_eq_some_iff.1 hv).1
        by_cases hlt : (k : Int) < p
        · have hid : decide ((k : Int) < p) = true := by simpa using hlt
          have Hyes := Lib.hid (chgL_yes (p := p) (bs := bs) (T := T) (x := x) (k := k))
          have Hno := Lib.hid (chgL_no (p := p) (bs := bs) (T := T) (x := x) (k := k))
          go_wp2_with fail
          refine (HE.out _ hC k hlt).mono ?_
          rintro e w3 ⟨rfl, hb3⟩
          go_wp2_with fail
          refine (HE2.out _ (hC.trans (.of_below hb3)) k hlt).mono ?_
          rintro e w4 ⟨rfl, hb4⟩
          have hq2 := fun w => eq2 w (gD p bs x k) (gD p bs k x) (gD p T x k) (gD p T k x)
          change ∀ w, (Op.equalIn 10000 89 (.agg #[.int .i64 (gD p bs x k), .int .i64 (gD p bs k x)]) (.agg #[.int .i64 (gD p T x k), .int .i64 (gD p T k x)])).run Tryz.prog w = .ok (decide (gD p bs x k = gD p T x k) && decide (gD p bs k x = gD p T k x)) w at hq2
          generalize hdf : (decide (gD p bs x k = gD p T x k) && decide (gD p bs k x = gD p T k x)) = df at *
          have gd := gd2
          have hC4 : SL.Chg [OB] w1 w4 := (hC.trans (.of_below hb3)).trans (.of_below hb4)
          have z3 := hb3.size
          have z4 := hb4.size
          have zw := hC.size
          have v4 := (hb4.block _ (by omega)).trans ((hb3.block _ hOr).trans hv)
          have o4 := (hown.up hb3 (Nat.le_refl _)).up hb4 (Nat.le_refl _)
          cases df with
          | true =>
            have hdB : difB p bs T x k = false := by unfold difB; rw [hdf]; rfl
            go_wp2_with fail
            go_roundw
            case rel => exact ⟨k + 1, by omega, by go_num, hC4, v, v4, by rw [Hno.out hdB]; exact o4⟩
            case measure => simp [intOf]; omega
          | false =>
            have hdB : difB p bs T x k = true := by unfold difB; rw [hdf]; rfl
            have cO := (SL.cells_of v4).1 0
            simp at cO
            have hO4 : OB < w4.heap.size := by omega
            go_wp2_with (at_builtin; refine wpList_app elemI rfl _ _ rfl (o4.up ((Below.refl _ _).alloc (Nat.le_refl _) (Obj.cells #[.int .i64 k] 3)) (Nat.le_refl _)) rfl rfl (RowAt.of_heap (World.alloc_heap_new w4 _)) (by simp) (ones_int [(k : Int)]) ?_ ?_ ?_ ?_)
            · unfold maxLen; omega
            · omega
            · simp; omega
            · intro v' w5 ho5 hg5 hb5 _ hat
              obtain ⟨sa, sc, rfl, _⟩ := owns_slice ho5
              have v5 : w5.heap[OB]? = some (.cells #[v] 27 (0, 0)) := by
                rw [hb5.block OB zO, Below.heap_alloc _ _ _ hO4]; exact v4
              have c5 := (SL.cells_of v5).1 0
              have f5 := (SL.cells_of v5).2
              simp at c5
              clear cO
              go_wp2
              go_roundw
              case rel =>
                have hB5 : Below w1.heap.size w4 w5 := ((Below.refl _ _).alloc (by omega) _).trans hb5
                refine ⟨k + 1, by omega, by go_num, (hC4.up hB5).trans (.setCell _ (by simp) _), _, SL.heap_set v5 _, ?_⟩
                rw [Hyes.out hdB, List.map_append]
                exact SL.row_set (p := ⟨OB, 0, none⟩) (by simpa using ho5) (fun h => by have h9 := (SL.row_bounds ho5 _ h).1; simp at h9; omega) _
              case measure => simp [intOf]; omega
        · have hid : decide ((k : Int) < p) = false := by simpa using hlt
          go_wp2_with fail
          go_end0
          have hkp : p.toNat = k := by omega
          rw [hkp]
          exact ⟨rfl, hC, v, hv, hown⟩
end Go.Proofs.YtlkcfohmoeadbaaGreat

/-
  Gauge, walked: Changed, from outside.
-/
namespace Go.Proofs.YtlkcfohmoeadbaaGreat
open Go.RowKit Go.Shelf
set_option maxHeartbeats 1000000
set_option maxRecDepth 100000

def cgE (p : Int) (bs : List Bd) (b : Bd) (x : Int) : Int := if withE p bs b = 0 then (if askE p bs x x = 0 then (if okB p (bs ++ [b]) then 0 else 10) else askE p bs x x) else withE p bs b
def cgL (p : Int) (bs : List Bd) (b : Bd) (x : Int) : List Int := if withE p bs b = 0 ∧ askE p bs x x = 0 ∧ okB p (bs ++ [b]) = true then chgL p bs (bs ++ [b]) x p.toNat else []

theorem withE_zero {p : Int} {bs : List Bd} {b : Bd} (h : withE p bs b = 0) : chk p bs = 0 ∧ chk p (bs ++ [b]) = 0 := by
  unfold withE at h
  split at h
  · rename_i h0; exact ⟨h0, h⟩
  · rename_i h0; exact absurd h h0

theorem gChanged_any (p : Int) (a : Option Addr) (n cap : Nat) (bs : List Bd) (b : Bd) (x : Int) (w : World) (hb : BdsAt w a n cap bs) :
    Calls Tryz.prog 30 #[.agg #[.int .i64 p, .slice a n cap], .agg #[.int .i64 b.frm, .int .i64 b.tow, .int .i64 b.most, .int .i64 b.bid], .int .i64 x] w fun e w' => ∃ v, e = .returned (.tuple #[v, .int .i64 (cgE p bs b x)]) ∧ Below w.heap.size w w' ∧
      w'.ownsRow w.heap.size 3 1 v (cgL p bs b x).length ((cgL p bs b x).map (.int .i64)) := by
  have hmf := makeFunc_run
  have hB3 : Below w.heap.size w (((w.alloc (Obj.cells #[.int .i64 p, .slice a n cap] 24)).alloc (Obj.cells #[.int .i64 b.frm, .int .i64 b.tow, .int .i64 b.most, .int .i64 b.bid] 26)).alloc (Obj.cells #[.int .i64 x] 3)) := by ((repeat (first | assumption | exact Below.refl _ _ | refine Below.alloc ?_ ?_ _ | refine Below.setCell ?_ ?_ _ | refine Below.drew ?_ | refine belowN ?_ | refine Below.up ?_ (by assumption) ?_)) <;> (first | assumption | omega | (simp; done) | (simp; omega)))
  have hW := gWith_any p a n cap bs b _ (hb.below hB3)
  have hax : ∀ z, a = some z → z.block < w.heap.size := fun z hz => (hb.at_ z hz).2.1
  by_cases hc : withE p bs b = 0
  · obtain ⟨hc0, hc1⟩ := withE_zero hc
    have hsT := Sys.of_chk hc1
    simp only [hc, if_true] at hW
    have hwl : withL p bs b = bs ++ [b] := by simp [withL, hc]
    rw [hwl] at hW
    have hl400 := chk_400 hc1
    have e1 : cgE p bs b x = if askE p bs x x = 0 then (if okB p (bs ++ [b]) then 0 else 10) else askE p bs x x := by simp [cgE, hc]
    have e2 : cgL p bs b x = if askE p bs x x = 0 then (if okB p (bs ++ [b]) then chgL p bs (bs ++ [b]) x p.toNat else []) else [] := by
      unfold cgL
      by_cases h1 : askE p bs x x = 0 <;> by_cases h2 : okB p (bs ++ [b]) = true <;> simp [hc, h1, h2]
    rw [e1, e2]
    clear e1 e2 hwl
    have hask : ∀ (w4 : World) (a2 : Option Addr) (c2 : Nat), Below w.heap.size w w4 → w.heap.size + 3 ≤ w4.heap.size → w4.cell? ⟨w.heap.size, 0, none⟩ = some (.int .i64 p) → w4.cell? ⟨w.heap.size, 1, none⟩ = some (.slice a n cap) → w4.cell? ⟨w.heap.size + 1 + 1, 0, none⟩ = some (.int .i64 x) → BdsAt w4 a2 (bs ++ [b]).length c2 (bs ++ [b]) →
        Calls Tryz.prog 53 #[.agg #[.int .i64 p, .slice a n cap], .int .i64 x, .int .i64 x, .func (.func 67) #[] #[.pointer (some ⟨w4.heap.size, 0, none⟩), .pointer (some ⟨w.heap.size, 0, none⟩), .pointer (some ⟨w.heap.size + 1 + 1, 0, none⟩), .pointer (some ⟨w4.heap.size + 1, 0, none⟩)]]
          ((w4.alloc (Obj.cells #[.int .i64 p, .slice a2 (bs ++ [b]).length c2] 24)).alloc (Obj.cells #[.slice none 0 0] 27)) fun e w7 => e = .returned (.int .i64 (askE p bs x x)) ∧ Below w4.heap.size w4 w7 ∧ w4.heap.size < w7.heap.size ∧ w7.cell? ⟨w4.heap.size, 0, none⟩ = some (.int .i64 p) ∧ w7.cell? ⟨w4.heap.size, 1, none⟩ = some (.slice a2 (bs ++ [b]).length c2) ∧
            ∃ v, w7.cell? ⟨w4.heap.size + 1, 0, none⟩ = some v ∧ w4.heap.size + 1 < w7.heap.size ∧ w7.ownsRow (w4.heap.size + 2) 3 1 v (if askE p bs x x = 0 then (if okB p (bs ++ [b]) then chgL p bs (bs ++ [b]) x p.toNat else []) else []).length ((if askE p bs x x = 0 then (if okB p (bs ++ [b]) then chgL p bs (bs ++ [b]) x p.toNat else []) else []).map (.int .i64)) := by
      intro w4 a2 c2 hB4 hz4 q0 q1 q2 hbt
      have hB6 : Below w4.heap.size w4 ((w4.alloc (Obj.cells #[.int .i64 p, .slice a2 (bs ++ [b]).length c2] 24)).alloc (Obj.cells #[.slice none 0 0] 27)) := by ((repeat (first | assumption | exact Below.refl _ _ | refine Below.alloc ?_ ?_ _ | refine Below.setCell ?_ ?_ _ | refine Below.drew ?_ | refine belowN ?_ | refine Below.up ?_ (by assumption) ?_)) <;> (first | assumption | omega | (simp; done) | (simp; omega)))
      have z6 : ((w4.alloc (Obj.cells #[.int .i64 p, .slice a2 (bs ++ [b]).length c2] 24)).alloc (Obj.cells #[.slice none 0 0] 27)).heap.size = w4.heap.size + 2 := by simp
      have hT6 : ((w4.alloc (Obj.cells #[.int .i64 p, .slice a2 (bs ++ [b]).length c2] 24)).alloc (Obj.cells #[.slice none 0 0] 27)).heap[w4.heap.size]? = some (.cells #[.int .i64 p, .slice a2 (bs ++ [b]).length c2] 24 (0, 0)) := by
        rw [Below.heap_alloc _ _ _ (by simp)]; exact World.alloc_heap_new _ _
      have hO6 := heap_alloc2_new w4 (Obj.cells #[.int .i64 p, .slice a2 (bs ++ [b]).length c2] 24) (Obj.cells #[.slice none 0 0] 27)
      generalize (w4.alloc (Obj.cells #[.int .i64 p, .slice a2 (bs ++ [b]).length c2] 24)).alloc (Obj.cells #[.slice none 0 0] 27) = w6 at *
      have hb6 := (hb.below hB4).below hB6
      have hbt6 := hbt.below hB6
      have hax2 : ∀ z, a2 = some z → z.block < w4.heap.size := fun z hz => (hbt.at_ z hz).2.1
      have hA := gasked_any p a n cap bs x x 67 #[.pointer (some ⟨w4.heap.size, 0, none⟩), .pointer (some ⟨w.heap.size, 0, none⟩), .pointer (some ⟨w.heap.size + 1 + 1, 0, none⟩), .pointer (some ⟨w4.heap.size + 1, 0, none⟩)] w6 hb6
        [w4.heap.size + 1] (by simp; omega) (fun w' => ∃ v, w'.heap[w4.heap.size + 1]? = some (.cells #[v] 27 (0, 0)) ∧ w'.ownsRow (w6.heap.size + 6) 3 1 v (if okB p (bs ++ [b]) then chgL p bs (bs ++ [b]) x p.toNat else []).length ((if okB p (bs ++ [b]) then chgL p bs (bs ++ [b]) x p.toNat else []).map (.int .i64)))
        (fun w1 w3 ⟨v, h1, h2⟩ hc => ⟨v, heap_chg h1 hc (by simp <;> omega), row_chg h2 hc (by simp)⟩) (enters_of Tryz.func67 (by kernel_rfl) rfl)
        (fun h0 w3 hb3 hz3 => by
          obtain ⟨k0, k1, k2⟩ := askE_zero h0
          obtain ⟨⟨k3, k4⟩, _⟩ := both_in k1
          have hcc := (bcell (hB6.trans (hb3.mono (by omega)))).1
          refine (gChanged1_any p a n cap bs a2 _ c2 (bs ++ [b]) x _ _ _ _ w3 (Sys.of_chk k0) hsT (hb6.below hb3) (hbt6.below hb3) k3 k4 ((hcc _ _ (by omega)).trans q0) ((hcc _ _ (by omega)).trans q1)
            (((SL.cells_of ((hb3.block _ (by omega)).trans hT6)).1 0).trans (by simp)) (((SL.cells_of ((hb3.block _ (by omega)).trans hT6)).1 1).trans (by simp)) ((hcc _ _ (by omega)).trans q2) ((hb3.block _ (by omega)).trans hO6) (by omega) (fun z hz => by have := hax z hz; omega) (fun z hz => by have := hax2 z hz; omega)).mono ?_
          rintro e w' ⟨rfl, hC, v, hv, ho⟩
          exact ⟨rfl, hC, v, hv, SL.row_base ho hz3⟩)
      refine hA.mono ?_
      rintro e w7 ⟨rfl, hC, hS, hnS⟩
      have z7 := hC.size
      have hT7 := heap_chg hT6 hC (by simp)
      refine ⟨rfl, hB6.trans (hC.belowE (by omega) (by simp)), by omega, ((SL.cells_of hT7).1 0).trans (by simp), ((SL.cells_of hT7).1 1).trans (by simp), ?_⟩
      by_cases h0 : askE p bs x x = 0
      · obtain ⟨v, h1, h2⟩ := hS h0
        rw [if_pos h0]
        exact ⟨v, ((SL.cells_of h1).1 0).trans (by simp), by omega, SL.row_base h2 (by omega)⟩
      · rw [if_neg h0]
        exact ⟨_, ((SL.cells_of (((hnS h0).block _ (by omega)).trans hO6)).1 0).trans (by simp), by omega, World.ownsRow_nil _ _ _ _⟩
    have hSol := fun w (a2 : Option Addr) (c2 : Nat) (h : BdsAt w a2 (bs ++ [b]).length c2 (bs ++ [b])) => gsolvable_any p a2 _ c2 (bs ++ [b]) w h hsT
    have Hask := Lib.hid hask
    clear hask
    generalize bs ++ [b] = T at *
    have hb4x : ∀ w4 : World, Below w.heap.size w w4 → True := fun _ _ => trivial
    cases hok : okB p T <;> by_cases ha : askE p bs x x = 0
    all_goals try (have ha' : (askE p bs x x == 0) = false := by simpa using ha)
    all_goals simp only [hok, ha, if_true, if_false, Bool.false_eq_true] at hSol Hask ⊢
    all_goals try generalize askE p bs x x = q at *
    · go_enter Tryz.func30, Tryz.ntmps30
      go_wp2_with (first
        | (go_at_call 12; refine hW.mono ?_; rintro e w4 ⟨v4, rfl, ho4, hb4⟩
           obtain ⟨a2, c2, rfl, ha2⟩ := owns_slice ho4
           have hz4 := hb4.size
           simp only [World.size_alloc] at hz4
           have hcc := (bcell hb4).1
           have q0 : w4.cell? ⟨w.heap.size, 0, none⟩ = some (.int .i64 p) := by rw [hcc _ _ (by simp; omega)]; simp [go_sem]
           have q1 : w4.cell? ⟨w.heap.size, 1, none⟩ = some (.slice a n cap) := by rw [hcc _ _ (by simp; omega)]; simp [go_sem]
           have q2 : w4.cell? ⟨w.heap.size + 1 + 1, 0, none⟩ = some (.int .i64 x) := by rw [hcc _ _ (by simp)]; simp [go_sem]
           clear hcc
           have hB4 : Below w.heap.size w w4 := hB3.trans (hb4.mono (by simp; omega))
           have hx0 : w.heap.size < w4.heap.size := by omega
           have hx1 : w.heap.size + 1 + 1 < w4.heap.size := by omega
           have hx2 : w.heap.size + 1 < w4.heap.size := by omega
           have hbt := BdsAt.of_owns ho4 (by omega))
        | (go_at_call 53; refine (Hask.out w4 a2 c2 hB4 (by omega) q0 q1 q2 hbt).mono ?_; rintro e w7 ⟨rfl, hb7, hz7, y0, y1, v, y2, hz8, ho7⟩)
        | (go_at_call 58; refine (hSol w7 a2 c2 (hbt.below hb7)).mono ?_; rintro e w8 ⟨rfl, hb8⟩
           have y3 := ((bcell hb8).1 (w4.heap.size + 1) 0 hz8).trans y2))
      refine bodyPost_ret (v := .tuple #[v, .int .i64 10]) (by simp [results, Tryz.results30, go_sem, *]) rfl ⟨v, rfl, (hB4.trans (hb7.mono (by omega))).trans (hb8.mono (by omega)), SL.row_base (World.ownsRow.up ho7 hb8 (Nat.le_refl _)) (by omega)⟩
    · go_enter Tryz.func30, Tryz.ntmps30
      go_wp2_with (first
        | (go_at_call 12; refine hW.mono ?_; rintro e w4 ⟨v4, rfl, ho4, hb4⟩
           obtain ⟨a2, c2, rfl, ha2⟩ := owns_slice ho4
           have hz4 := hb4.size
           simp only [World.size_alloc] at hz4
           have hcc := (bcell hb4).1
           have q0 : w4.cell? ⟨w.heap.size, 0, none⟩ = some (.int .i64 p) := by rw [hcc _ _ (by simp; omega)]; simp [go_sem]
           have q1 : w4.cell? ⟨w.heap.size, 1, none⟩ = some (.slice a n cap) := by rw [hcc _ _ (by simp; omega)]; simp [go_sem]
           have q2 : w4.cell? ⟨w.heap.size + 1 + 1, 0, none⟩ = some (.int .i64 x) := by rw [hcc _ _ (by simp)]; simp [go_sem]
           clear hcc
           have hB4 : Below w.heap.size w w4 := hB3.trans (hb4.mono (by simp; omega))
           have hx0 : w.heap.size < w4.heap.size := by omega
           have hx1 : w.heap.size + 1 + 1 < w4.heap.size := by omega
           have hx2 : w.heap.size + 1 < w4.heap.size := by omega
           have hbt := BdsAt.of_owns ho4 (by omega))
        | (go_at_call 53; refine (Hask.out w4 a2 c2 hB4 (by omega) q0 q1 q2 hbt).mono ?_; rintro e w7 ⟨rfl, hb7, hz7, y0, y1, v, y2, hz8, ho7⟩)
        | (go_at_call 58; refine (hSol w7 a2 c2 (hbt.below hb7)).mono ?_; rintro e w8 ⟨rfl, hb8⟩
           have y3 := ((bcell hb8).1 (w4.heap.size + 1) 0 hz8).trans y2))
      refine bodyPost_ret (v := .tuple #[v, .int .i64 q]) (by simp [results, Tryz.results30, go_sem, *]) rfl ⟨v, rfl, (hB4.trans (hb7.mono (by omega))), SL.row_base ho7 (by omega)⟩
    · go_enter Tryz.func30, Tryz.ntmps30
      go_wp2_with (first
        | (go_at_call 12; refine hW.mono ?_; rintro e w4 ⟨v4, rfl, ho4, hb4⟩
           obtain ⟨a2, c2, rfl, ha2⟩ := owns_slice ho4
           have hz4 := hb4.size
           simp only [World.size_alloc] at hz4
           have hcc := (bcell hb4).1
           have q0 : w4.cell? ⟨w.heap.size, 0, none⟩ = some (.int .i64 p) := by rw [hcc _ _ (by simp; omega)]; simp [go_sem]
           have q1 : w4.cell? ⟨w.heap.size, 1, none⟩ = some (.slice a n cap) := by rw [hcc _ _ (by simp; omega)]; simp [go_sem]
           have q2 : w4.cell? ⟨w.heap.size + 1 + 1, 0, none⟩ = some (.int .i64 x) := by rw [hcc _ _ (by simp)]; simp [go_sem]
           clear hcc
           have hB4 : Below w.heap.size w w4 := hB3.trans (hb4.mono (by simp; omega))
           have hx0 : w.heap.size < w4.heap.size := by omega
           have hx1 : w.heap.size + 1 + 1 < w4.heap.size := by omega
           have hx2 : w.heap.size + 1 < w4.heap.size := by omega
           have hbt := BdsAt.of_owns ho4 (by omega))
        | (go_at_call 53; refine (Hask.out w4 a2 c2 hB4 (by omega) q0 q1 q2 hbt).mono ?_; rintro e w7 ⟨rfl, hb7, hz7, y0, y1, v, y2, hz8, ho7⟩)
        | (go_at_call 58; refine (hSol w7 a2 c2 (hbt.below hb7)).mono ?_; rintro e w8 ⟨rfl, hb8⟩
           have y3 := ((bcell hb8).1 (w4.heap.size + 1) 0 hz8).trans y2))
      refine bodyPost_ret (v := .tuple #[v, .int .i64 0]) (by simp [results, Tryz.results30, go_sem, *]) rfl ⟨v, rfl, (hB4.trans (hb7.mono (by omega))).trans (hb8.mono (by omega)), SL.row_base (World.ownsRow.up ho7 hb8 (Nat.le_refl _)) (by omega)⟩
    · go_enter Tryz.func30, Tryz.ntmps30
      go_wp2_with (first
        | (go_at_call 12; refine hW.mono ?_; rintro e w4 ⟨v4, rfl, ho4, hb4⟩
           obtain ⟨a2, c2, rfl, ha2⟩ := owns_slice ho4
           have hz4 := hb4.size
           simp only [World.size_alloc] at hz4
           have hcc := (bcell hb4).1
           have q0 : w4.cell? ⟨w.heap.size, 0, none⟩ = some (.int .i64 p) := by rw [hcc _ _ (by simp; omega)]; simp [go_sem]
           have q1 : w4.cell? ⟨w.heap.size, 1, none⟩ = some (.slice a n cap) := by rw [hcc _ _ (by simp; omega)]; simp [go_sem]
           have q2 : w4.cell? ⟨w.heap.size + 1 + 1, 0, none⟩ = some (.int .i64 x) := by rw [hcc _ _ (by simp)]; simp [go_sem]
           clear hcc
           have hB4 : Below w.heap.size w w4 := hB3.trans (hb4.mono (by simp; omega))
           have hx0 : w.heap.size < w4.heap.size := by omega
           have hx1 : w.heap.size + 1 + 1 < w4.heap.size := by omega
           have hx2 : w.heap.size + 1 < w4.heap.size := by omega
           have hbt := BdsAt.of_owns ho4 (by omega))
        | (go_at_call 53; refine (Hask.out w4 a2 c2 hB4 (by omega) q0 q1 q2 hbt).mono ?_; rintro e w7 ⟨rfl, hb7, hz7, y0, y1, v, y2, hz8, ho7⟩)
        | (go_at_call 58; refine (hSol w7 a2 c2 (hbt.below hb7)).mono ?_; rintro e w8 ⟨rfl, hb8⟩
           have y3 := ((bcell hb8).1 (w4.heap.size + 1) 0 hz8).trans y2))
      refine bodyPost_ret (v := .tuple #[v, .int .i64 q]) (by simp [results, Tryz.results30, go_sem, *]) rfl ⟨v, rfl, (hB4.trans (hb7.mono (by omega))), SL.row_base ho7 (by omega)⟩
  · have hc' : (withE p bs b == 0) = false := by simpa using hc
    have e1 : cgE p bs b x = withE p bs b := by simp [cgE, hc]
    have e2 : cgL p bs b x = [] := by simp [cgL, hc]
    rw [e1, e2]
    clear e1 e2
    generalize withE p bs b = c at *
    go_enter Tryz.func30, Tryz.ntmps30
    go_wp2_with (go_at_call 12; refine hW.mono ?_; rintro e w4 ⟨v4, rfl, ho4, hb4⟩; obtain ⟨a2, c2, rfl, ha2⟩ := owns_slice ho4
                 have hz4 := hb4.size
                 simp only [World.size_alloc] at hz4)
    refine bodyPost_ret (v := .tuple #[.slice none 0 0, .int .i64 c]) (by simp [results, Tryz.results30, go_sem, *]) rfl ⟨_, rfl, ?_, World.ownsRow_nil _ _ _ _⟩
    exact (hB3.trans (hb4.mono (by simp; omega))).alloc (by omega) _
end Go.Proofs.YtlkcfohmoeadbaaGreat
