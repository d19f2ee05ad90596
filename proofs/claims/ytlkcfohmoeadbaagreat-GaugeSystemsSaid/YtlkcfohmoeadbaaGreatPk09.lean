/-
  Lemmas and walks for the laws on bounds and their sums; the parts' own heads say what each proves, for every input.
-/
import Derived.Test.YtlkcfohmoeadbaaGreatPk08
import Derived.Test.YtlkcfohmoeadbaaGreatPk04
set_option linter.unusedSimpArgs false
set_option linter.unusedVariables false
set_option linter.unnecessarySimpa false
/-
  Gauge, walked: asked, Greatest, Least.
-/
namespace Go.Proofs.YtlkcfohmoeadbaaGreat
open Go.RowKit Go.Shelf
set_option maxHeartbeats 1000000
set_option maxRecDepth 100000

def both (p x y : Int) : Bool := [x, y].all (inP p)

/-- What asked$1 ends in. -/
def askEnd (p : Int) (bs : List Bd) (x y : Int) (E : List Nat) (S : World → Prop) (w1 : World) (e : Ending) (w' : World) : Prop :=
  (both p x y = false → e = .panicked gaveUp ∧ Below w1.heap.size w1 w') ∧ (both p x y = true → okB p bs = false → e = .returned (.int .i64 10) ∧ Below w1.heap.size w1 w') ∧
  (both p x y = true → okB p bs = true → e = .returned (.int .i64 0) ∧ SL.Chg E w1 w' ∧ S w')

theorem gasked1_any (p : Int) (a : Option Addr) (n cap : Nat) (bs : List Bd) (x y : Int) (k : Nat) (caps : Array Value) (SB BA BB WB : Nat) (w1 : World) (hs : Sys p bs) (hb : BdsAt w1 a n cap bs)
    (c0 : w1.cell? ⟨SB, 0, none⟩ = some (.int .i64 p)) (c1 : w1.cell? ⟨SB, 1, none⟩ = some (.slice a n cap)) (ca : w1.cell? ⟨BA, 0, none⟩ = some (.int .i64 x)) (cb : w1.cell? ⟨BB, 0, none⟩ = some (.int .i64 y)) (cw : w1.cell? ⟨WB, 0, none⟩ = some (.func (.func k) #[] caps))
    (hent : ∀ args w, (callFunc k args).run Tryz.prog w = .ok (.enter k args) w) (E : List Nat) (S : World → Prop)
    (hw : both p x y = true → okB p bs = true → ∀ w2, Below w1.heap.size w1 w2 → Calls Tryz.prog k caps w2 fun e w' => e = .returned (.tuple #[]) ∧ SL.Chg E w2 w' ∧ S w') :
    Calls Tryz.prog 80 #[.pointer (some ⟨SB, 0, none⟩), .pointer (some ⟨BA, 0, none⟩), .pointer (some ⟨BB, 0, none⟩), .pointer (some ⟨WB, 0, none⟩)] w1 (askEnd p bs x y E S w1) := by
  have z0 := World.block_lt_of_cell? w1 _ c0
  have z1 := World.block_lt_of_cell? w1 _ ca
  have z2 := World.block_lt_of_cell? w1 _ cb
  have z3 := World.block_lt_of_cell? w1 _ cw
  simp only at z0 z1 z2 z3
  have hp := hs.p1
  have hp2 := hs.p2
  have hpts := fun (w : World) (al : Option Addr) (m c : Nat) (h : IntsAt w al m c [x, y]) => gpoints_any p a n cap al m c [x, y] w h ⟨hp, hp2⟩
  have hso := fun (w : World) (h : BdsAt w a n cap bs) => gsolvable_any p a n cap bs w h hs
  have hnew : IntsAt (w1.alloc (Obj.cells #[.int .i64 x, .int .i64 y] 3)) (some ⟨w1.heap.size, 0, none⟩) 2 2 [x, y] :=
    ⟨rfl, by simp, RowAt.of_heap (World.alloc_heap_new w1 _)⟩
  have hbn := hb.below (w' := w1.alloc (Obj.cells #[.int .i64 x, .int .i64 y] 3)) ((Below.refl _ _).alloc (Nat.le_refl _) _)
  change ∀ (w : World) (al : Option Addr) (m c : Nat) (_ : IntsAt w al m c [x, y]), Calls Tryz.prog 57 #[.agg #[.int .i64 p, .slice a n cap], .slice al m c] w fun e w' => e = (if both p x y then .returned (.tuple #[]) else .panicked gaveUp) ∧ Below w.heap.size w w' at hpts
  unfold askEnd
  generalize both p x y = o1 at *
  generalize okB p bs = o2 at *
  cases o1 with
  | false =>
    go_enter Tryz.func80, Tryz.ntmps80
    go_wp2_with (go_at_call 57; refine (hpts _ _ _ _ hnew).mono ?_; rintro e w2 ⟨rfl, hb2⟩)
    exact ⟨rfl, fun _ => ⟨rfl, ((Below.refl _ w1).alloc (Nat.le_refl _) _).trans (hb2.mono (by simp))⟩, (fun h => by cases h), (fun h => by cases h)⟩
  | true =>
    cases o2 with
    | false =>
      go_enter Tryz.func80, Tryz.ntmps80
      go_wp2_with (first
        | (go_at_call 57; refine (hpts _ _ _ _ hnew).mono ?_; rintro e w2 ⟨rfl, hb2⟩; obtain ⟨hc2, hf2⟩ := bcell hb2; have hz2a := lt_size hb2 (b := SB) (by first | assumption | omega | (simp; done) | (simp; omega)); have hz2b := lt_size hb2 (b := BA) (by first | assumption | omega | (simp; done) | (simp; omega)); have hz2c := lt_size hb2 (b := BB) (by first | assumption | omega | (simp; done) | (simp; omega)); have hz2d := lt_size hb2 (b := WB) (by first | assumption | omega | (simp; done) | (simp; omega)))
        | (go_at_call 58; refine (hso _ (hbn.below hb2)).mono ?_; rintro e w3 ⟨rfl, hb3⟩))
      have hz2 := hb2.size
      simp only [World.size_alloc] at hz2
      go_ret
      exact ⟨(fun h => by cases h), fun _ _ => ⟨rfl, (((Below.refl _ w1).alloc (Nat.le_refl _) _).trans (hb2.mono (by simp))).trans (hb3.mono (by omega))⟩, (fun _ h => by cases h)⟩
    | true =>
      have hw' := hw rfl rfl
      go_enter Tryz.func80, Tryz.ntmps80
      go_wp2_with (first
        | (go_at_call 57; refine (hpts _ _ _ _ hnew).mono ?_; rintro e w2 ⟨rfl, hb2⟩; obtain ⟨hc2, hf2⟩ := bcell hb2; have hz2a := lt_size hb2 (b := SB) (by first | assumption | omega | (simp; done) | (simp; omega)); have hz2b := lt_size hb2 (b := BA) (by first | assumption | omega | (simp; done) | (simp; omega)); have hz2c := lt_size hb2 (b := BB) (by first | assumption | omega | (simp; done) | (simp; omega)); have hz2d := lt_size hb2 (b := WB) (by first | assumption | omega | (simp; done) | (simp; omega)))
        | (go_at_call 58; refine (hso _ (hbn.below hb2)).mono ?_; rintro e w3 ⟨rfl, hb3⟩; obtain ⟨hc3, hf3⟩ := bcell hb3; have hz3a := lt_size hb3 (b := SB) (by first | assumption | omega | (simp; done) | (simp; omega)); have hz3b := lt_size hb3 (b := BA) (by first | assumption | omega | (simp; done) | (simp; omega)); have hz3c := lt_size hb3 (b := BB) (by first | assumption | omega | (simp; done) | (simp; omega)); have hz3d := lt_size hb3 (b := WB) (by first | assumption | omega | (simp; done) | (simp; omega))))
      have hz2 := hb2.size
      simp only [World.size_alloc] at hz2
      have hB3 : Below w1.heap.size w1 w3 := (((Below.refl _ w1).alloc (Nat.le_refl _) _).trans (hb2.mono (by simp))).trans (hb3.mono (by omega))
      refine (hw' w3 hB3).mono ?_
      rintro e w4 ⟨rfl, hC, hS⟩
      go_wp2
      go_ret
      exact ⟨(fun h => by cases h), (fun _ h => by cases h), fun _ _ => ⟨rfl, (SL.Chg.of_below hB3).trans hC, hS⟩⟩

/-- The error that asked hands back. -/
def askE (p : Int) (bs : List Bd) (x y : Int) : Int := if chk p bs = 0 then (if both p x y then (if okB p bs then 0 else 10) else 1) else chk p bs

theorem gasked_any (p : Int) (a : Option Addr) (n cap : Nat) (bs : List Bd) (x y : Int) (k : Nat) (caps : Array Value) (w : World) (hb : BdsAt w a n cap bs) (E : List Nat) (hE : ∀ i ∈ E, i < w.heap.size) (S : World → Prop)
    (hS : ∀ w1 w2, S w1 → SL.Chg [w.heap.size + 5] w1 w2 → S w2) (hent : ∀ args w, (callFunc k args).run Tryz.prog w = .ok (.enter k args) w)
    (hw : askE p bs x y = 0 → ∀ w2, Below w.heap.size w w2 → w.heap.size + 6 ≤ w2.heap.size → Calls Tryz.prog k caps w2 fun e w' => e = .returned (.tuple #[]) ∧ SL.Chg E w2 w' ∧ S w') :
    Calls Tryz.prog 53 #[.agg #[.int .i64 p, .slice a n cap], .int .i64 x, .int .i64 y, .func (.func k) #[] caps] w fun e w' => e = .returned (.int .i64 (askE p bs x y)) ∧ SL.Chg E w w' ∧ (askE p bs x y = 0 → S w') ∧ (askE p bs x y ≠ 0 → Below w.heap.size w w') := by
  have hmf := makeFunc_run
  -- the world with the boxes
  generalize hw4 : (((w.alloc (Obj.cells #[.int .i64 p, .slice a n cap] 24)).alloc (Obj.cells #[.int .i64 x] 3)).alloc (Obj.cells #[.int .i64 y] 3)).alloc (Obj.cells #[.func (.func k) #[] caps] 1) = w4
  have hB4 : Below w.heap.size w w4 := by rw [← hw4]; ((repeat (first | assumption | exact Below.refl _ _ | refine Below.alloc ?_ ?_ _ | refine Below.setCell ?_ ?_ _ | refine Below.drew ?_ | refine belowN ?_ | refine Below.up ?_ (by assumption) ?_)) <;> (first | assumption | omega | (simp; done) | (simp; omega)))
  have z4 : w4.heap.size = w.heap.size + 4 := by rw [← hw4]; simp
  have c0 : w4.cell? ⟨w.heap.size, 0, none⟩ = some (.int .i64 p) := by rw [← hw4]; simp [go_sem]
  have c1 : w4.cell? ⟨w.heap.size, 1, none⟩ = some (.slice a n cap) := by rw [← hw4]; simp [go_sem]
  have c2 : w4.cell? ⟨w.heap.size + 1, 0, none⟩ = some (.int .i64 x) := by rw [← hw4]; simp [go_sem]
  have c3 : w4.cell? ⟨w.heap.size + 1 + 1, 0, none⟩ = some (.int .i64 y) := by rw [← hw4]; simp [go_sem]
  have c4 : w4.cell? ⟨w.heap.size + 1 + 1 + 1, 0, none⟩ = some (.func (.func k) #[] caps) := by rw [← hw4]; simp [go_sem]
  have hT := gtried_any p a n cap bs 80 #[.pointer (some ⟨w.heap.size, 0, none⟩), .pointer (some ⟨w.heap.size + 1, 0, none⟩), .pointer (some ⟨w.heap.size + 1 + 1, 0, none⟩), .pointer (some ⟨w.heap.size + 1 + 1 + 1, 0, none⟩)] w4 (hb.below hB4) E (fun i hi => by have := hE i hi; omega)
    (fun c w' => (askE p bs x y = c ∧ SL.Chg E w w' ∧ (c = 0 → S w') ∧ (c ≠ 0 → Below w.heap.size w w'))) (fun w' => askE p bs x y = 1 ∧ Below w.heap.size w w')
    (fun c w1 w2 h hc2 => ⟨h.1, h.2.1.up (hc2.belowE h.2.1.size (by simp; omega)), fun h0 => hS _ _ (h.2.2.1 h0) (by rw [z4] at hc2; exact hc2), fun h0 => (h.2.2.2 h0).trans (hc2.belowE h.2.1.size (by simp; omega))⟩)
    (fun w1 w2 h hc2 => ⟨h.1, h.2.trans (hc2.belowE h.2.size (by simp; omega))⟩) (enters_of Tryz.func80 (by kernel_rfl) rfl) (fun h0 w1 hb1 hz1' => by
      have hc := (bcell hb1).1
      have hB1 : Below w.heap.size w w1 := hB4.trans (hb1.mono (by omega))
      refine (gasked1_any p a n cap bs x y k caps _ _ _ _ w1 (Sys.of_chk h0) (hb.below hB1) ((hc _ _ (by omega)).trans c0) ((hc _ _ (by omega)).trans c1) ((hc _ _ (by omega)).trans c2) ((hc _ _ (by omega)).trans c3) ((hc _ _ (by omega)).trans c4) hent E S
        (fun h1 h2 w2 hb2 => hw (by simp [askE, h0, h1, h2]) w2 (hB1.trans (hb2.mono (by have := hb1.size; omega))) (by have := hb2.size; omega))).mono ?_
      rintro e w' ⟨e1, e2, e3⟩
      have hz1 := hb1.size
      cases h1 : both p x y with
      | false =>
        obtain ⟨q1, q2⟩ := e1 h1
        have hB : Below w.heap.size w w' := hB1.trans (q2.mono (by omega))
        exact ⟨.of_below (q2), .inr ⟨q1, by simp [askE, h0, h1], hB⟩⟩
      | true =>
        cases h2 : okB p bs with
        | false =>
          obtain ⟨q1, q2⟩ := e2 h1 h2
          have hB : Below w.heap.size w w' := hB1.trans (q2.mono (by omega))
          exact ⟨.of_below q2, .inl ⟨10, q1, by simp [askE, h0, h1, h2], .of_below hB, (fun h => by cases h), fun _ => hB⟩⟩
        | true =>
          obtain ⟨q1, q2, q3⟩ := e3 h1 h2
          exact ⟨q2, .inl ⟨0, q1, by simp [askE, h0, h1, h2], (SL.Chg.of_below hB1).trans q2, fun _ => q3, fun h => absurd rfl h⟩⟩)
  go_enter Tryz.func53, Tryz.ntmps53
  go_wp2_with fail
  refine hT.mono ?_
  rintro e w5 ⟨c, rfl, hC, h1, h2⟩
  go_wp2
  go_ret
  have hC' : SL.Chg E w w5 := (SL.Chg.of_below hB4).trans hC
  by_cases h0 : chk p bs = 0
  · rcases h2 h0 with ⟨q1, q2, q3, q4⟩ | ⟨rfl, q1, q2⟩
    · rw [q1]; exact ⟨rfl, q2, q3, q4⟩
    · rw [q1]; exact ⟨rfl, hC', (fun h => by cases h), fun _ => q2⟩
  · obtain ⟨rfl, q2⟩ := h1 h0
    have hq : askE p bs x y = chk p bs := by simp [askE, h0]
    rw [hq]
    exact ⟨rfl, hC', fun h => absurd h h0, fun _ => hB4.trans (q2.mono (by omega))⟩
end Go.Proofs.YtlkcfohmoeadbaaGreat

/-
  Gauge, walked: Greatest, Least.
-/
namespace Go.Proofs.YtlkcfohmoeadbaaGreat
open Go.RowKit Go.Shelf
set_option maxHeartbeats 1000000
set_option maxRecDepth 100000

theorem both_in {p x y : Int} (h : both p x y = true) : (0 ≤ x ∧ x < p) ∧ 0 ≤ y ∧ y < p := by
  simp [both, inP, withinB] at h
  omega
theorem askE_zero {p x y : Int} {bs : List Bd} (h : askE p bs x y = 0) : chk p bs = 0 ∧ both p x y = true ∧ okB p bs = true := by
  unfold askE at h
  split at h
  · rename_i h0
    split at h
    · rename_i h1
      split at h
      · rename_i h2; exact ⟨h0, h1, h2⟩
      · omega
    · omega
  · contradiction

theorem gGreatest1_any (p : Int) (a : Option Addr) (n cap : Nat) (bs : List Bd) (x y : Int) (SB BA BB NB : Nat) (old : Value) (w1 : World) (hs : Sys p bs) (hb : BdsAt w1 a n cap bs) (hxy : both p x y = true)
    (c0 : w1.cell? ⟨SB, 0, none⟩ = some (.int .i64 p)) (c1 : w1.cell? ⟨SB, 1, none⟩ = some (.slice a n cap)) (ca : w1.cell? ⟨BA, 0, none⟩ = some (.int .i64 x)) (cb : w1.cell? ⟨BB, 0, none⟩ = some (.int .i64 y)) (hN : w1.heap[NB]? = some (.cells #[old] 3 (0, 0))) :
    Calls Tryz.prog 54 #[.pointer (some ⟨SB, 0, none⟩), .pointer (some ⟨BA, 0, none⟩), .pointer (some ⟨BB, 0, none⟩), .pointer (some ⟨NB, 0, none⟩)] w1 fun e w' => e = .returned (.tuple #[]) ∧ SL.Chg [NB] w1 w' ∧ w'.heap[NB]? = some (.cells #[.int .i64 (gD p bs x y)] 3 (0, 0)) := by
  obtain ⟨⟨h1, h2⟩, h3, h4⟩ := both_in hxy
  have hNl : NB < w1.heap.size := (Array.getElem?_eq_some_iff.1 hN).1
  have hG := ggreatest_any p a n cap bs x y w1 hb hs h1 h2 h3 h4
  go_enter Tryz.func54, Tryz.ntmps54
  go_wp2_with (go_at_call 55; refine hG.mono ?_; rintro e w2 ⟨rfl, hb2⟩
               have hN2 := (hb2.block _ hNl).trans hN
               have cn := (SL.cells_of hN2).1 0
               have fn := (SL.cells_of hN2).2 0
               simp at cn)
  go_end0
  exact ⟨rfl, (SL.Chg.of_below hb2).trans (.setCell _ (by simp) _), SL.heap_set hN2 _⟩

/-- What Greatest hands back: the number, and whether there is one. -/
def grN (p : Int) (bs : List Bd) (x y : Int) : Int := if askE p bs x y = 0 ∧ gD p bs x y ≠ FAR then gD p bs x y else 0
def grB (p : Int) (bs : List Bd) (x y : Int) : Bool := decide (askE p bs x y = 0 ∧ gD p bs x y ≠ FAR)

theorem gGreatest_any (p : Int) (a : Option Addr) (n cap : Nat) (bs : List Bd) (x y : Int) (w : World) (hb : BdsAt w a n cap bs) :
    Calls Tryz.prog 24 #[.agg #[.int .i64 p, .slice a n cap], .int .i64 x, .int .i64 y] w fun e w' => e = .returned (.tuple #[.int .i64 (grN p bs x y), .bool (grB p bs x y), .int .i64 (askE p bs x y)]) ∧ Below w.heap.size w w' := by
  have hmf := makeFunc_run
  generalize hw4 : (((w.alloc (Obj.cells #[.int .i64 p, .slice a n cap] 24)).alloc (Obj.cells #[.int .i64 x] 3)).alloc (Obj.cells #[.int .i64 y] 3)).alloc (Obj.cells #[.int .i64 FAR] 3) = w4
  have hB4 : Below w.heap.size w w4 := by rw [← hw4]; ((repeat (first | assumption | exact Below.refl _ _ | refine Below.alloc ?_ ?_ _ | refine Below.setCell ?_ ?_ _ | refine Below.drew ?_ | refine belowN ?_ | refine Below.up ?_ (by assumption) ?_)) <;> (first | assumption | omega | (simp; done) | (simp; omega)))
  have z4 : w4.heap.size = w.heap.size + 4 := by rw [← hw4]; simp
  have c0 : w4.cell? ⟨w.heap.size, 0, none⟩ = some (.int .i64 p) := by rw [← hw4]; simp [go_sem]
  have c1 : w4.cell? ⟨w.heap.size, 1, none⟩ = some (.slice a n cap) := by rw [← hw4]; simp [go_sem]
  have c2 : w4.cell? ⟨w.heap.size + 1, 0, none⟩ = some (.int .i64 x) := by rw [← hw4]; simp [go_sem]
  have c3 : w4.cell? ⟨w.heap.size + 1 + 1, 0, none⟩ = some (.int .i64 y) := by rw [← hw4]; simp [go_sem]
  have h4 : w4.heap[w.heap.size + 1 + 1 + 1]? = some (.cells #[.int .i64 FAR] 3 (0, 0)) := by
    have h := World.alloc_heap_new (((w.alloc (Obj.cells #[.int .i64 p, .slice a n cap] 24)).alloc (Obj.cells #[.int .i64 x] 3)).alloc (Obj.cells #[.int .i64 y] 3)) (Obj.cells #[.int .i64 FAR] 3)
    rw [World.size_alloc, World.size_alloc, World.size_alloc] at h
    rw [← hw4]; exact h
  have hA := gasked_any p a n cap bs x y 54 #[.pointer (some ⟨w.heap.size, 0, none⟩), .pointer (some ⟨w.heap.size + 1, 0, none⟩), .pointer (some ⟨w.heap.size + 1 + 1, 0, none⟩), .pointer (some ⟨w.heap.size + 1 + 1 + 1, 0, none⟩)] w4 (hb.below hB4)
    [w.heap.size + 1 + 1 + 1] (by simp; omega) (fun w' => w'.heap[w.heap.size + 1 + 1 + 1]? = some (.cells #[.int .i64 (gD p bs x y)] 3 (0, 0))) (fun w1 w2 h hc2 => heap_chg h hc2 (by simp; omega)) (enters_of Tryz.func54 (by kernel_rfl) rfl)
    (fun h0 w2 hb2 _ => by
      obtain ⟨q0, q1, q2⟩ := askE_zero h0
      have hc := (bcell hb2).1
      exact gGreatest1_any p a n cap bs x y _ _ _ _ _ w2 (Sys.of_chk q0) ((hb.below hB4).below hb2) q1 ((hc _ _ (by omega)).trans c0) ((hc _ _ (by omega)).trans c1) ((hc _ _ (by omega)).trans c2) ((hc _ _ (by omega)).trans c3) ((hb2.block _ (by omega)).trans h4))
  have hcell : ∀ w5 : World, SL.Chg [w.heap.size + 1 + 1 + 1] w4 w5 → (askE p bs x y = 0 → w5.heap[w.heap.size + 1 + 1 + 1]? = some (.cells #[.int .i64 (gD p bs x y)] 3 (0, 0))) → (askE p bs x y ≠ 0 → Below w4.heap.size w4 w5) →
      w5.cell? ⟨w.heap.size + 1 + 1 + 1, 0, none⟩ = some (.int .i64 (if askE p bs x y = 0 then gD p bs x y else 1099511627776)) ∧ Below w.heap.size w w5 := fun w5 hC hS hnS => by
    have hB5 : Below w.heap.size w w5 := hB4.trans (hC.belowE (by omega) (by simp; omega))
    split
    · rename_i h0
      have := (SL.cells_of (hS h0)).1 0
      exact ⟨by simpa using this, hB5⟩
    · rename_i h0
      have := (SL.cells_of (((hnS h0).block _ (by omega)).trans h4)).1 0
      exact ⟨by simpa [FAR] using this, hB5⟩
  have hgr : grN p bs x y = (if (if askE p bs x y = 0 then gD p bs x y else 1099511627776) = 1099511627776 then 0 else (if askE p bs x y = 0 then gD p bs x y else 1099511627776)) ∧ grB p bs x y = !decide ((if askE p bs x y = 0 then gD p bs x y else 1099511627776) = (1099511627776 : Int)) := by
    unfold grN grB FAR
    by_cases h0 : askE p bs x y = 0 <;> by_cases h1 : gD p bs x y = 1099511627776 <;> simp [h0, h1]
  have Hgr := Lib.hid hgr
  clear hgr
  subst hw4
  generalize hq : (if askE p bs x y = 0 then gD p bs x y else (1099511627776 : Int)) = q at *
  have Hq := Lib.hid hq
  clear hq
  by_cases hqf : q = 1099511627776
  · have hqd : (q == 1099511627776) = true := by simpa using hqf
    go_enter Tryz.func24, Tryz.ntmps24
    go_wp2_with fail
    refine hA.mono ?_
    rintro e w5 ⟨rfl, hC, hS, hnS⟩
    obtain ⟨c5, hB5⟩ := hcell w5 hC hS hnS
    go_wp2
    refine bodyPost_ret (v := .tuple #[.int .i64 0, .bool false, .int .i64 (askE p bs x y)]) (by simp [results, Tryz.results24, go_sem, *]) rfl ⟨?_, hB5⟩
    rw [Hgr.out.1, Hgr.out.2]
    simp [hqf]
  · have hqd : (q == 1099511627776) = false := by simpa using hqf
    go_enter Tryz.func24, Tryz.ntmps24
    go_wp2_with fail
    refine hA.mono ?_
    rintro e w5 ⟨rfl, hC, hS, hnS⟩
    obtain ⟨c5, hB5⟩ := hcell w5 hC hS hnS
    go_wp2
    refine bodyPost_ret (v := .tuple #[.int .i64 q, .bool true, .int .i64 (askE p bs x y)]) (by simp [results, Tryz.results24, go_sem, *]) rfl ⟨?_, hB5⟩
    rw [Hgr.out.1, Hgr.out.2]
    simp [hqf]
end Go.Proofs.YtlkcfohmoeadbaaGreat

/-
  The range of the sums; Least.
-/
namespace Go.Proofs.YtlkcfohmoeadbaaGreat
open Go.RowKit Go.Shelf
set_option maxHeartbeats 1000000
set_option maxRecDepth 100000

theorem settle_range {bs : List Bd} (hin : ∀ b ∈ bs, b.inr) (hl : bs.length ≤ 402) : ∀ (n : Nat) (lo : Int) (s : RL), RL.ok lo { s with nx := 0 } → ∀ j : Int, 0 ≤ j → j < 60 → lo - n * 40200000000 ≤ gi (settle FAR bs n s).1.r j ∧ gi (settle FAR bs n s).1.r j ≤ FAR
  | 0, lo, s, h, j, h0, h1 => by have := h.lows j h0 h1; simp [settle] at this ⊢; omega
  | n + 1, lo, s, h, j, h0, h1 => by
    have hp := RL.ok.pass h hin bs.length (Nat.le_refl _)
    have hr := hp.reset (m := 402) (Nat.le_trans (RL.pass_nx _ _ _ _) hl)
    simp only [settle]
    split
    · have := hr.lows j h0 h1
      simp at this ⊢
      omega
    · have := settle_range hin hl n _ _ hr j h0 h1
      simp at this ⊢
      omega

theorem far0_ok {a : Int} (h0 : 0 ≤ a) (h1 : a < 60) : RL.ok 0 { (⟨far0 a, List.replicate 60 (-1), 0⟩ : RL) with nx := 0 } := by
  refine ⟨far0_len a, by simp, fun i q0 q1 => ?_⟩
  have : gi (far0 a) i = if i = a then 0 else FAR := by
    unfold far0
    rw [gi_set h0 (by rw [fars_len]; omega) q0]
    split
    · rfl
    · unfold gi fars
      rw [List.getD_eq_getElem?_getD, List.getElem?_replicate, if_pos (by omega)]
      rfl
  simp only [this]
  unfold FAR
  split <;> simp

theorem gD_range {p : Int} {bs : List Bd} (hs : Sys p bs) {x y : Int} (h0 : 0 ≤ x) (h1 : x < p) (h2 : 0 ≤ y) (h3 : y < p) : -3000000000000 ≤ gD p bs x y ∧ gD p bs x y ≤ FAR := by
  have := settle_range hs.inr hs.len (p + 1).toNat 0 _ (far0_ok h0 (by have := hs.p2; omega)) y h2 (by have := hs.p2; omega)
  have h4 := hs.p2
  have h5 := hs.p1
  have h6 : (((p + 1).toNat : Nat) : Int) = p + 1 := by omega
  rw [h6] at this
  unfold gD gfrom
  omega

theorem grN_range (p : Int) (bs : List Bd) (x y : Int) : -3000000000000 ≤ grN p bs x y ∧ grN p bs x y ≤ FAR := by
  unfold grN
  split
  · rename_i h
    obtain ⟨q0, q1, q2⟩ := askE_zero h.1
    obtain ⟨⟨h1, h2⟩, h3, h4⟩ := both_in q1
    exact gD_range (Sys.of_chk q0) h1 h2 h3 h4
  · unfold FAR; omega

theorem gLeast_any (p : Int) (a : Option Addr) (n cap : Nat) (bs : List Bd) (x y : Int) (w : World) (hb : BdsAt w a n cap bs) :
    Calls Tryz.prog 25 #[.agg #[.int .i64 p, .slice a n cap], .int .i64 x, .int .i64 y] w fun e w' => e = .returned (.tuple #[.int .i64 (- grN p bs y x), .bool (grB p bs y x), .int .i64 (askE p bs y x)]) ∧ Below w.heap.size w w' := by
  have hbx := hb.below (w' := w.alloc (Obj.cells #[.int .i64 p, .slice a n cap] 24)) ((Below.refl _ _).alloc (Nat.le_refl _) _)
  have hG := gGreatest_any p a n cap bs y x _ hbx
  obtain ⟨r1, r2⟩ := grN_range p bs y x
  unfold FAR at r2
  generalize grN p bs y x = g1 at *
  generalize grB p bs y x = g2 at *
  generalize askE p bs y x = g3 at *
  go_enter Tryz.func25, Tryz.ntmps25
  go_wp2_with (go_at_call 24; refine hG.mono ?_; rintro e w2 ⟨rfl, hb2⟩)
  refine bodyPost_ret (v := .tuple #[.int .i64 (-g1), .bool g2, .int .i64 g3]) (by simp [results, Tryz.results25, go_sem, *]) rfl ⟨rfl, ((Below.refl _ w).alloc (Nat.le_refl _) _).trans (hb2.mono (by simp))⟩
end Go.Proofs.YtlkcfohmoeadbaaGreat

/-
  Gauge, walked: fixed.
-/
namespace Go.Proofs.YtlkcfohmoeadbaaGreat
open Go.RowKit Go.Shelf
set_option maxHeartbeats 1000000
set_option maxRecDepth 100000

def fxB (p : Int) (bs : List Bd) (x y : Int) : Bool := decide (gD p bs x y ≠ 1099511627776 ∧ gD p bs x y = - gD p bs y x)

theorem gfixed_any (p : Int) (a : Option Addr) (n cap : Nat) (bs : List Bd) (x y : Int) (w : World) (hb : BdsAt w a n cap bs) (hs : Sys p bs) (hx0 : 0 ≤ x) (hx1 : x < p) (hy0 : 0 ≤ y) (hy1 : y < p) :
    Calls Tryz.prog 70 #[.agg #[.int .i64 p, .slice a n cap], .int .i64 x, .int .i64 y] w fun e w' => e = .returned (.tuple #[.int .i64 (if fxB p bs x y then gD p bs x y else 0), .bool (fxB p bs x y)]) ∧ Below w.heap.size w w' := by
  have h1 := fun w1 (hb1 : BdsAt w1 a n cap bs) => ggreatest_any p a n cap bs x y w1 hb1 hs hx0 hx1 hy0 hy1
  have h2 := fun w1 (hb1 : BdsAt w1 a n cap bs) => ggreatest_any p a n cap bs y x w1 hb1 hs hy0 hy1 hx0 hx1
  have hbx := hb.below (w' := w.alloc (Obj.cells #[.int .i64 p, .slice a n cap] 24)) ((Below.refl _ _).alloc (Nat.le_refl _) _)
  obtain ⟨r1, r2⟩ := gD_range hs hx0 hx1 hy0 hy1
  obtain ⟨r3, r4⟩ := gD_range hs hy0 hy1 hx0 hx1
  unfold FAR at r2 r4
  unfold fxB
  generalize gD p bs x y = u at *
  generalize gD p bs y x = v at *
  go_enter Tryz.func70, Tryz.ntmps70
  go_wp2_with fail
  refine SL.rule (by kernel_rfl) [] [10, 11, 12, 13, 14, 15, 16, 17, 8, 9] [SL.pu 10 [] (.agg #[.int .i64 p, .slice a n cap]), SL.pu 11 [] (.int .i64 x), SL.pu 12 [] (.int .i64 y), SL.pu 13 [0, 1, 2] (.int .i64 u), SL.pu 14 [] (.agg #[.int .i64 p, .slice a n cap]), SL.pu 15 [] (.int .i64 y), SL.pu 16 [] (.int .i64 x),
    SL.pu 17 [4, 5, 6] (.int .i64 v), SL.pu 8 [3] (.int .i64 u), SL.pu 9 [7] (.int .i64 v)] [8, 9] (by kernel_rfl) (by kernel_rfl) (fun _ => []) (SL.none_held rfl) (by simp) ?_ ?_
  · refine ⟨?_, ?_, ?_, ?_, ?_, ?_, ?_, ?_, ?_, ?_, trivial⟩
    all_goals refine SL.ob fun us w' Fe hG hu hd hv K hK => ?_
    all_goals simp [SL.frame, SL.put', SL.Used, SL.Seen, SL.pu, SL.row, SL.box, SL.rowIn, SL.boxIn, SL.boxAt, SL.boxAtIn, Bd.v, Bd.cs] at hu hv hK ⊢
    all_goals (have hbw := hbx.below hG.below')
    all_goals (have g0 : w'.cell? ⟨w.heap.size, 0, none⟩ = some (.int .i64 p) := by rw [(bcell hG.below').1 _ _ (by simp)]; simp [go_sem])
    all_goals (have g1 : w'.cell? ⟨w.heap.size, 1, none⟩ = some (.slice a n cap) := by rw [(bcell hG.below').1 _ _ (by simp)]; simp [go_sem])
    all_goals try (go_step; refine hK _ _ _ _ (by simp [Act.put, *]; done) (SL.Chg.refl _ _) rfl rfl (by simp))
    · go_step
      refine (h1 _ hbw).mono ?_
      rintro e w2 ⟨rfl, hb2⟩
      exact hK _ _ w2 _ (by simp [Act.put, *]; done) (.of_below hb2) rfl rfl (by simp)
    · go_step
      refine (h2 _ hbw).mono ?_
      rintro e w2 ⟨rfl, hb2⟩
      exact hK _ _ w2 _ (by simp [Act.put, *]; done) (.of_below hb2) rfl rfl (by simp)
  · intro us w' Fs hG hu hbd hd
    simp [SL.frame, SL.put', SL.Used, SL.Seen, SL.pu, SL.row, SL.box, SL.rowIn, SL.boxIn, SL.boxAt, SL.boxAtIn, Bd.v, Bd.cs] at hu ⊢
    obtain ⟨⟨u8, _⟩, u9, _⟩ := hu
    simp only [u8, u9]
    have hB : Below w.heap.size w w' := ((Below.refl _ w).alloc (Nat.le_refl _) _).trans (hG.below'.mono (by simp))
    clear hbd hd
    have hwr : IntKind.i64.wrap (-v) = -v := IntWalk.i64_in _ (by omega)
    by_cases e1 : u = 1099511627776
    · have e1' : (u == 1099511627776) = true := by simpa using e1
      go_wp2
      all_goals (refine bodyPost_ret (v := .tuple #[.int .i64 0, .bool false]) (by simp [results, Tryz.results70, go_sem, *]) rfl ⟨?_, hB⟩; first | rfl | (exfalso; simp_all; done) | (exfalso; simp_all; omega) | (simp_all; done))
    · have e1' : (u == 1099511627776) = false := by simpa using e1
      by_cases e2 : u = -v
      · have e2' : (u != -v) = false := by simpa using e2
        go_wp2
        all_goals (refine bodyPost_ret (v := .tuple #[.int .i64 u, .bool true]) (by simp [results, Tryz.results70, go_sem, *]) rfl ⟨?_, hB⟩; first | rfl | (exfalso; simp_all; done) | (exfalso; simp_all; omega) | (simp_all; done))
      · have e2' : (u != -v) = true := by simpa using e2
        go_wp2
        all_goals (refine bodyPost_ret (v := .tuple #[.int .i64 0, .bool false]) (by simp [results, Tryz.results70, go_sem, *]) rfl ⟨?_, hB⟩; first | rfl | (exfalso; simp_all; done) | (exfalso; simp_all; omega) | (simp_all; done))
end Go.Proofs.YtlkcfohmoeadbaaGreat

/-
  Plain laws of the sums: what does not change keeps all bounds; a solution bounds the sums from below.
-/
namespace Go.Proofs.YtlkcfohmoeadbaaGreat

/-- y keeps all bounds. -/
def keepsB (bs : List Bd) (y : Int → Int) : Prop := ∀ b ∈ bs, y b.tow - y b.frm ≤ b.most

/-- With a list that keeps all bounds, no step takes the sums below it (shifted by c), where the sums began above it. -/
theorem RL.step_above {bs : List Bd} {y : Int → Int} {c : Int} {s : RL} {k : Nat} {b : Bd} (hl : s.r.length = 60) (hb : b.inr) (hy : y b.tow - y b.frm ≤ b.most) (h : ∀ j : Int, 0 ≤ j → j < 60 → gi s.r j < FAR → y j + c ≤ gi s.r j) :
    ∀ j : Int, 0 ≤ j → j < 60 → gi (s.step FAR k b).r j < FAR → y j + c ≤ gi (s.step FAR k b).r j := by
  intro j h0 h1
  unfold RL.step
  split
  · rename_i ho
    simp only [RL.upd]
    rw [gi_set hb.t0 (by rw [hl]; have := hb.t0; have := hb.t1; omega) h0]
    split
    · rename_i e; subst e
      intro _
      have := h b.frm hb.f0 hb.f1 (opens_FAR.1 ho).1
      omega
    · exact h j h0 h1
  · exact h j h0 h1

theorem RL.pass_above {bs : List Bd} {y : Int → Int} {c : Int} {s : RL} (hl : s.r.length = 60) (hin : ∀ b ∈ bs, b.inr) (hy : keepsB bs y) (h : ∀ j : Int, 0 ≤ j → j < 60 → gi s.r j < FAR → y j + c ≤ gi s.r j) :
    ∀ k, k ≤ bs.length → (s.pass FAR bs k).r.length = 60 ∧ ∀ j : Int, 0 ≤ j → j < 60 → gi (s.pass FAR bs k).r j < FAR → y j + c ≤ gi (s.pass FAR bs k).r j
  | 0, _ => ⟨hl, h⟩
  | k + 1, hk => by
    obtain ⟨h1, h2⟩ := RL.pass_above hl hin hy h k (by omega)
    have hm : bs.getD k default ∈ bs := by
      rw [List.getD_eq_getElem?_getD, List.getElem?_eq_getElem (by omega)]
      exact List.getElem_mem _
    simp only [RL.pass]
    refine ⟨?_, RL.step_above (bs := bs) h1 (hin _ hm) (hy _ hm) h2⟩
    unfold RL.step
    split
    · simp [RL.upd, h1]
    · exact h1

theorem settle_above {bs : List Bd} {y : Int → Int} {c : Int} (hin : ∀ b ∈ bs, b.inr) (hy : keepsB bs y) : ∀ (n : Nat) (s : RL), s.r.length = 60 → (∀ j : Int, 0 ≤ j → j < 60 → gi s.r j < FAR → y j + c ≤ gi s.r j) →
    ∀ j : Int, 0 ≤ j → j < 60 → gi (settle FAR bs n s).1.r j < FAR → y j + c ≤ gi (settle FAR bs n s).1.r j
  | 0, s, _, h => h
  | n + 1, s, hl, h => by
    obtain ⟨h1, h2⟩ := RL.pass_above hl hin hy h bs.length (Nat.le_refl _)
    simp only [settle]
    split
    · exact h2
    · exact settle_above hin hy n _ h1 h2

/-- Steps only lower. -/
theorem RL.step_le {s : RL} {k : Nat} {b : Bd} (hl : s.r.length = 60) (hb : b.inr) : (∀ j : Int, 0 ≤ j → j < 60 → gi (s.step FAR k b).r j ≤ gi s.r j) ∧ (opens FAR s.r b = true → gi (s.step FAR k b).r b.tow < gi s.r b.tow) ∧ (s.step FAR k b).r.length = 60 := by
  unfold RL.step
  by_cases ho : opens FAR s.r b = true
  · rw [if_pos ho]
    have h2 := opens_FAR.1 ho
    have ht : b.tow.toNat < s.r.length := by rw [hl]; have := hb.t0; have := hb.t1; omega
    refine ⟨fun j h0 h1 => ?_, fun _ => ?_, by simp [RL.upd, hl]⟩
    · simp only [RL.upd]
      rw [gi_set hb.t0 ht h0]
      split
      · rename_i e; subst e; omega
      · omega
    · simp only [RL.upd]
      rw [gi_set hb.t0 ht hb.t0, if_pos rfl]
      exact h2.2
  · rw [if_neg ho]
    exact ⟨fun _ _ _ => Int.le_refl _, fun h => absurd h ho, hl⟩

theorem RL.pass_le {bs : List Bd} {s : RL} (hl : s.r.length = 60) (hin : ∀ b ∈ bs, b.inr) : ∀ k, k ≤ bs.length → (s.pass FAR bs k).r.length = 60 ∧ (∀ j : Int, 0 ≤ j → j < 60 → gi (s.pass FAR bs k).r j ≤ gi s.r j)
  | 0, _ => ⟨hl, fun _ _ _ => Int.le_refl _⟩
  | k + 1, hk => by
    obtain ⟨h1, h2⟩ := RL.pass_le hl hin k (by omega)
    have hm : bs.getD k default ∈ bs := by
      rw [List.getD_eq_getElem?_getD, List.getElem?_eq_getElem (by omega)]
      exact List.getElem_mem _
    simp only [RL.pass]
    obtain ⟨h3, _, h4⟩ := RL.step_le (k := k) h1 (hin _ hm)
    exact ⟨h4, fun j q0 q1 => Int.le_trans (h3 j q0 q1) (h2 j q0 q1)⟩

theorem RL.pass_mono {bs : List Bd} {s : RL} (hl : s.r.length = 60) (hin : ∀ b ∈ bs, b.inr) (k : Nat) : ∀ d, k + d ≤ bs.length → ∀ j : Int, 0 ≤ j → j < 60 → gi (s.pass FAR bs (k + d)).r j ≤ gi (s.pass FAR bs k).r j
  | 0, _, j, _, _ => Int.le_refl _
  | d + 1, h, j, h0, h1 => by
    have h2 := (RL.pass_le hl hin (k + d) (by omega)).1
    have hm : bs.getD (k + d) default ∈ bs := by
      rw [List.getD_eq_getElem?_getD, List.getElem?_eq_getElem (by omega)]
      exact List.getElem_mem _
    exact Int.le_trans ((RL.step_le (k := k + d) h2 (hin _ hm)).1 j h0 h1) (RL.pass_mono hl hin k d (by omega) j h0 h1)

/-- A pass that changes nothing has met no open bound. -/
theorem RL.still {bs : List Bd} {s : RL} (hl : s.r.length = 60) (hin : ∀ b ∈ bs, b.inr) (h : (s.pass FAR bs bs.length).r = s.r) : ∀ b ∈ bs, opens FAR s.r b = false := by
  intro b hb
  obtain ⟨k, hk, rfl⟩ := List.getElem_of_mem hb
  have hm : bs.getD k default = bs[k] := by rw [List.getD_eq_getElem?_getD, List.getElem?_eq_getElem hk]; rfl
  have h1 := (RL.pass_le hl hin k (by omega)).1
  have hlow : ∀ j : Int, 0 ≤ j → j < 60 → gi (s.pass FAR bs k).r j = gi s.r j := fun j q0 q1 => by
    have a1 := (RL.pass_le hl hin k (by omega)).2 j q0 q1
    have a2 := RL.pass_mono hl hin k (bs.length - k) (by omega) j q0 q1
    rw [show k + (bs.length - k) = bs.length by omega, h] at a2
    omega
  have hi := hin _ hb
  cases ho : opens FAR s.r bs[k] with
  | false => rfl
  | true =>
    exfalso
    have ho2 : opens FAR (s.pass FAR bs k).r bs[k] = true := by
      have := opens_FAR.1 ho
      rw [opens_FAR, hlow _ hi.f0 hi.f1, hlow _ hi.t0 hi.t1]
      exact this
    have h3 := (RL.step_le (k := k) h1 hi).2.1 ho2
    have h4 := RL.pass_mono hl hin (k + 1) (bs.length - (k + 1)) (by omega) bs[k].tow hi.t0 hi.t1
    rw [show k + 1 + (bs.length - (k + 1)) = bs.length by omega, h] at h4
    simp only [RL.pass, hm] at h4
    rw [hlow _ hi.t0 hi.t1] at h3
    omega

theorem settle_still {bs : List Bd} (hin : ∀ b ∈ bs, b.inr) : ∀ (n : Nat) (s : RL), s.r.length = 60 → (settle FAR bs n s).2 = true → ∀ b ∈ bs, opens FAR (settle FAR bs n s).1.r b = false
  | 0, s, _, h => by simp [settle] at h
  | n + 1, s, hl, h => by
    simp only [settle] at h ⊢
    split
    · rename_i he
      simp only []
      rw [he]
      exact RL.still hl hin he
    · rename_i he
      rw [if_neg he] at h
      exact settle_still hin n _ (RL.pass_le hl hin bs.length (Nat.le_refl _)).1 h

theorem settle_le {bs : List Bd} (hin : ∀ b ∈ bs, b.inr) : ∀ (n : Nat) (s : RL), s.r.length = 60 → ∀ j : Int, 0 ≤ j → j < 60 → gi (settle FAR bs n s).1.r j ≤ gi s.r j
  | 0, _, _, _, _, _ => Int.le_refl _
  | n + 1, s, hl, j, h0, h1 => by
    obtain ⟨h2, h3⟩ := RL.pass_le hl hin bs.length (Nat.le_refl _)
    simp only [settle]
    split
    · exact h3 j h0 h1
    · exact Int.le_trans (settle_le hin n _ h2 j h0 h1) (h3 j h0 h1)

/-- Where settle says yes, sums that lie below FAR keep all bounds. -/
theorem keeps_of_settle {bs : List Bd} (hin : ∀ b ∈ bs, b.inr) {n : Nat} {s : RL} (hl : s.r.length = 60) (h : (settle FAR bs n s).2 = true) (hlow : ∀ j : Int, 0 ≤ j → j < 60 → gi s.r j < FAR) : keepsB bs (gi (settle FAR bs n s).1.r) := by
  intro b hb
  have hi := hin b hb
  have h1 := settle_still hin n s hl h b hb
  have h2 := Int.lt_of_le_of_lt (settle_le hin n s hl b.frm hi.f0 hi.f1) (hlow b.frm hi.f0 hi.f1)
  have h3 : ¬ (gi (settle FAR bs n s).1.r b.frm < 1099511627776 ∧ gi (settle FAR bs n s).1.r b.frm + b.most < gi (settle FAR bs n s).1.r b.tow) := fun hh => by
    rw [opens_FAR.2 hh] at h1
    cases h1
  have h4 : gi (settle FAR bs n s).1.r b.frm < 1099511627776 := h2
  clear h2
  omega
end Go.Proofs.YtlkcfohmoeadbaaGreat

/-
  Plain laws joined with the walks' words: from a point to itself it is nothing.
-/
namespace Go.Proofs.YtlkcfohmoeadbaaGreat

theorem gi_far0 {a j : Int} (h0 : 0 ≤ a) (h1 : a < 60) (q0 : 0 ≤ j) (q1 : j < 60) : gi (far0 a) j = if j = a then 0 else FAR := by
  unfold far0
  rw [gi_set h0 (by rw [fars_len]; omega) q0]
  split
  · rfl
  · unfold gi fars
    rw [List.getD_eq_getElem?_getD, List.getElem?_replicate, if_pos (by omega)]
    rfl
theorem gi_zeros (j : Int) : gi (List.replicate 60 0) j = 0 := by
  unfold gi
  rw [List.getD_eq_getElem?_getD, List.getElem?_replicate]
  split <;> rfl

theorem okB_keeps {p : Int} {bs : List Bd} (hs : Sys p bs) (h : okB p bs = true) : keepsB bs (gi (gsol p bs).1.r) :=
  keeps_of_settle hs.inr (by simp) h (fun j _ _ => by show gi (List.replicate 60 0) j < FAR; rw [gi_zeros]; unfold FAR; omega)

theorem gD_self {p : Int} {bs : List Bd} (hs : Sys p bs) (h : okB p bs = true) {a : Int} (h0 : 0 ≤ a) (h1 : a < p) : gD p bs a a = 0 := by
  have hp := hs.p2
  have hu := settle_le hs.inr (p + 1).toNat ⟨far0 a, List.replicate 60 (-1), 0⟩ (far0_len a) a h0 (by omega)
  have hl := settle_above (c := - gi (gsol p bs).1.r a) hs.inr (okB_keeps hs h) (p + 1).toNat ⟨far0 a, List.replicate 60 (-1), 0⟩ (far0_len a) (fun j q0 q1 hj => by
    simp only at hj ⊢
    rw [gi_far0 h0 (by omega) q0 q1] at hj ⊢
    split at hj
    · rename_i e; subst e; simp; omega
    · exact absurd hj (Int.lt_irrefl _)) a h0 (by omega)
  simp only at hu
  rw [gi_far0 h0 (by omega) h0 (by omega), if_pos rfl] at hu
  have := hl (by unfold FAR at *; omega)
  unfold gD gfrom
  omega
end Go.Proofs.YtlkcfohmoeadbaaGreat

/-
  Gauge, walked: Rigid (data first).
-/
namespace Go.Proofs.YtlkcfohmoeadbaaGreat
open Go.RowKit Go.Shelf
set_option maxHeartbeats 1000000
set_option maxRecDepth 100000

theorem fxB_self {p : Int} {bs : List Bd} (hs : Sys p bs) (h : okB p bs = true) {a : Int} (h0 : 0 ≤ a) (h1 : a < p) : fxB p bs a a = true := by
  unfold fxB
  rw [gD_self hs h h0 h1]
  simp

/-- The first point that is fixed against i, from q on. -/
def rigFrom (p : Int) (bs : List Bd) (i : Nat) : Nat → Nat → Nat
  | 0, q => q
  | n + 1, q => if fxB p bs q i then q else rigFrom p bs i n (q + 1)
def rigQ (p : Int) (bs : List Bd) (i : Nat) : Nat := rigFrom p bs i i 0
def rigL (p : Int) (bs : List Bd) (k : Nat) : List Int := (List.range k).map fun i => (rigQ p bs i : Int)

theorem rigFrom_hit {p : Int} {bs : List Bd} {i n q : Nat} (h : fxB p bs q i = true) : rigFrom p bs i n q = q := by
  cases n with
  | zero => rfl
  | succ n => simp [rigFrom, h]
theorem rigFrom_miss {p : Int} {bs : List Bd} {i n q : Nat} (h : fxB p bs q i = false) : rigFrom p bs i (n + 1) q = rigFrom p bs i n (q + 1) := by simp [rigFrom, h]
theorem rigL_succ (p : Int) (bs : List Bd) (k : Nat) : rigL p bs (k + 1) = rigL p bs k ++ [(rigQ p bs k : Int)] := by simp [rigL, List.range_succ]
theorem rigL_len (p : Int) (bs : List Bd) (k : Nat) : (rigL p bs k).length = k := by simp [rigL]
end Go.Proofs.YtlkcfohmoeadbaaGreat
