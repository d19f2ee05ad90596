/-
  Lemmas and walks for the laws on bounds and their sums; the parts' own heads say what each proves, for every input.
-/
import Derived.Test.YtlkcfohmoeadbaaPk29
import Derived.Test.YtlkcfohmoeadbaaPk23
import Derived.Test.YtlkcfohmoeadbaaPk05
import Derived.Test.YtlkcfohmoeadbaaPk11
import Derived.Test.YtlkcfohmoeadbaaPk22
set_option linter.unusedSimpArgs false
set_option linter.unusedVariables false
set_option linter.unnecessarySimpa false
/-
  The reference of layer 1, walked: Tie.
-/
namespace Go.Proofs.Ytlkcfohmoeadbaa
open Go.RowKit Go.Shelf
set_option maxHeartbeats 4000000
set_option maxRecDepth 100000

def tieOk (p x y n : Int) : Bool := both p x y && !(x == y) && withinB n (-1000000) 1000000
def tieE (p : Int) (bs : List Bd) (x y n : Int) : Int := if chk p bs = 0 then (if tieOk p x y n then chk p (bs ++ [⟨x, y, n, 0⟩, ⟨y, x, -n, 0⟩]) else 1) else chk p bs
def tieL (p : Int) (bs : List Bd) (x y n : Int) : List Bd := if tieE p bs x y n = 0 then bs ++ [⟨x, y, n, 0⟩, ⟨y, x, -n, 0⟩] else []



theorem rTie_any (p : Int) (a : Option Addr) (n cap : Nat) (bs : List Bd) (x y m : Int) (w : World) (hb : BdsAt w a n cap bs) :
    Calls Try.prog 51 #[.agg #[.int .i64 p, .slice a n cap], .int .i64 x, .int .i64 y, .int .i64 m] w fun e w' => ∃ v, e = .returned (.tuple #[.agg #[.int .i64 (if tieE p bs x y m = 0 then p else 0), v], .int .i64 (tieE p bs x y m)]) ∧ Below w.heap.size w w' ∧
      w'.ownsRow w.heap.size 39 4 v (tieL p bs x y m).length (bcs (tieL p bs x y m)) := by
  have hB2 : Below w.heap.size w ((w.alloc (Obj.cells #[.int .i64 p, .slice a n cap] 24)).alloc (Obj.cells #[.int .i64 0, .slice none 0 0] 24)) := by ((repeat (first | assumption | exact Below.refl _ _ | refine Below.alloc ?_ ?_ _ | refine Below.setCell ?_ ?_ _ | refine Below.drew ?_ | refine belowN ?_ | refine Below.up ?_ (by assumption) ?_)) <;> (first | assumption | omega | (simp; done) | (simp; omega)))
  have hbx := hb.below hB2
  have hC := rcheck_any p a n cap bs _ hbx
  by_cases h0 : chk p bs = 0
  · have hs := chk_400 h0
    have hE : tieE p bs x y m = if tieOk p x y m then chk p (bs ++ [⟨x, y, m, 0⟩, ⟨y, x, -m, 0⟩]) else 1 := by unfold tieE; rw [if_pos h0]
    unfold tieL
    rw [hE]
    clear hE
    simp only [h0] at hC
    have hP1 := fun w1 => rpoint_any p a n cap x w1
    have hP2 := fun w1 => rpoint_any p a n cap y w1
    have hN := fun w1 => rwithin_any m (-1000000) 1000000 w1
    have hok : tieOk p x y m = (withinB x 0 (p - 1) && withinB y 0 (p - 1) && !(x == y) && withinB m (-1000000) 1000000) := by unfold tieOk; rw [both_within]
    have hT := fun (h : withinB m (-1000000) 1000000 = true) w1 (hb1 : BdsAt w1 a n cap bs) => rtied_any p a n cap bs x y m w1 hb1 hs (by have := withinB_iff.1 h; omega) (by have := withinB_iff.1 h; omega)
    rw [hok]
    clear hok h0
    generalize withinB x 0 (p - 1) = b1 at *
    generalize withinB y 0 (p - 1) = b2 at *
    generalize withinB m (-1000000) 1000000 = b3 at *
    cases b1 with
    | false =>
      simp only [Bool.false_and, Bool.false_eq_true, if_false]
      clear hT
      go_enter Try.func51, Try.ntmps51
      go_wp2_with (first
        | (go_at_call 65; have hg := hb4; clear hg; refine (hC3 _ _ _ hbU).mono ?_; rintro e w5 ⟨rfl, hb5⟩; obtain ⟨hc5, hf5⟩ := bcell hb5; have hz5 := hb5.size; simp only [World.size_alloc] at hz5; have s5 : w.heap.size + 1 < w5.heap.size := (by omega); have s6 : w4.heap.size < w5.heap.size := (by omega))
        | (go_at_call 65; refine (hC).mono ?_; rintro e w1 ⟨rfl, hb1⟩; obtain ⟨hc1, hf1⟩ := bcell hb1; have hz1a := lt_size hb1 (b := w.heap.size) (by first | assumption | omega | (simp; done) | (simp; omega)); have hz1b := lt_size hb1 (b := w.heap.size+1) (by first | assumption | omega | (simp; done) | (simp; omega)))
        | (go_at_call 102; have hg := hb2; clear hg; refine (hP2 _).mono ?_; rintro e w3 ⟨rfl, hb3⟩; obtain ⟨hc3, hf3⟩ := bcell hb3; have s3 := lt_size hb3 (b := w.heap.size) (by first | assumption | omega | (simp; done) | (simp; omega)); have s3b := lt_size hb3 (b := w.heap.size + 1) (by first | assumption | omega | (simp; done) | (simp; omega)))
        | (go_at_call 102; refine (hP1 _).mono ?_; rintro e w2 ⟨rfl, hb2⟩; obtain ⟨hc2, hf2⟩ := bcell hb2; have hz2a := lt_size hb2 (b := w.heap.size) (by first | assumption | omega | (simp; done) | (simp; omega)); have hz2b := lt_size hb2 (b := w.heap.size+1) (by first | assumption | omega | (simp; done) | (simp; omega)))
        | (go_at_call 75; refine (hN _).mono ?_; rintro e w9 ⟨rfl, rfl⟩)
        | (go_at_call 77; refine (hT _ (((hbx.below hb1).below hb2).below hb3)).mono ?_; rintro e w4 ⟨v4, rfl, ho4, hb4⟩; obtain ⟨sa, sc, rfl, _⟩ := owns_slice ho4; obtain ⟨hc4, hf4⟩ := bcell hb4; have hz4 := hb4.size; have s4 : w.heap.size < w4.heap.size := (by omega); have s4b : w.heap.size + 1 < w4.heap.size := (by omega)
           have hbU := (BdsAt.of_owns ho4 hUl).below ((Below.refl _ _).alloc (Nat.le_refl _) (Obj.cells #[.int .i64 p, .slice sa U.length sc] 24))))
      have z1 := hb1.size
      have z2 := hb2.size
      have z3 := hb3.size
      simp only [World.size_alloc] at z1
      refine bodyPost_ret (v := .tuple #[.agg #[.int .i64 0, .slice none 0 0], .int .i64 1]) (by simp [results, Try.results51, go_sem, *]) rfl ⟨_, rfl, ?_, World.ownsRow_nil _ _ _ _⟩
      exact ((((hB2.trans (hb1.mono (by simp; omega))).trans (hb2.mono (by omega))).trans (hb3.mono (by omega))).setCell (by simp) _).setCell (by simp) _
    | true =>
      cases b2 with
      | false =>
        simp only [Bool.false_and, Bool.and_false, Bool.false_eq_true, if_false]
        clear hT
        go_enter Try.func51, Try.ntmps51
        go_wp2_with (first
          | (go_at_call 65; have hg := hb4; clear hg; refine (hC3 _ _ _ hbU).mono ?_; rintro e w5 ⟨rfl, hb5⟩; obtain ⟨hc5, hf5⟩ := bcell hb5; have hz5 := hb5.size; simp only [World.size_alloc] at hz5; have s5 : w.heap.size + 1 < w5.heap.size := (by omega); have s6 : w4.heap.size < w5.heap.size := (by omega))
          | (go_at_call 65; refine (hC).mono ?_; rintro e w1 ⟨rfl, hb1⟩; obtain ⟨hc1, hf1⟩ := bcell hb1; have hz1a := lt_size hb1 (b := w.heap.size) (by first | assumption | omega | (simp; done) | (simp; omega)); have hz1b := lt_size hb1 (b := w.heap.size+1) (by first | assumption | omega | (simp; done) | (simp; omega)))
          | (go_at_call 102; have hg := hb2; clear hg; refine (hP2 _).mono ?_; rintro e w3 ⟨rfl, hb3⟩; obtain ⟨hc3, hf3⟩ := bcell hb3; have s3 := lt_size hb3 (b := w.heap.size) (by first | assumption | omega | (simp; done) | (simp; omega)); have s3b := lt_size hb3 (b := w.heap.size + 1) (by first | assumption | omega | (simp; done) | (simp; omega)))
          | (go_at_call 102; refine (hP1 _).mono ?_; rintro e w2 ⟨rfl, hb2⟩; obtain ⟨hc2, hf2⟩ := bcell hb2; have hz2a := lt_size hb2 (b := w.heap.size) (by first | assumption | omega | (simp; done) | (simp; omega)); have hz2b := lt_size hb2 (b := w.heap.size+1) (by first | assumption | omega | (simp; done) | (simp; omega)))
          | (go_at_call 75; refine (hN _).mono ?_; rintro e w9 ⟨rfl, rfl⟩)
          | (go_at_call 77; refine (hT _ (((hbx.below hb1).below hb2).below hb3)).mono ?_; rintro e w4 ⟨v4, rfl, ho4, hb4⟩; obtain ⟨sa, sc, rfl, _⟩ := owns_slice ho4; obtain ⟨hc4, hf4⟩ := bcell hb4; have hz4 := hb4.size; have s4 : w.heap.size < w4.heap.size := (by omega); have s4b : w.heap.size + 1 < w4.heap.size := (by omega)
             have hbU := (BdsAt.of_owns ho4 hUl).below ((Below.refl _ _).alloc (Nat.le_refl _) (Obj.cells #[.int .i64 p, .slice sa U.length sc] 24))))
        have z1 := hb1.size
        have z2 := hb2.size
        have z3 := hb3.size
        simp only [World.size_alloc] at z1
        refine bodyPost_ret (v := .tuple #[.agg #[.int .i64 0, .slice none 0 0], .int .i64 1]) (by simp [results, Try.results51, go_sem, *]) rfl ⟨_, rfl, ?_, World.ownsRow_nil _ _ _ _⟩
        exact ((((hB2.trans (hb1.mono (by simp; omega))).trans (hb2.mono (by omega))).trans (hb3.mono (by omega))).setCell (by simp) _).setCell (by simp) _
      | true =>
        by_cases exy : x = y
        · subst exy
          have e1 : (x == x) = true := by simp
          simp only [e1, Bool.not_true, Bool.false_and, Bool.and_false, Bool.false_eq_true, if_false]
          clear hT
          go_enter Try.func51, Try.ntmps51
          go_wp2_with (first
            | (go_at_call 65; have hg := hb4; clear hg; refine (hC3 _ _ _ hbU).mono ?_; rintro e w5 ⟨rfl, hb5⟩; obtain ⟨hc5, hf5⟩ := bcell hb5; have hz5 := hb5.size; simp only [World.size_alloc] at hz5; have s5 : w.heap.size + 1 < w5.heap.size := (by omega); have s6 : w4.heap.size < w5.heap.size := (by omega))
            | (go_at_call 65; refine (hC).mono ?_; rintro e w1 ⟨rfl, hb1⟩; obtain ⟨hc1, hf1⟩ := bcell hb1; have hz1a := lt_size hb1 (b := w.heap.size) (by first | assumption | omega | (simp; done) | (simp; omega)); have hz1b := lt_size hb1 (b := w.heap.size+1) (by first | assumption | omega | (simp; done) | (simp; omega)))
            | (go_at_call 102; have hg := hb2; clear hg; refine (hP2 _).mono ?_; rintro e w3 ⟨rfl, hb3⟩; obtain ⟨hc3, hf3⟩ := bcell hb3; have s3 := lt_size hb3 (b := w.heap.size) (by first | assumption | omega | (simp; done) | (simp; omega)); have s3b := lt_size hb3 (b := w.heap.size + 1) (by first | assumption | omega | (simp; done) | (simp; omega)))
            | (go_at_call 102; refine (hP1 _).mono ?_; rintro e w2 ⟨rfl, hb2⟩; obtain ⟨hc2, hf2⟩ := bcell hb2; have hz2a := lt_size hb2 (b := w.heap.size) (by first | assumption | omega | (simp; done) | (simp; omega)); have hz2b := lt_size hb2 (b := w.heap.size+1) (by first | assumption | omega | (simp; done) | (simp; omega)))
            | (go_at_call 75; refine (hN _).mono ?_; rintro e w9 ⟨rfl, rfl⟩)
            | (go_at_call 77; refine (hT _ (((hbx.below hb1).below hb2).below hb3)).mono ?_; rintro e w4 ⟨v4, rfl, ho4, hb4⟩; obtain ⟨sa, sc, rfl, _⟩ := owns_slice ho4; obtain ⟨hc4, hf4⟩ := bcell hb4; have hz4 := hb4.size; have s4 : w.heap.size < w4.heap.size := (by omega); have s4b : w.heap.size + 1 < w4.heap.size := (by omega)
               have hbU := (BdsAt.of_owns ho4 hUl).below ((Below.refl _ _).alloc (Nat.le_refl _) (Obj.cells #[.int .i64 p, .slice sa U.length sc] 24))))
          have z1 := hb1.size
          have z2 := hb2.size
          have z3 := hb3.size
          simp only [World.size_alloc] at z1
          refine bodyPost_ret (v := .tuple #[.agg #[.int .i64 0, .slice none 0 0], .int .i64 1]) (by simp [results, Try.results51, go_sem, *]) rfl ⟨_, rfl, ?_, World.ownsRow_nil _ _ _ _⟩
          exact ((((hB2.trans (hb1.mono (by simp; omega))).trans (hb2.mono (by omega))).trans (hb3.mono (by omega))).setCell (by simp) _).setCell (by simp) _
        · have e1 : (x == y) = false := by simpa using exy
          cases b3 with
          | false =>
            simp only [Bool.and_false, Bool.false_eq_true, if_false]
            clear hT
            go_enter Try.func51, Try.ntmps51
            go_wp2_with (first
              | (go_at_call 65; have hg := hb4; clear hg; refine (hC3 _ _ _ hbU).mono ?_; rintro e w5 ⟨rfl, hb5⟩; obtain ⟨hc5, hf5⟩ := bcell hb5; have hz5 := hb5.size; simp only [World.size_alloc] at hz5; have s5 : w.heap.size + 1 < w5.heap.size := (by omega); have s6 : w4.heap.size < w5.heap.size := (by omega))
              | (go_at_call 65; refine (hC).mono ?_; rintro e w1 ⟨rfl, hb1⟩; obtain ⟨hc1, hf1⟩ := bcell hb1; have hz1a := lt_size hb1 (b := w.heap.size) (by first | assumption | omega | (simp; done) | (simp; omega)); have hz1b := lt_size hb1 (b := w.heap.size+1) (by first | assumption | omega | (simp; done) | (simp; omega)))
              | (go_at_call 102; have hg := hb2; clear hg; refine (hP2 _).mono ?_; rintro e w3 ⟨rfl, hb3⟩; obtain ⟨hc3, hf3⟩ := bcell hb3; have s3 := lt_size hb3 (b := w.heap.size) (by first | assumption | omega | (simp; done) | (simp; omega)); have s3b := lt_size hb3 (b := w.heap.size + 1) (by first | assumption | omega | (simp; done) | (simp; omega)))
              | (go_at_call 102; refine (hP1 _).mono ?_; rintro e w2 ⟨rfl, hb2⟩; obtain ⟨hc2, hf2⟩ := bcell hb2; have hz2a := lt_size hb2 (b := w.heap.size) (by first | assumption | omega | (simp; done) | (simp; omega)); have hz2b := lt_size hb2 (b := w.heap.size+1) (by first | assumption | omega | (simp; done) | (simp; omega)))
              | (go_at_call 75; refine (hN _).mono ?_; rintro e w9 ⟨rfl, rfl⟩)
              | (go_at_call 77; refine (hT _ (((hbx.below hb1).below hb2).below hb3)).mono ?_; rintro e w4 ⟨v4, rfl, ho4, hb4⟩; obtain ⟨sa, sc, rfl, _⟩ := owns_slice ho4; obtain ⟨hc4, hf4⟩ := bcell hb4; have hz4 := hb4.size; have s4 : w.heap.size < w4.heap.size := (by omega); have s4b : w.heap.size + 1 < w4.heap.size := (by omega)
                 have hbU := (BdsAt.of_owns ho4 hUl).below ((Below.refl _ _).alloc (Nat.le_refl _) (Obj.cells #[.int .i64 p, .slice sa U.length sc] 24))))
            have z1 := hb1.size
            have z2 := hb2.size
            have z3 := hb3.size
            simp only [World.size_alloc] at z1
            refine bodyPost_ret (v := .tuple #[.agg #[.int .i64 0, .slice none 0 0], .int .i64 1]) (by simp [results, Try.results51, go_sem, *]) rfl ⟨_, rfl, ?_, World.ownsRow_nil _ _ _ _⟩
            exact ((((hB2.trans (hb1.mono (by simp; omega))).trans (hb2.mono (by omega))).trans (hb3.mono (by omega))).setCell (by simp) _).setCell (by simp) _
          | true =>
            have hT' := hT rfl
            clear hT
            have hT := hT'
            clear hT'
            simp only [e1, Bool.not_false, Bool.and_true, if_true]
            have hU : tiedL bs x y m = bs ++ [⟨x, y, m, 0⟩, ⟨y, x, -m, 0⟩] := rfl
            rw [hU] at hT
            have hUl : (bs ++ [⟨x, y, m, 0⟩, ⟨y, x, -m, 0⟩] : List Bd).length ≤ 140737488351232 := by simp; omega
            clear hU
            generalize bs ++ [⟨x, y, m, 0⟩, ⟨y, x, -m, 0⟩] = U at *
            have hC3 := fun w1 a c (h : BdsAt w1 a U.length c U) => rcheck_any p a _ c U w1 h
            generalize chk p U = ce at *
            by_cases hce : ce = 0
            · subst hce
              go_enter Try.func51, Try.ntmps51
              go_wp2_with (first
                | (go_at_call 65; have hg := hb4; clear hg; refine (hC3 _ _ _ hbU).mono ?_; rintro e w5 ⟨rfl, hb5⟩; obtain ⟨hc5, hf5⟩ := bcell hb5; have hz5 := hb5.size; simp only [World.size_alloc] at hz5; have s5 : w.heap.size + 1 < w5.heap.size := (by omega); have s6 : w4.heap.size < w5.heap.size := (by omega))
                | (go_at_call 65; refine (hC).mono ?_; rintro e w1 ⟨rfl, hb1⟩; obtain ⟨hc1, hf1⟩ := bcell hb1; have hz1a := lt_size hb1 (b := w.heap.size) (by first | assumption | omega | (simp; done) | (simp; omega)); have hz1b := lt_size hb1 (b := w.heap.size+1) (by first | assumption | omega | (simp; done) | (simp; omega)))
                | (go_at_call 102; have hg := hb2; clear hg; refine (hP2 _).mono ?_; rintro e w3 ⟨rfl, hb3⟩; obtain ⟨hc3, hf3⟩ := bcell hb3; have s3 := lt_size hb3 (b := w.heap.size) (by first | assumption | omega | (simp; done) | (simp; omega)); have s3b := lt_size hb3 (b := w.heap.size + 1) (by first | assumption | omega | (simp; done) | (simp; omega)))
                | (go_at_call 102; refine (hP1 _).mono ?_; rintro e w2 ⟨rfl, hb2⟩; obtain ⟨hc2, hf2⟩ := bcell hb2; have hz2a := lt_size hb2 (b := w.heap.size) (by first | assumption | omega | (simp; done) | (simp; omega)); have hz2b := lt_size hb2 (b := w.heap.size+1) (by first | assumption | omega | (simp; done) | (simp; omega)))
                | (go_at_call 75; refine (hN _).mono ?_; rintro e w9 ⟨rfl, rfl⟩)
                | (go_at_call 77; refine (hT _ (((hbx.below hb1).below hb2).below hb3)).mono ?_; rintro e w4 ⟨v4, rfl, ho4, hb4⟩; obtain ⟨sa, sc, rfl, _⟩ := owns_slice ho4; obtain ⟨hc4, hf4⟩ := bcell hb4; have hz4 := hb4.size; have s4 : w.heap.size < w4.heap.size := (by omega); have s4b : w.heap.size + 1 < w4.heap.size := (by omega)
                   have hbU := (BdsAt.of_owns ho4 hUl).below ((Below.refl _ _).alloc (Nat.le_refl _) (Obj.cells #[.int .i64 p, .slice sa U.length sc] 24))))
              have z1 := hb1.size
              have z2 := hb2.size
              have z3 := hb3.size
              simp only [World.size_alloc] at z1
              have k4 : w4.heap[w.heap.size + 1]? = some (.cells #[.int .i64 0, .slice none 0 0] 24 (0, 0)) := (hb4.block _ (by omega)).trans ((hb3.block _ (by omega)).trans ((hb2.block _ (by omega)).trans ((hb1.block _ (by simp)).trans (heap_alloc2_new _ _ _))))
              have hn4 := own_ne ho4 k4 (by decide)
              have hBA : Below w4.heap.size w4 w5 := ((Below.refl _ _).alloc (Nat.le_refl _) _).trans (hb5.mono (by simp))
              have hBW : Below w.heap.size w w5 := ((((hB2.trans (hb1.mono (by simp; omega))).trans (hb2.mono (by omega))).trans (hb3.mono (by omega))).trans (hb4.mono (by omega))).trans (hBA.mono (by omega))
              refine bodyPost_ret (v := .tuple #[.agg #[.int .i64 p, .slice sa U.length sc], .int .i64 0]) (by simp [results, Try.results51, go_sem, *]) rfl ⟨_, rfl, (hBW.setCell (by simp) _).setCell (by simp) _, ?_⟩
              exact SL.row_base (SL.row_set (SL.row_set (ho4.up hBA (Nat.le_refl _)) hn4 _) hn4 _) (by omega)
            · have hce' : (ce == 0) = false := by simpa using hce
              go_enter Try.func51, Try.ntmps51
              go_wp2_with (first
                | (go_at_call 65; have hg := hb4; clear hg; refine (hC3 _ _ _ hbU).mono ?_; rintro e w5 ⟨rfl, hb5⟩; obtain ⟨hc5, hf5⟩ := bcell hb5; have hz5 := hb5.size; simp only [World.size_alloc] at hz5; have s5 : w.heap.size + 1 < w5.heap.size := (by omega); have s6 : w4.heap.size < w5.heap.size := (by omega))
                | (go_at_call 65; refine (hC).mono ?_; rintro e w1 ⟨rfl, hb1⟩; obtain ⟨hc1, hf1⟩ := bcell hb1; have hz1a := lt_size hb1 (b := w.heap.size) (by first | assumption | omega | (simp; done) | (simp; omega)); have hz1b := lt_size hb1 (b := w.heap.size+1) (by first | assumption | omega | (simp; done) | (simp; omega)))
                | (go_at_call 102; have hg := hb2; clear hg; refine (hP2 _).mono ?_; rintro e w3 ⟨rfl, hb3⟩; obtain ⟨hc3, hf3⟩ := bcell hb3; have s3 := lt_size hb3 (b := w.heap.size) (by first | assumption | omega | (simp; done) | (simp; omega)); have s3b := lt_size hb3 (b := w.heap.size + 1) (by first | assumption | omega | (simp; done) | (simp; omega)))
                | (go_at_call 102; refine (hP1 _).mono ?_; rintro e w2 ⟨rfl, hb2⟩; obtain ⟨hc2, hf2⟩ := bcell hb2; have hz2a := lt_size hb2 (b := w.heap.size) (by first | assumption | omega | (simp; done) | (simp; omega)); have hz2b := lt_size hb2 (b := w.heap.size+1) (by first | assumption | omega | (simp; done) | (simp; omega)))
                | (go_at_call 75; refine (hN _).mono ?_; rintro e w9 ⟨rfl, rfl⟩)
                | (go_at_call 77; refine (hT _ (((hbx.below hb1).below hb2).below hb3)).mono ?_; rintro e w4 ⟨v4, rfl, ho4, hb4⟩; obtain ⟨sa, sc, rfl, _⟩ := owns_slice ho4; obtain ⟨hc4, hf4⟩ := bcell hb4; have hz4 := hb4.size; have s4 : w.heap.size < w4.heap.size := (by omega); have s4b : w.heap.size + 1 < w4.heap.size := (by omega)
                   have hbU := (BdsAt.of_owns ho4 hUl).below ((Below.refl _ _).alloc (Nat.le_refl _) (Obj.cells #[.int .i64 p, .slice sa U.length sc] 24))))
              have z1 := hb1.size
              have z2 := hb2.size
              have z3 := hb3.size
              simp only [World.size_alloc] at z1
              have k4 : w4.heap[w.heap.size + 1]? = some (.cells #[.int .i64 0, .slice none 0 0] 24 (0, 0)) := (hb4.block _ (by omega)).trans ((hb3.block _ (by omega)).trans ((hb2.block _ (by omega)).trans ((hb1.block _ (by simp)).trans (heap_alloc2_new _ _ _))))
              have hn4 := own_ne ho4 k4 (by decide)
              have hBA : Below w4.heap.size w4 w5 := ((Below.refl _ _).alloc (Nat.le_refl _) _).trans (hb5.mono (by simp))
              have hBW : Below w.heap.size w w5 := ((((hB2.trans (hb1.mono (by simp; omega))).trans (hb2.mono (by omega))).trans (hb3.mono (by omega))).trans (hb4.mono (by omega))).trans (hBA.mono (by omega))
              refine bodyPost_ret (v := .tuple #[.agg #[.int .i64 0, .slice none 0 0], .int .i64 ce]) (by simp [results, Try.results51, go_sem, *]) rfl ⟨_, rfl, (hBW.setCell (by simp) _).setCell (by simp) _, World.ownsRow_nil _ _ _ _⟩
  · have h0' : (chk p bs == 0) = false := by simpa using h0
    have hE : tieE p bs x y m = chk p bs := by unfold tieE; rw [if_neg h0]
    have hL : tieL p bs x y m = [] := by unfold tieL; rw [hE, if_neg h0]
    rw [hE, hL, if_neg h0]
    clear hE hL
    generalize chk p bs = ce at *
    go_enter Try.func51, Try.ntmps51
    go_wp2_with (go_at_call 65; refine (hC).mono ?_; rintro e w1 ⟨rfl, hb1⟩; obtain ⟨hc1, hf1⟩ := bcell hb1; have hz1a := lt_size hb1 (b := w.heap.size) (by first | assumption | omega | (simp; done) | (simp; omega)); have hz1b := lt_size hb1 (b := w.heap.size+1) (by first | assumption | omega | (simp; done) | (simp; omega)))
    have z1 := hb1.size
    simp only [World.size_alloc] at z1
    refine bodyPost_ret (v := .tuple #[.agg #[.int .i64 0, .slice none 0 0], .int .i64 ce]) (by simp [results, Try.results51, go_sem, *]) rfl ⟨_, rfl, ?_, World.ownsRow_nil _ _ _ _⟩
    exact ((hB2.trans (hb1.mono (by simp; omega))).setCell (by simp) _).setCell (by simp) _
end Go.Proofs.Ytlkcfohmoeadbaa

/-
  Gauge, walked: Beside.
-/
namespace Go.Proofs.Ytlkcfohmoeadbaa
open Go.RowKit Go.Shelf
set_option maxHeartbeats 4000000
set_option maxRecDepth 100000


theorem gBeside_any (p : Int) (a : Option Addr) (n cap : Nat) (bs : List Bd) (q : Int) (a2 : Option Addr) (n2 cap2 : Nat) (T : List Bd) (w : World) (hb : BdsAt w a n cap bs) (hb2 : BdsAt w a2 n2 cap2 T) :
    Calls Try.prog 44 #[.agg #[.int .i64 p, .slice a n cap], .agg #[.int .i64 q, .slice a2 n2 cap2]] w fun e w' => ∃ v, e = .returned (.tuple #[.agg #[.int .i64 (if bsdE p bs q T = 0 then p + q else 0), v], .int .i64 (bsdE p bs q T)]) ∧ Below w.heap.size w w' ∧
      w'.ownsRow w.heap.size 39 4 v (bsdL p bs q T).length (bcs (bsdL p bs q T)) := by
  obtain rfl := hb.len
  obtain rfl := hb2.len
  have hl1 := hb.small
  have hl2 := hb2.small
  obtain ⟨R, hR⟩ : ∃ R, (if bsdE p bs q T = 0 then p + q else 0) = R := ⟨_, rfl⟩
  have HE1 := Lib.hid (show chk p bs ≠ 0 → R = 0 ∧ bsdE p bs q T = chk p bs ∧ bsdL p bs q T = [] from fun h0 => by
    have hE : bsdE p bs q T = chk p bs := by unfold bsdE; rw [if_neg h0]
    exact ⟨by rw [← hR, hE, if_neg h0], hE, by unfold bsdL; rw [hE, if_neg h0]⟩)
  have HE2 := Lib.hid (show chk p bs = 0 → chk q T ≠ 0 → R = 0 ∧ bsdE p bs q T = chk q T ∧ bsdL p bs q T = [] from fun h0 h2 => by
    have hE : bsdE p bs q T = chk q T := by unfold bsdE; rw [if_pos h0, if_neg h2]
    exact ⟨by rw [← hR, hE, if_neg h2], hE, by unfold bsdL; rw [hE, if_neg h2]⟩)
  have HE3 := Lib.hid (show chk p bs = 0 → chk q T = 0 → bsdE p bs q T = chk (p + q) (bs ++ shf p T) ∧ (chk (p + q) (bs ++ shf p T) = 0 → R = p + q ∧ bsdL p bs q T = bs ++ shf p T) ∧ (chk (p + q) (bs ++ shf p T) ≠ 0 → R = 0 ∧ bsdL p bs q T = []) from fun h0 h2 => by
    have hE : bsdE p bs q T = chk (p + q) (bs ++ shf p T) := by unfold bsdE; rw [if_pos h0, if_pos h2]
    exact ⟨hE, fun h => ⟨by rw [← hR, hE, if_pos h], by unfold bsdL; rw [hE, if_pos h]⟩, fun h => ⟨by rw [← hR, hE, if_neg h], by unfold bsdL; rw [hE, if_neg h]⟩⟩)
  rw [hR]
  clear hR
  generalize bsdE p bs q T = E at *
  generalize bsdL p bs q T = L at *
  go_enter Try.func44, Try.ntmps44
  go_wp2_with fail
  have hB4 : Below w.heap.size w ((((w.alloc (Obj.cells #[.int .i64 p, .slice a bs.length cap] 24)).alloc (Obj.cells #[.int .i64 q, .slice a2 T.length cap2] 24)).alloc (Obj.cells #[.int .i64 0, .slice none 0 0] 24)).alloc (Obj.cells #[.int .i64 p, .slice a bs.length cap, .int .i64 q, .slice a2 T.length cap2] 24)) := by ((repeat (first | assumption | exact Below.refl _ _ | refine Below.alloc ?_ ?_ _ | refine Below.setCell ?_ ?_ _ | refine Below.drew ?_ | refine belowN ?_ | refine Below.up ?_ (by assumption) ?_)) <;> (first | assumption | omega | (simp; done) | (simp; omega)))
  obtain ⟨w3, hw3⟩ : ∃ w3, w3 = ((((w.alloc (Obj.cells #[.int .i64 p, .slice a bs.length cap] 24)).alloc (Obj.cells #[.int .i64 q, .slice a2 T.length cap2] 24)).alloc (Obj.cells #[.int .i64 0, .slice none 0 0] 24)).alloc (Obj.cells #[.int .i64 p, .slice a bs.length cap, .int .i64 q, .slice a2 T.length cap2] 24)) := ⟨_, rfl⟩
  rw [← hw3] at hB4 ⊢
  have z3 : w3.heap.size = w.heap.size + 4 := by rw [hw3]; simp
  have q0 : w3.cell? ⟨w.heap.size, 0, none⟩ = some (.int .i64 p) := by simp [go_sem, hw3]
  have q1 : w3.cell? ⟨w.heap.size, 1, none⟩ = some (.slice a bs.length cap) := by simp [go_sem, hw3]
  have q2 : w3.cell? ⟨w.heap.size + 1, 0, none⟩ = some (.int .i64 q) := by simp [go_sem, hw3]
  have q3 : w3.cell? ⟨w.heap.size + 1, 1, none⟩ = some (.slice a2 T.length cap2) := by simp [go_sem, hw3]
  have q4 : w3.cell? ⟨w.heap.size + 1 + 1 + 1, 0, none⟩ = some (.int .i64 p) := by simp [go_sem, hw3]
  have q5 : w3.cell? ⟨w.heap.size + 1 + 1 + 1, 1, none⟩ = some (.slice a bs.length cap) := by simp [go_sem, hw3]
  have q6 : w3.cell? ⟨w.heap.size + 1 + 1 + 1, 2, none⟩ = some (.int .i64 q) := by simp [go_sem, hw3]
  have q7 : w3.cell? ⟨w.heap.size + 1 + 1 + 1, 3, none⟩ = some (.slice a2 T.length cap2) := by simp [go_sem, hw3]
  have k2 : w3.heap[w.heap.size + 2]? = some (.cells #[.int .i64 0, .slice none 0 0] 24 (0, 0)) := by
    have h := World.alloc_heap_new ((w.alloc (Obj.cells #[.int .i64 p, .slice a bs.length cap] 24)).alloc (Obj.cells #[.int .i64 q, .slice a2 T.length cap2] 24)) (Obj.cells #[.int .i64 0, .slice none 0 0] 24)
    rw [World.size_alloc, World.size_alloc] at h
    rw [hw3, Below.heap_alloc _ _ _ (by simp)]
    exact h
  clear hw3
  have hbx := hb.below hB4
  have hbx2 := hb2.below hB4
  go_loopw [16] (fun i wr => ∃ k : Nat, k ≤ 2 ∧ i = .int .i64 k ∧ Below w3.heap.size w3 wr ∧ (1 ≤ k → chk p bs = 0) ∧ (2 ≤ k → chk q T = 0)) (fun i _ => 2 - (intOf i).toNat)
  case atStart => exact ⟨0, by omega, rfl, Below.refl _ _, fun h => by omega, fun h => by omega⟩
  case round =>
    obtain ⟨k, hk, rfl, hB, h1, h2⟩ := hrel
    obtain ⟨wo, hwo⟩ : ∃ wo : World, wo = wr := ⟨_, rfl⟩
    subst hwo
    have zr := hB.size
    have p0 := ((bcell hB).1 _ _ (by omega)).trans q0
    have p1 := ((bcell hB).1 _ _ (by omega)).trans q1
    have p2 := ((bcell hB).1 _ _ (by omega)).trans q2
    have p3 := ((bcell hB).1 _ _ (by omega)).trans q3
    have p4 := ((bcell hB).1 _ _ (by omega)).trans q4
    have p5 := ((bcell hB).1 _ _ (by omega)).trans q5
    have p6 := ((bcell hB).1 _ _ (by omega)).trans q6
    have p7 := ((bcell hB).1 _ _ (by omega)).trans q7
    have pk := (hB.block (w.heap.size + 2) (by omega)).trans k2
    obtain ⟨aR, fR⟩ := SL.cells_of pk
    have cR0 := aR 0
    have cR1 := aR 1
    simp at cR0 cR1
    clear aR q0 q1 q2 q3 q4 q5 q6 q7
    have s0 : w.heap.size < wo.heap.size := by omega
    have s1 : w.heap.size + 1 < wo.heap.size := by omega
    have s2 : w.heap.size + 1 + 1 < wo.heap.size := by omega
    have s3 : w.heap.size + 1 + 1 + 1 < wo.heap.size := by omega
    have hb1w := hbx.below hB
    have hb2w := hbx2.below hB
    obtain rfl | rfl | rfl : k = 0 ∨ k = 1 ∨ k = 2 := by omega
    · have hC := fun w1 (h : BdsAt w1 a bs.length cap bs) => gcheck_any p a _ cap bs w1 h
      by_cases h0 : chk p bs = 0
      · rw [h0] at hC
        go_wp2_with (go_at_call 63; refine (hC _ (hb1w.below ((Below.refl _ _).alloc (Nat.le_refl _) _))).mono ?_; rintro e w4 ⟨rfl, hb4⟩)
        have z4 := hb4.size
        simp only [World.size_alloc] at z4
        go_roundw
        case rel => exact ⟨1, by omega, by go_num, hB.trans (((Below.refl _ _).alloc (by omega) _).trans (hb4.mono (by simp; omega))), fun _ => h0, fun h => by omega⟩
        case measure => simp [intOf]
      · have h0' : (chk p bs == 0) = false := by simpa using h0
        have HC0 := Lib.hid h0
        obtain ⟨ce, hce⟩ : ∃ ce, chk p bs = ce := ⟨_, rfl⟩
        have Hce := Lib.hid hce
        rw [hce] at hC h0'
        clear h0 h1 h2 hce
        go_wp2_with (go_at_call 63; refine (hC _ (hb1w.below ((Below.refl _ _).alloc (Nat.le_refl _) _))).mono ?_; rintro e w4 ⟨rfl, hb4⟩; obtain ⟨hc4, hf4⟩ := bcell hb4; have z4 := hb4.size; simp only [World.size_alloc] at z4; have s4 : w.heap.size + 1 + 1 < w4.heap.size := (by omega))
        refine bodyPost_ret (v := .tuple #[.agg #[.int .i64 0, .slice none 0 0], .int .i64 ce]) (by simp [results, Try.results44, go_sem, *]) rfl ⟨_, by rw [(HE1.out HC0.out).1, (HE1.out HC0.out).2.1, Hce.out], ?_, by rw [(HE1.out HC0.out).2.2]; exact World.ownsRow_nil _ _ _ _⟩
        exact (((((hB4.trans (hB.mono (by omega))).alloc (by omega) _).trans (hb4.mono (by simp; omega))).setCell (by simp; omega) _).setCell (by simp; omega) _)
    · have hC := fun w1 (h : BdsAt w1 a2 T.length cap2 T) => gcheck_any q a2 _ cap2 T w1 h
      have h0 := h1 (by omega)
      by_cases h02 : chk q T = 0
      · rw [h02] at hC
        clear h1 h2
        have HC0 := Lib.hid h0
        have HC2 := Lib.hid h02
        clear h0 h02
        go_wp2_with (go_at_call 63; refine (hC _ (hb2w.below ((Below.refl _ _).alloc (Nat.le_refl _) _))).mono ?_; rintro e w4 ⟨rfl, hb4⟩)
        have z4 := hb4.size
        simp only [World.size_alloc] at z4
        go_roundw
        case rel => exact ⟨2, by omega, by go_num, hB.trans (((Below.refl _ _).alloc (by omega) _).trans (hb4.mono (by simp; omega))), fun _ => HC0.out, fun _ => HC2.out⟩
        case measure => simp [intOf]
      · have h0' : (chk q T == 0) = false := by simpa using h02
        have HC0 := Lib.hid h0
        have HC2 := Lib.hid h02
        obtain ⟨ce, hce⟩ : ∃ ce, chk q T = ce := ⟨_, rfl⟩
        have Hce := Lib.hid hce
        rw [hce] at hC h0'
        clear h0 h02 h1 h2 hce
        go_wp2_with (go_at_call 63; refine (hC _ (hb2w.below ((Below.refl _ _).alloc (Nat.le_refl _) _))).mono ?_; rintro e w4 ⟨rfl, hb4⟩; obtain ⟨hc4, hf4⟩ := bcell hb4; have z4 := hb4.size; simp only [World.size_alloc] at z4; have s4 : w.heap.size + 1 + 1 < w4.heap.size := (by omega))
        refine bodyPost_ret (v := .tuple #[.agg #[.int .i64 0, .slice none 0 0], .int .i64 ce]) (by simp [results, Try.results44, go_sem, *]) rfl ⟨_, by rw [(HE2.out HC0.out HC2.out).1, (HE2.out HC0.out HC2.out).2.1, Hce.out], ?_, by rw [(HE2.out HC0.out HC2.out).2.2]; exact World.ownsRow_nil _ _ _ _⟩
        exact (((((hB4.trans (hB.mono (by omega))).alloc (by omega) _).trans (hb4.mono (by simp; omega))).setCell (by simp; omega) _).setCell (by simp; omega) _)
    · have h0 := h1 (by omega)
      have h02 := h2 (by omega)
      obtain ⟨HE, HL, HM⟩ := HE3.out h0 h02
      have hs := chk_400 h0
      have hs2 := chk_400 h02
      have hp := (Sys.of_chk h0).p2
      have hp1 := (Sys.of_chk h0).p1
      have hq := (Sys.of_chk h02).p2
      have hq1 := (Sys.of_chk h02).p1
      have hin := (Sys.of_chk h02).inr
      clear HE1 HE2 HE3 h1 h2 h0 h02
      have HE' := Lib.hid HE
      have HL' := Lib.hid HL
      have HM' := Lib.hid HM
      clear HE HL HM
      have hwr : IntKind.i64.wrap (p + q) = p + q := IntWalk.i64_in _ (by omega)
      go_wp2_with fail
      refine SL.rule (by kernel_rfl) [] [27, 28, 29, 30, 31, 32, 33, 34, 35, 9] [
        SL.pu 27 [] (.pointer (some ⟨w.heap.size, 0, none⟩)), SL.pu 28 [0] (.int .i64 p), SL.pu 29 [] (.pointer (some ⟨w.heap.size + 1, 0, none⟩)), SL.pu 30 [2] (.int .i64 q), SL.pu 31 [1, 3] (.int .i64 (p + q)),
        SL.pu 32 [] (.pointer (some ⟨w.heap.size, 1, none⟩)), SL.pu 33 [5] (.slice a bs.length cap),
        SL.row 34 [6] [] wo.heap.size 39 4 bs.length (bcs bs),
        SL.rowIn 35 [4, 7] [7] wo.heap.size 39 4 bs.length (bcs bs) (fun u => .agg #[.int .i64 (p + q), u]),
        SL.box 9 [] [] wo.heap.size 24 #[.int .i64 0, .slice none 0 0],
        SL.boxIn 9 [8, 9] [8, 9] wo.heap.size 24 39 4 bs.length (bcs bs) (fun u => #[.int .i64 (p + q), u])] [10] (by kernel_rfl) (by kernel_rfl) (fun _ => []) (SL.none_held rfl) (by simp) ?_ ?_
      · refine ⟨?_, ?_, ?_, ?_, ?_, ?_, ?_, ?_, ?_, ?_, ?_, trivial⟩
        all_goals refine SL.ob fun us w' Fe hG hu hd hv K hK => ?_
        all_goals simp [SL.frame, SL.put', SL.Used, SL.Seen, SL.pu, SL.row, SL.box, SL.rowIn, SL.boxIn, SL.boxAt, SL.boxAtIn, Bd.v, Bd.cs] at hu hv hK ⊢
        all_goals obtain ⟨hg1, hg2⟩ := bcell hG.below'
        all_goals (have hsz := hG.size; simp only [World.size_drew] at hsz)
        all_goals (have r0 := (hg1 _ _ (by omega)).trans p0)
        all_goals (have r1 := (hg1 _ _ (by omega)).trans p1)
        all_goals (have r2 := (hg1 _ _ (by omega)).trans p2)
        all_goals clear hg1 hg2 p0 p1 p2 p3 p4 p5 p6 p7
        all_goals try (go_step; refine hK _ _ _ _ (by simp [Act.put, *]; done) (SL.Chg.refl _ _) rfl rfl (by simp))
        · go_step
          refine (gcopiedB_any _ _ _ _ _ (hb1w.below hG.below') (by omega)).mono ?_
          rintro e w4 ⟨v, rfl, ho2, hb4⟩
          exact hK _ v w4 _ (by simp [Act.put, *]) (.of_below hb4) (SL.row_base ho2 hsz) rfl (SL.row_bounds ho2)
        · obtain ⟨⟨u1, _⟩, u2, u3⟩ := hu
          obtain ⟨sa, c, hsl, _⟩ := owns_slice u2
          go_step
          refine hK _ _ _ _ (by simp [Act.put, *]; done) (.refl _ _) _ rfl (hsl ▸ u2) rfl ?_
          rw [u3]; simp [hsl]; exact fun k h => .inl h
        · go_step
          refine hK _ _ _ _ (by simp [Act.put, *]; done) (.alloc _ _ _) _ rfl hsz (heap_alloc_new w' _) rfl (by simp)
        · obtain ⟨⟨u, hu1, u2, u3⟩, N, hu4, hN, u4, u5⟩ := hu
          have hNl : N < w'.heap.size := (Array.getElem?_eq_some_iff.1 u4).1
          obtain ⟨sa, c, hsl, _⟩ := owns_slice u2
          subst hsl
          have c0 := (SL.cells_of u4).1 0
          have c1 := (SL.cells_of u4).1 1
          have f0 := (SL.cells_of u4).2
          simp at c0 c1
          have hne := own_ne u2 u4 (by decide)
          go_step
          refine hK _ undef _ _ (by simp [Act.put, *]; done) (.trans (.setCell _ (by simp [u5]) _) (.setCell _ (by simp [u5]) _)) N hu4 hN _ (SL.heap_set (SL.heap_set u4 _) _) (SL.row_set (SL.row_set u2 hne _) hne _) rfl ?_
          rw [u5, u3]; simp; exact fun k h => .inl (.inl h)
      · intro us w4 Fs hG hu hbd hd
        simp [SL.frame, SL.put', SL.Used, SL.Seen, SL.pu, SL.row, SL.box, SL.rowIn, SL.boxIn, SL.boxAt, SL.boxAtIn, Bd.v, Bd.cs] at hu ⊢
        obtain ⟨N, u7, hN, y, hh, ho, hF⟩ := hu
        clear hbd hd
        have hB34 : Below wo.heap.size wo w4 := hG.below'
        have z4 := hG.size
        simp only [World.size_drew] at z4
        have hNl : N < w4.heap.size := (Array.getElem?_eq_some_iff.1 hh).1
        simp only [u7]
        clear u7 hF hG hwr
        have m0 := ((bcell hB34).1 _ _ (by omega)).trans p0
        have m3 := ((bcell hB34).1 _ _ (by omega)).trans p3
        have mk := (hB34.block (w.heap.size + 2) (by omega)).trans pk
        clear p0 p1 p2 p3 p4 p5 p6 p7 cR0 cR1 fR
        have hax : ∀ z, a2 = some z → z.block < w.heap.size := fun z hz => (hb2.at_ z hz).2.1
        have hbT := hb2w.below hB34
        go_wp2_with fail
        go_loopw [39] (fun i wr => ∃ k : Nat, k ≤ T.length ∧ i = .int .i64 k ∧ Below wo.heap.size w4 wr ∧ ∃ v, wr.heap[N]? = some (.cells #[.int .i64 (p + q), v] 24 (0, 0)) ∧ wr.ownsRow wo.heap.size 39 4 v (bs.length + k) (bcs (bs ++ shf p (T.take k)))) (fun i _ => T.length - (intOf i).toNat)
        case atStart => exact ⟨0, Nat.zero_le _, rfl, Below.refl _ _ |>.mono (by omega), y, hh, by simpa [shf] using ho⟩
        case round =>
          obtain ⟨j, hj, rfl, hBq, v, h2, hown⟩ := hrel
          have zq := hBq.size
          obtain ⟨aN, fN⟩ := SL.cells_of h2
          have cN0 := aN 0
          have cN1 := aN 1
          simp at cN0 cN1
          clear aN
          have c0 := ((bcell hBq).1 _ _ (by omega)).trans m0
          have c3 := ((bcell hBq).1 _ _ (by omega)).trans m3
          have hNr : N < wr.heap.size := (Array.getElem?_eq_some_iff.1 h2).1
          have s0 : w.heap.size < wr.heap.size := by omega
          have s1 : w.heap.size + 1 < wr.heap.size := by omega
          have s2 : w.heap.size + 1 + 1 < wr.heap.size := by omega
          by_cases hlt : j < T.length
          · obtain ⟨b, off, rfl, hbl, d0, d1, d2, d3⟩ := (hb2w.below (hB34.trans hBq)).get hlt
            obtain ⟨f0, f1, t0, t1, _, _⟩ := hin _ (getD_mem hlt)
            have Hs := Lib.hid (shf_take (p := p) hlt)
            generalize T.getD j default = x at *
            have hnv := own_ne hown h2 (by decide)
            have hw1 : IntKind.i64.wrap (x.frm + p) = x.frm + p := IntWalk.i64_in _ (by omega)
            have hw2 : IntKind.i64.wrap (x.tow + p) = x.tow + p := IntWalk.i64_in _ (by omega)
            have hBt : Below wr.heap.size wr (wr.alloc (Obj.cells #[.int .i64 x.frm, .int .i64 x.tow, .int .i64 x.most, .int .i64 x.bid] 39)) := (Below.refl _ _).alloc (Nat.le_refl _) _
            go_wp2_with fail
            have hM := World.alloc_heap_new wr (Obj.cells #[.int .i64 x.frm, .int .i64 x.tow, .int .i64 x.most, .int .i64 x.bid] 39)
            have zW : (wr.alloc (Obj.cells #[.int .i64 x.frm, .int .i64 x.tow, .int .i64 x.most, .int .i64 x.bid] 39)).heap.size = wr.heap.size + 1 := by simp
            have e0 := ((bcell hBt).1 w.heap.size 0 (by omega)).trans c0
            obtain ⟨W1, hW1⟩ : ∃ W1, W1 = wr.alloc (Obj.cells #[.int .i64 x.frm, .int .i64 x.tow, .int .i64 x.most, .int .i64 x.bid] 39) := ⟨_, rfl⟩
            rw [← hW1] at hM zW hBt e0 ⊢
            clear hW1
            refine SL.rule (by kernel_rfl) [wr.heap.size] [43, 44, 45, 46, 47, 48, 49, 50, 51, 52, 53, 54] [
              SL.pu 43 [] (.pointer (some ⟨wr.heap.size, 0, none⟩)), SL.pu 44 [0, 14] (.int .i64 x.frm), SL.pu 45 [] (.pointer (some ⟨w.heap.size, 0, none⟩)), SL.pu 46 [2] (.int .i64 p), SL.pu 47 [1, 3] (.int .i64 (x.frm + p)),
              SL.pu 48 [] (.pointer (some ⟨wr.heap.size, 1, none⟩)), SL.pu 49 [5, 14] (.int .i64 x.tow), SL.pu 50 [] (.pointer (some ⟨w.heap.size, 0, none⟩)), SL.pu 51 [7] (.int .i64 p), SL.pu 52 [6, 8] (.int .i64 (x.tow + p)),
              SL.pu 53 [] (.pointer (some ⟨wr.heap.size, 0, none⟩)), SL.boxAt 11 [4, 10, 14] [14] wr.heap.size 39 #[.int .i64 (x.frm + p), .int .i64 x.tow, .int .i64 x.most, .int .i64 x.bid],
              SL.pu 54 [] (.pointer (some ⟨wr.heap.size, 1, none⟩)), SL.boxAt 11 [9, 12, 11] [11] wr.heap.size 39 #[.int .i64 (x.frm + p), .int .i64 (x.tow + p), .int .i64 x.most, .int .i64 x.bid],
              SL.boxAt 11 [] [] wr.heap.size 39 #[.int .i64 x.frm, .int .i64 x.tow, .int .i64 x.most, .int .i64 x.bid]] [13] (by kernel_rfl) (by kernel_rfl) _ (SL.one_held (N := wr.heap.size) rfl rfl ⟨rfl, hM, rfl⟩ (by omega)) SL.one_apart ?_ ?_
            · refine ⟨?_, ?_, ?_, ?_, ?_, ?_, ?_, ?_, ?_, ?_, ?_, ?_, ?_, ?_, trivial⟩
              all_goals refine SL.ob fun us w' Fe hG hu hd hv K hK => ?_
              all_goals simp [SL.frame, SL.put', SL.Used, SL.Seen, SL.pu, SL.row, SL.box, SL.rowIn, SL.boxIn, SL.boxAt, SL.boxAtIn, Bd.v, Bd.cs] at hu hv hK ⊢
              all_goals (have hsz := hG.size; simp only [World.size_drew] at hsz)
              all_goals (have g0 := (hG.undrew.cellsE.1 _ _ (by omega) (by simp; omega)).trans e0)
              all_goals clear e0 c0 c3 cN0 cN1 fN
              all_goals try (go_step; refine hK _ _ _ _ (by simp [Act.put, *]; done) (SL.Chg.refl _ _) rfl rfl (by simp))
              · obtain ⟨⟨u1, _⟩, u3, u4, u5⟩ := hu
                have y1 := (SL.cells_of u4).1 0
                simp at y1
                go_step
                refine hK _ _ _ _ (by simp [Act.put, *]; done) (SL.Chg.refl _ _) rfl rfl (by simp)
              · obtain ⟨⟨u1, _⟩, u3, u4, u5⟩ := hu
                have y1 := (SL.cells_of u4).1 1
                simp at y1
                go_step
                refine hK _ _ _ _ (by simp [Act.put, *]; done) (SL.Chg.refl _ _) rfl rfl (by simp)
              · obtain ⟨⟨u1, _⟩, ⟨u2, _⟩, u3, u4, u5⟩ := hu
                have y1 := (SL.cells_of u4).1 0
                have ff := (SL.cells_of u4).2
                simp at y1
                go_step
                refine hK _ undef _ _ (by simp [Act.put, *]; done) (.setCell _ (by simp [u5]) _) u3 (SL.heap_set u4 _) rfl ?_
                rw [u5]; simp
              · obtain ⟨⟨u1, _⟩, ⟨u2, _⟩, u3, u4, u5⟩ := hu
                have y1 := (SL.cells_of u4).1 1
                have ff := (SL.cells_of u4).2
                simp at y1
                go_step
                refine hK _ undef _ _ (by simp [Act.put, *]; done) (.setCell _ (by simp [u5]) _) u3 (SL.heap_set u4 _) rfl ?_
                rw [u5]; simp
            · intro us w5 Fs hG hu hbd hd
              simp [SL.frame, SL.put', SL.Used, SL.Seen, SL.pu, SL.row, SL.box, SL.rowIn, SL.boxIn, SL.boxAt, SL.boxAtIn, Bd.v, Bd.cs] at hu ⊢
              obtain ⟨u11, uh, uF⟩ := hu
              have z5 := hG.size
              simp only [World.size_drew] at z5
              try simp only [u11]
              have hB15 : Below wo.heap.size wr w5 := (hBt.mono (by omega)).trans (hG.belowF (by omega) (by simp; omega))
              have hWN := (hBt.block N hNr).trans h2
              have h25 : w5.heap[N]? = some (.cells #[.int .i64 (p + q), v] 24 (0, 0)) := (hG.undrew.block N (by omega) (by simp; omega)).trans hWN
              have hown5 : w5.ownsRow wo.heap.size 39 4 v (bs.length + j) (bcs (bs ++ shf p (T.take j))) := SL.row_stab (hown.up hBt (Nat.le_refl _)) fun k hk => by
                have hkb := SL.row_bounds hown k hk
                exact hG.undrew.block k (by omega) (by simp; omega)
              obtain ⟨aM, fM⟩ := SL.cells_of uh
              have cM0 := aM 0
              have cM1 := aM 1
              have cM2 := aM 2
              have cM3 := aM 3
              simp at cM0 cM1 cM2 cM3
              obtain ⟨aN, fN'⟩ := SL.cells_of h25
              have dN0 := aN 0
              have dN1 := aN 1
              simp at dN0 dN1
              clear aM aN cN0 cN1 fN d0 d1 d2 d3 e0 c0 c3 uF hbd hd
              have hNr5 : N < w5.heap.size := (Array.getElem?_eq_some_iff.1 h25).1
              have hMr5 : wr.heap.size < w5.heap.size := (Array.getElem?_eq_some_iff.1 uh).1
              have hBu : Below w5.heap.size w5 (w5.alloc (Obj.cells #[.int .i64 (x.frm + p), .int .i64 (x.tow + p), .int .i64 x.most, .int .i64 x.bid] 39)) := (Below.refl _ _).alloc (Nat.le_refl _) _
              have hunew := hown5.up hBu (Nat.le_refl _)
              have HN := Lib.hid (World.alloc_heap_new w5 (Obj.cells #[.int .i64 (x.frm + p), .int .i64 (x.tow + p), .int .i64 x.most, .int .i64 x.bid] 39))
              go_wp2_with (at_builtin; refine wpList_app elemB rfl _ _ rfl hunew rfl rfl (RowAt.of_heap HN.out) (m := 1) rfl (by simp [Value.oneCell']) ?_ ?_ ?_ ?_)
              · unfold maxLen; omega
              · omega
              · simp; omega
              · intro v' w6 ho6 hg6 hb6 _ _
                have hB6 : Below wo.heap.size wr w6 := (hB15.trans (hBu.mono (by omega))).trans hb6
                have h26 : w6.heap[N]? = some (.cells #[.int .i64 (p + q), v] 24 (0, 0)) := by
                  have e := hg6.block N (by simp; omega) (fun e => hnv (by rw [← e]; simp))
                  exact e.trans ((hBu.block N hNr5).trans h25)
                obtain ⟨aQ, fQ⟩ := SL.cells_of h26
                have cQ0 := aQ 0
                have cQ1 := aQ 1
                simp at cQ0 cQ1
                clear aQ dN0 dN1 fN' cM0 cM1 cM2 cM3 fM
                obtain ⟨sa, sc, rfl, _⟩ := owns_slice ho6
                have hne6 := own_ne ho6 h26 (by decide)
                have hNr6 : N < w6.heap.size := (Array.getElem?_eq_some_iff.1 h26).1
                go_wp2
                go_roundw
                case rel =>
                  refine ⟨j + 1, by omega, by go_num, hBq.trans (hB6.setCell (by simp; omega) _), _, SL.heap_set h26 _, ?_⟩
                  have e5 : bcs (bs ++ shf p (T.take (j + 1))) = bcs (bs ++ shf p (T.take j)) ++ [.int .i64 (x.frm + p), .int .i64 (x.tow + p), .int .i64 x.most, .int .i64 x.bid] := by
                    rw [Hs.out, ← List.append_assoc, bcs_append (bs ++ _)]; simp [bcs, Bd.cs]
                  rw [e5]
                  exact SL.row_set ho6 hne6 _
                case measure => simp [intOf]; omega
          · rw [List.take_of_length_le (by omega)] at hown
            obtain rfl : j = T.length := by omega
            obtain ⟨sa, sc, rfl, _⟩ := owns_slice hown
            have hbU := BdsAt.of_owns hown (by simp [shf]; omega)
            have hC3 := gchecked_any (p + q) _ _ _ _ _ hbU
            have hkr := (hBq.block (w.heap.size + 2) (by omega)).trans mk
            obtain ⟨aR, fR⟩ := SL.cells_of hkr
            have cR0 := aR 0
            have cR1 := aR 1
            simp at cR0 cR1
            clear aR
            have hnR := own_ne hown hkr (by decide)
            have hlU : (bs ++ shf p T).length = bs.length + T.length := by simp [shf]
            generalize bs ++ shf p T = U at *
            have hBW : Below w.heap.size w wr := ((hB4.trans (hB.mono (by omega))).trans (hB34.mono (by omega))).trans (hBq.mono (by omega))
            by_cases hce : chk (p + q) U = 0
            · obtain ⟨hR1, hR2⟩ := HL'.out hce
              have HR1 := Lib.hid hR1
              have HR2 := Lib.hid hR2
              have Hce := Lib.hid hce
              rw [if_pos hce] at hC3
              clear hR1 hR2 hce
              go_wp2_with (go_at_call 95; refine hC3.mono ?_; rintro e w5 ⟨rfl, hb5⟩; obtain ⟨hc5, hf5⟩ := bcell hb5; have hz5 := hb5.size; have s4 : w.heap.size + 1 + 1 < w5.heap.size := (by omega); have s5 : N < w5.heap.size := (by omega))
              refine bodyPost_ret (v := .tuple #[.agg #[.int .i64 (p + q), .slice sa (bs.length + T.length) sc], .int .i64 0]) (by simp [results, Try.results44, go_sem, *]) rfl ⟨_, by rw [HR1.out, HE'.out, Hce.out], ?_, ?_⟩
              · exact ((hBW.trans (hb5.mono (by omega))).setCell (by simp; omega) _).setCell (by simp; omega) _
              · rw [HR2.out, hlU]
                exact SL.row_base (SL.row_set (SL.row_set (hown.up hb5 (Nat.le_refl _)) hnR _) hnR _) (by omega)
            · obtain ⟨hR1, hR2⟩ := HM'.out hce
              have HR1 := Lib.hid hR1
              have HR2 := Lib.hid hR2
              rw [if_neg hce] at hC3
              obtain ⟨ce, he⟩ : ∃ ce, chk (p + q) U = ce := ⟨_, rfl⟩
              rw [he] at hC3
              have He := Lib.hid he
              clear hR1 hR2 hce he
              go_wp2_with (go_at_call 95; refine hC3.mono ?_; rintro e w5 ⟨rfl, hb5⟩; obtain ⟨hc5, hf5⟩ := bcell hb5; have hz5 := hb5.size; have s4 : w.heap.size + 1 + 1 < w5.heap.size := (by omega); have s5 : N < w5.heap.size := (by omega))
              refine bodyPost_ret (v := .tuple #[.agg #[.int .i64 0, .slice none 0 0], .int .i64 ce]) (by simp [results, Try.results44, go_sem, *]) rfl ⟨_, by rw [HR1.out, HE'.out, He.out], ?_, by rw [HR2.out]; exact World.ownsRow_nil _ _ _ _⟩
              exact ((hBW.trans (hb5.mono (by omega))).setCell (by simp; omega) _).setCell (by simp; omega) _
end Go.Proofs.Ytlkcfohmoeadbaa

/-
  Gauge, walked: Tie.
-/
namespace Go.Proofs.Ytlkcfohmoeadbaa
open Go.RowKit Go.Shelf
set_option maxHeartbeats 4000000
set_option maxRecDepth 100000

def tieU (bs : List Bd) (x y n : Int) : List Bd := bs ++ [⟨x, y, n, 0⟩, ⟨y, x, -n, 0⟩]
def tieR (p : Int) (bs : List Bd) (x y n : Int) : Int := if chk p (tieU bs x y n) = 0 then p else 0
def tieM (p : Int) (bs : List Bd) (x y n : Int) : List Bd := if chk p (tieU bs x y n) = 0 then tieU bs x y n else []
def tieOut (p : Int) (bs : List Bd) (x y n : Int) (OB base : Nat) (w' : World) : Prop := ∃ v, w'.heap[OB]? = some (.cells #[.int .i64 (tieR p bs x y n), v] 24 (0, 0)) ∧ w'.ownsRow base 39 4 v (tieM p bs x y n).length (bcs (tieM p bs x y n))
theorem tieOut.chg {p : Int} {bs : List Bd} {x y n : Int} {OB base : Nat} {w w' : World} {E : List Nat} (h : tieOut p bs x y n OB base w) (hc : SL.Chg E w w') (h1 : OB ∉ E) (h3 : ∀ k ∈ E, k < base) : tieOut p bs x y n OB base w' := by
  obtain ⟨v, q1, q2⟩ := h
  exact ⟨v, heap_chg q1 hc h1, row_chg q2 hc h3⟩
def tieEnd (p : Int) (bs : List Bd) (x y n : Int) (OB : Nat) (w1 : World) (e : Ending) (w' : World) : Prop :=
  (tieOk p x y n = false → e = .panicked gaveUp ∧ Below w1.heap.size w1 w') ∧ (tieOk p x y n = true → e = .returned (.int .i64 (chk p (tieU bs x y n))) ∧ SL.Chg [OB] w1 w' ∧ tieOut p bs x y n OB w1.heap.size w')

theorem gTie1_any (p : Int) (a : Option Addr) (len cap : Nat) (bs : List Bd) (x y n : Int) (SB BA BB NB OB : Nat) (w1 : World) (hs : Sys p bs) (h4 : bs.length ≤ 400) (hb : BdsAt w1 a len cap bs)
    (c0 : w1.cell? ⟨SB, 0, none⟩ = some (.int .i64 p)) (c1 : w1.cell? ⟨SB, 1, none⟩ = some (.slice a len cap)) (ca : w1.cell? ⟨BA, 0, none⟩ = some (.int .i64 x)) (cb : w1.cell? ⟨BB, 0, none⟩ = some (.int .i64 y)) (cn : w1.cell? ⟨NB, 0, none⟩ = some (.int .i64 n))
    (hO : w1.heap[OB]? = some (.cells #[.int .i64 0, .slice none 0 0] 24 (0, 0))) :
    Calls Try.prog 101 #[.pointer (some ⟨SB, 0, none⟩), .pointer (some ⟨BA, 0, none⟩), .pointer (some ⟨BB, 0, none⟩), .pointer (some ⟨NB, 0, none⟩), .pointer (some ⟨OB, 0, none⟩)] w1 (tieEnd p bs x y n OB w1) := by
  have z0 := World.block_lt_of_cell? w1 _ c0
  have z1 := World.block_lt_of_cell? w1 _ ca
  have z2 := World.block_lt_of_cell? w1 _ cb
  have z3 := World.block_lt_of_cell? w1 _ cn
  have z4 := (Array.getElem?_eq_some_iff.1 hO).1
  simp only at z0 z1 z2 z3
  have hp := hs.p1
  have hp2 := hs.p2
  have hpts := fun (w : World) (al : Option Addr) (m c : Nat) (h : IntsAt w al m c [x, y]) => gpoints_any p a len cap al m c [x, y] w h ⟨hp, hp2⟩
  have hnew : IntsAt (w1.alloc (Obj.cells #[.int .i64 x, .int .i64 y] 3)) (some ⟨w1.heap.size, 0, none⟩) 2 2 [x, y] :=
    ⟨rfl, by simp, RowAt.of_heap (World.alloc_heap_new w1 _)⟩
  have hbn := hb.below (w' := w1.alloc (Obj.cells #[.int .i64 x, .int .i64 y] 3)) ((Below.refl _ _).alloc (Nat.le_refl _) _)
  change ∀ (w : World) (al : Option Addr) (m c : Nat) (_ : IntsAt w al m c [x, y]), Calls Try.prog 69 #[.agg #[.int .i64 p, .slice a len cap], .slice al m c] w fun e w' => e = (if both p x y then .returned (.tuple #[]) else .panicked gaveUp) ∧ Below w.heap.size w w' at hpts
  have hnear := @withinB_iff n (-1000000) 1000000
  have hw := fun w => gwithin_any n (-1000000) 1000000 w
  unfold tieEnd tieOk
  cases o1 : both p x y with
  | false =>
    simp only [o1] at hpts ⊢
    go_enter Try.func101, Try.ntmps101
    go_wp2_with (go_at_call 69; refine (hpts _ _ _ _ hnew).mono ?_; rintro e w2 ⟨rfl, hb2⟩)
    exact ⟨rfl, fun _ => ⟨rfl, ((Below.refl _ w1).alloc (Nat.le_refl _) _).trans (hb2.mono (by simp))⟩, (fun h => by simp at h)⟩
  | true =>
    simp only [o1] at hpts ⊢
    by_cases exy : x = y
    · subst exy
      have e1 : (x != x) = false := by simp
      go_enter Try.func101, Try.ntmps101
      go_wp2_with (first
        | (go_at_call 69; refine (hpts _ _ _ _ hnew).mono ?_; rintro e w2 ⟨rfl, hb2⟩; obtain ⟨hc2, hf2⟩ := bcell hb2; have hz2a := lt_size hb2 (b := SB) (by first | assumption | omega | (simp; done) | (simp; omega)); have hz2b := lt_size hb2 (b := BA) (by first | assumption | omega | (simp; done) | (simp; omega)); have hz2c := lt_size hb2 (b := BB) (by first | assumption | omega | (simp; done) | (simp; omega)); have hz2d := lt_size hb2 (b := NB) (by first | assumption | omega | (simp; done) | (simp; omega)))
        | (go_at_call 70; refine (gneed_no _).mono ?_; rintro e w3 ⟨rfl, rfl⟩))
      exact ⟨rfl, fun _ => ⟨rfl, ((Below.refl _ w1).alloc (Nat.le_refl _) _).trans (hb2.mono (by simp))⟩, (fun h => by simp at h)⟩
    · have e1 : (x != y) = true := by simpa using exy
      have e2 : (x == y) = false := by simpa using exy
      cases o2 : withinB n (-1000000) 1000000 with
      | false =>
        simp only [o2] at hw ⊢
        go_enter Try.func101, Try.ntmps101
        go_wp2_with (first
          | (go_at_call 69; refine (hpts _ _ _ _ hnew).mono ?_; rintro e w2 ⟨rfl, hb2⟩; obtain ⟨hc2, hf2⟩ := bcell hb2; have hz2a := lt_size hb2 (b := SB) (by first | assumption | omega | (simp; done) | (simp; omega)); have hz2b := lt_size hb2 (b := BA) (by first | assumption | omega | (simp; done) | (simp; omega)); have hz2c := lt_size hb2 (b := BB) (by first | assumption | omega | (simp; done) | (simp; omega)); have hz2d := lt_size hb2 (b := NB) (by first | assumption | omega | (simp; done) | (simp; omega)))
          | (go_at_call 71; refine (hw _).mono ?_; rintro e w3 ⟨rfl, rfl⟩)
          | (go_at_call 70; refine (gneed_no _).mono ?_; rintro e w3 ⟨rfl, rfl⟩))
        exact ⟨rfl, fun _ => ⟨rfl, ((Below.refl _ w1).alloc (Nat.le_refl _) _).trans (hb2.mono (by simp))⟩, (fun h => by simp at h)⟩
      | true =>
        have hn := hnear.1 o2
        simp only [o2, e2, Bool.not_false, Bool.and_true] at hw ⊢
        have htie := fun w (h : BdsAt w a len cap bs) => gtied_any p x y n a len cap bs w h h4 ⟨by omega, by omega⟩
        have hUe : bs ++ [⟨x, y, n, 0⟩, ⟨y, x, -n, 0⟩] = tieU bs x y n := rfl
        rw [hUe] at htie
        have hUl : (tieU bs x y n).length = bs.length + 2 := by simp [tieU]
        have hchk := fun w a c (h : BdsAt w a (bs.length + 2) c (tieU bs x y n)) => gchecked_any p a _ c _ w h
        have HU := Lib.hid hUl
        have Hpts := Lib.hid hpts
        unfold tieOut
        have HR1 := Lib.hid (show chk p (tieU bs x y n) = 0 → tieR p bs x y n = p ∧ tieM p bs x y n = tieU bs x y n from fun h => ⟨by unfold tieR; rw [if_pos h], by unfold tieM; rw [if_pos h]⟩)
        have HR2 := Lib.hid (show chk p (tieU bs x y n) ≠ 0 → tieR p bs x y n = 0 ∧ tieM p bs x y n = [] from fun h => ⟨by unfold tieR; rw [if_neg h], by unfold tieM; rw [if_neg h]⟩)
        generalize tieR p bs x y n = R at *
        generalize tieM p bs x y n = M at *
        clear hUl hpts hUe
        generalize tieU bs x y n = U at *
        by_cases hce : chk p U = 0
        · obtain ⟨r1, r2⟩ := HR1.out hce
          subst r1
          subst r2
          simp only [hce, if_true] at hchk ⊢
          clear hce HR1 HR2
          go_enter Try.func101, Try.ntmps101
          go_wp2_with (first
            | (go_at_call 69; refine (Hpts.out _ _ _ _ hnew).mono ?_; rintro e w2 ⟨rfl, hb2⟩; obtain ⟨hc2, hf2⟩ := bcell hb2; have hz2a := lt_size hb2 (b := SB) (by first | assumption | omega | (simp; done) | (simp; omega)); have hz2b := lt_size hb2 (b := BA) (by first | assumption | omega | (simp; done) | (simp; omega)); have hz2c := lt_size hb2 (b := BB) (by first | assumption | omega | (simp; done) | (simp; omega)); have hz2d := lt_size hb2 (b := NB) (by first | assumption | omega | (simp; done) | (simp; omega)))
            | (go_at_call 71; refine (hw _).mono ?_; rintro e w3 ⟨rfl, rfl⟩)
            | (go_at_call 70; refine (gneed_yes _).mono ?_; rintro e w3 ⟨rfl, rfl⟩)
            | (go_at_call 73; refine (htie _ (hbn.below hb2)).mono ?_; rintro e w4 ⟨v4, rfl, ho4, hb4⟩; obtain ⟨sa4, sc4, rfl, hsa4⟩ := owns_slice ho4; have hbt := BdsAt.of_owns ho4 (by rw [HU.out]; omega))
            | (go_at_call 95; refine (hchk _ _ _ hbt).mono ?_; rintro e w5 ⟨rfl, hb5⟩
               have hz2 := hb2.size
               simp only [World.size_alloc] at hz2
               have hz4 := hb4.size
               have hz5 := hb5.size
               have hB5 : Below w1.heap.size w1 w5 := ((((Below.refl _ w1).alloc (Nat.le_refl _) _).trans (hb2.mono (by simp))).trans (hb4.mono (by omega))).trans (hb5.mono (by omega))
               have gO := (hB5.block OB z4).trans hO
               have f1 := (SL.cells_of gO).2
               have y1 := (SL.cells_of gO).1 0
               have y2 := (SL.cells_of gO).1 1
               simp at y1 y2
               have hzO : OB < w5.heap.size := by omega))
          go_ret
          have hnO := own_ne (ho4.up hb5 (Nat.le_refl _)) gO (by decide)
          refine ⟨(fun h => by simp at h), fun _ => ⟨rfl, ((SL.Chg.of_below hB5).trans (.setCell _ (by simp) _)).trans (.setCell _ (by simp) _), _, SL.heap_set (SL.heap_set gO _) _, ?_⟩⟩
          rw [HU.out]
          exact SL.row_base (SL.row_set (SL.row_set (ho4.up hb5 (Nat.le_refl _)) hnO _) hnO _) (by omega)
        · obtain ⟨r1, r2⟩ := HR2.out hce
          subst r1
          subst r2
          simp only [hce, if_false] at hchk
          generalize chk p U = ce at *
          clear HR1 HR2
          go_enter Try.func101, Try.ntmps101
          go_wp2_with (first
            | (go_at_call 69; refine (Hpts.out _ _ _ _ hnew).mono ?_; rintro e w2 ⟨rfl, hb2⟩; obtain ⟨hc2, hf2⟩ := bcell hb2; have hz2a := lt_size hb2 (b := SB) (by first | assumption | omega | (simp; done) | (simp; omega)); have hz2b := lt_size hb2 (b := BA) (by first | assumption | omega | (simp; done) | (simp; omega)); have hz2c := lt_size hb2 (b := BB) (by first | assumption | omega | (simp; done) | (simp; omega)); have hz2d := lt_size hb2 (b := NB) (by first | assumption | omega | (simp; done) | (simp; omega)))
            | (go_at_call 71; refine (hw _).mono ?_; rintro e w3 ⟨rfl, rfl⟩)
            | (go_at_call 70; refine (gneed_yes _).mono ?_; rintro e w3 ⟨rfl, rfl⟩)
            | (go_at_call 73; refine (htie _ (hbn.below hb2)).mono ?_; rintro e w4 ⟨v4, rfl, ho4, hb4⟩; obtain ⟨sa4, sc4, rfl, hsa4⟩ := owns_slice ho4; have hbt := BdsAt.of_owns ho4 (by rw [HU.out]; omega))
            | (go_at_call 95; refine (hchk _ _ _ hbt).mono ?_; rintro e w5 ⟨rfl, hb5⟩
               have hz2 := hb2.size
               simp only [World.size_alloc] at hz2
               have hz4 := hb4.size
               have hz5 := hb5.size
               have hB5 : Below w1.heap.size w1 w5 := ((((Below.refl _ w1).alloc (Nat.le_refl _) _).trans (hb2.mono (by simp))).trans (hb4.mono (by omega))).trans (hb5.mono (by omega))
               have gO := (hB5.block OB z4).trans hO
               have f1 := (SL.cells_of gO).2
               have y1 := (SL.cells_of gO).1 0
               have y2 := (SL.cells_of gO).1 1
               simp at y1 y2
               have hzO : OB < w5.heap.size := by omega))
          go_ret
          exact ⟨(fun h => by simp at h), fun _ => ⟨rfl, ((SL.Chg.of_below hB5).trans (.setCell _ (by simp) _)).trans (.setCell _ (by simp) _), _, SL.heap_set (SL.heap_set gO _) _, World.ownsRow_nil _ _ _ _⟩⟩

theorem gTie_any (p : Int) (a : Option Addr) (len cap : Nat) (bs : List Bd) (x y n : Int) (w : World) (hb : BdsAt w a len cap bs) :
    Calls Try.prog 50 #[.agg #[.int .i64 p, .slice a len cap], .int .i64 x, .int .i64 y, .int .i64 n] w fun e w' => ∃ v, e = .returned (.tuple #[.agg #[.int .i64 (if tieE p bs x y n = 0 then p else 0), v], .int .i64 (tieE p bs x y n)]) ∧ Below w.heap.size w w' ∧
      w'.ownsRow w.heap.size 39 4 v (tieL p bs x y n).length (bcs (tieL p bs x y n)) := by
  have hmf := makeFunc_run
  generalize hw6 : (((((w.alloc (Obj.cells #[.int .i64 p, .slice a len cap] 24)).alloc (Obj.cells #[.int .i64 x] 3)).alloc (Obj.cells #[.int .i64 y] 3)).alloc (Obj.cells #[.int .i64 n] 3)).alloc (Obj.cells #[.int .i64 0, .slice none 0 0] 24)).alloc (Obj.cells #[.int .i64 0, .slice none 0 0] 24) = w6
  have hB6 : Below w.heap.size w w6 := by rw [← hw6]; ((repeat (first | assumption | exact Below.refl _ _ | refine Below.alloc ?_ ?_ _ | refine Below.setCell ?_ ?_ _ | refine Below.drew ?_ | refine belowN ?_ | refine Below.up ?_ (by assumption) ?_)) <;> (first | assumption | omega | (simp; done) | (simp; omega)))
  have z6 : w6.heap.size = w.heap.size + 6 := by rw [← hw6]; simp
  have c0 : w6.cell? ⟨w.heap.size, 0, none⟩ = some (.int .i64 p) := by rw [← hw6]; simp [go_sem]
  have c1 : w6.cell? ⟨w.heap.size, 1, none⟩ = some (.slice a len cap) := by rw [← hw6]; simp [go_sem]
  have c2 : w6.cell? ⟨w.heap.size + 1, 0, none⟩ = some (.int .i64 x) := by rw [← hw6]; simp [go_sem]
  have c3 : w6.cell? ⟨w.heap.size + 1 + 1, 0, none⟩ = some (.int .i64 y) := by rw [← hw6]; simp [go_sem]
  have c4 : w6.cell? ⟨w.heap.size + 1 + 1 + 1, 0, none⟩ = some (.int .i64 n) := by rw [← hw6]; simp [go_sem]
  have h4 : w6.heap[w.heap.size + 4]? = some (.cells #[.int .i64 0, .slice none 0 0] 24 (0, 0)) := by
    rw [← hw6, Below.heap_alloc _ _ _ (by simp)]
    have h := World.alloc_heap_new ((((w.alloc (Obj.cells #[.int .i64 p, .slice a len cap] 24)).alloc (Obj.cells #[.int .i64 x] 3)).alloc (Obj.cells #[.int .i64 y] 3)).alloc (Obj.cells #[.int .i64 n] 3)) (Obj.cells #[.int .i64 0, .slice none 0 0] 24)
    simp only [World.size_alloc] at h
    exact h
  have h5 : w6.heap[w.heap.size + 5]? = some (.cells #[.int .i64 0, .slice none 0 0] 24 (0, 0)) := by
    rw [← hw6]
    have h := World.alloc_heap_new (((((w.alloc (Obj.cells #[.int .i64 p, .slice a len cap] 24)).alloc (Obj.cells #[.int .i64 x] 3)).alloc (Obj.cells #[.int .i64 y] 3)).alloc (Obj.cells #[.int .i64 n] 3)).alloc (Obj.cells #[.int .i64 0, .slice none 0 0] 24)) (Obj.cells #[.int .i64 0, .slice none 0 0] 24)
    simp only [World.size_alloc] at h
    exact h
  have hA := gtried_any p a len cap bs 101 #[.pointer (some ⟨w.heap.size, 0, none⟩), .pointer (some ⟨w.heap.size + 1, 0, none⟩), .pointer (some ⟨w.heap.size + 1 + 1, 0, none⟩), .pointer (some ⟨w.heap.size + 1 + 1 + 1, 0, none⟩), .pointer (some ⟨w.heap.size + 1 + 1 + 1 + 1 + 1, 0, none⟩)] w6 (hb.below hB6)
    [w.heap.size + 5] (by simp; omega)
    (fun c w' => tieOk p x y n = true ∧ c = chk p (tieU bs x y n) ∧ tieOut p bs x y n (w.heap.size + 5) (w6.heap.size + 2) w') (fun w' => tieOk p x y n = false ∧ Below w6.heap.size w6 w')
    (fun c w1 w2 h hc => ⟨h.1, h.2.1, h.2.2.chg hc (by simp <;> omega) (by simp)⟩)
    (fun w1 w2 h hc => ⟨h.1, h.2.trans (hc.belowE h.2.size (by simp <;> omega))⟩) (enters_of Try.func101 (by kernel_rfl) rfl)
    (fun h0 w1 hb1 hz1 => by
      have hc := (bcell hb1).1
      have hB1 : Below w.heap.size w w1 := hB6.trans (hb1.mono (by omega))
      refine (gTie1_any p a len cap bs x y n _ _ _ _ _ w1 (Sys.of_chk h0) (chk_400 h0) (hb.below hB1) ((hc _ _ (by omega)).trans c0) ((hc _ _ (by omega)).trans c1) ((hc _ _ (by omega)).trans c2) ((hc _ _ (by omega)).trans c3) ((hc _ _ (by omega)).trans c4) ((hb1.block _ (by omega)).trans h5)).mono ?_
      rintro e w' ⟨e1, e2⟩
      cases q1 : tieOk p x y n with
      | false =>
        obtain ⟨r1, r2⟩ := e1 q1
        exact ⟨.of_below r2, .inr ⟨r1, rfl, hb1.trans (r2.mono hb1.size)⟩⟩
      | true =>
        obtain ⟨r1, r2, v, r3, r4⟩ := e2 q1
        exact ⟨r2, .inl ⟨_, r1, rfl, rfl, v, r3, SL.row_base r4 hz1⟩⟩)
  have hcell : ∀ (c : Int) (w5 : World), SL.Chg [w.heap.size + 5] w6 w5 → (chk p bs ≠ 0 → c = chk p bs ∧ Below w6.heap.size w6 w5) → (chk p bs = 0 → (tieOk p x y n = true ∧ c = chk p (tieU bs x y n) ∧ tieOut p bs x y n (w.heap.size + 5) (w6.heap.size + 2) w5) ∨ (c = 1 ∧ tieOk p x y n = false ∧ Below w6.heap.size w6 w5)) →
      c = tieE p bs x y n ∧ Below w.heap.size w w5 ∧ w5.heap[w.heap.size + 4]? = some (.cells #[.int .i64 0, .slice none 0 0] 24 (0, 0)) ∧ ∃ v, w5.heap[w.heap.size + 5]? = some (.cells #[.int .i64 (if tieE p bs x y n = 0 then p else 0), v] 24 (0, 0)) ∧ w5.ownsRow w.heap.size 39 4 v (tieL p bs x y n).length (bcs (tieL p bs x y n)) := fun c w5 hC h1 h2 => by
    have k4 := (hC.block (w.heap.size + 4) (by omega) (by simp)).trans h4
    have kB : Below w.heap.size w w5 := hB6.trans (hC.belowE (by omega) (by simp))
    have hno : tieE p bs x y n ≠ 0 → Below w6.heap.size w6 w5 → ∃ v, w5.heap[w.heap.size + 5]? = some (.cells #[.int .i64 (if tieE p bs x y n = 0 then p else 0), v] 24 (0, 0)) ∧ w5.ownsRow w.heap.size 39 4 v (tieL p bs x y n).length (bcs (tieL p bs x y n)) := fun h0 hb => by
      refine ⟨_, by rw [if_neg h0]; exact (hb.block _ (by omega)).trans h5, ?_⟩
      unfold tieL
      rw [if_neg h0]
      exact World.ownsRow_nil _ _ _ _
    by_cases h0 : chk p bs = 0
    · rcases h2 h0 with ⟨ko, rfl, v, r1, r2⟩ | ⟨rfl, ko, k2⟩
      · have hE : tieE p bs x y n = chk p (tieU bs x y n) := by unfold tieE tieU; rw [if_pos h0, if_pos ko]
        refine ⟨hE.symm, kB, k4, v, ?_, ?_⟩
        · rw [hE]; exact r1
        · have hL : tieL p bs x y n = tieM p bs x y n := by unfold tieL; rw [hE]; rfl
          rw [hL]
          exact SL.row_base r2 (by omega)
      · have hE : tieE p bs x y n = 1 := by unfold tieE; rw [if_pos h0, ko]; rfl
        exact ⟨hE.symm, kB, k4, hno (by omega) k2⟩
    · obtain ⟨rfl, k2⟩ := h1 h0
      have hE : tieE p bs x y n = chk p bs := by unfold tieE; rw [if_neg h0]
      exact ⟨hE.symm, kB, k4, hno (by omega) k2⟩
  subst hw6
  obtain ⟨R, hR⟩ : ∃ R, (if tieE p bs x y n = 0 then p else 0) = R := ⟨_, rfl⟩
  rw [hR] at hcell ⊢
  clear hR
  generalize tieL p bs x y n = L at *
  generalize tieE p bs x y n = c at *
  go_enter Try.func50, Try.ntmps50
  go_wp2_with fail
  refine hA.mono ?_
  rintro e w5 ⟨c', rfl, hC, h1, h2⟩
  obtain ⟨rfl, hB5, k4, v, k5, ho⟩ := hcell c' w5 hC h1 h2
  obtain ⟨a4, f4⟩ := SL.cells_of k4
  obtain ⟨a5, f5⟩ := SL.cells_of k5
  have y40 := a4 0
  have y41 := a4 1
  have y50 := a5 0
  have y51 := a5 1
  simp at y40 y41 y50 y51
  have hn4 := own_ne ho k4 (by decide)
  have s4 := (Array.getElem?_eq_some_iff.1 k4).1
  clear hA hcell h1 h2 hC a4 a5
  obtain ⟨sa, sc, rfl, _⟩ := owns_slice ho
  go_wp2
  refine bodyPost_ret (v := .tuple #[.agg #[.int .i64 R, .slice sa L.length sc], .int .i64 c']) (by simp [results, Try.results50, go_sem, *]) rfl ⟨_, rfl, (hB5.setCell (by simp; omega) _).setCell (by simp; omega) _, SL.row_set (SL.row_set ho hn4 _) hn4 _⟩
end Go.Proofs.Ytlkcfohmoeadbaa

/-
  The law GaugeTies, walked: it returns true.
-/
namespace Go.Proofs.Ytlkcfohmoeadbaa
open Go.RowKit Go.Shelf
set_option maxHeartbeats 4000000
set_option maxRecDepth 100000

theorem bsdL_small {p q : Int} {bs T : List Bd} : (bsdL p bs q T).length ≤ 1000 := by
  by_cases h : bsdE p bs q T = 0
  · unfold bsdL
    rw [if_pos h]
    unfold bsdE at h
    by_cases h0 : chk p bs = 0
    · rw [if_pos h0] at h
      by_cases h2 : chk q T = 0
      · have := chk_400 h0
        have := chk_400 h2
        simp [shf]; omega
      · rw [if_neg h2] at h; exact absurd h h2
    · rw [if_neg h0] at h; exact absurd h h0
  · unfold bsdL
    rw [if_neg h]; simp
theorem tieL_small {p x y n : Int} {bs : List Bd} : (tieL p bs x y n).length ≤ 1000 := by
  by_cases h : tieE p bs x y n = 0
  · unfold tieL
    rw [if_pos h]
    unfold tieE at h
    by_cases h0 : chk p bs = 0
    · have := chk_400 h0
      simp; omega
    · rw [if_neg h0] at h; exact absurd h h0
  · unfold tieL
    rw [if_neg h]; simp

theorem law_ties (p : Int) (a : Option Addr) (n cap : Nat) (bs : List Bd) (q : Int) (a2 : Option Addr) (n2 cap2 : Nat) (T : List Bd) (x y m : Int) (w : World) (hb : BdsAt w a n cap bs) (hn : n ≤ 140737488351232) (hb2 : BdsAt w a2 n2 cap2 T) (hn2 : n2 ≤ 140737488351232) :
    Calls Try.prog 13 #[.agg #[.int .i64 p, .slice a n cap], .agg #[.int .i64 q, .slice a2 n2 cap2], .int .i64 x, .int .i64 y, .int .i64 m] w fun e w' => e = .returned (.bool true) ∧ Below w.heap.size w w' := by
  have hB2 : Below w.heap.size w ((w.alloc (Obj.cells #[.int .i64 p, .slice a n cap] 24)).alloc (Obj.cells #[.int .i64 q, .slice a2 n2 cap2] 24)) := by ((repeat (first | assumption | exact Below.refl _ _ | refine Below.alloc ?_ ?_ _ | refine Below.setCell ?_ ?_ _ | refine Below.drew ?_ | refine belowN ?_ | refine Below.up ?_ (by assumption) ?_)) <;> (first | assumption | omega | (simp; done) | (simp; omega)))
  have hbx := hb.below hB2
  have hbx2 := hb2.below hB2
  have hW := fun w1 => lwide_any p a n cap w1 hn
  have hW2 := fun w1 => lwide_any q a2 n2 cap2 w1 hn2
  by_cases hn4 : n ≤ 403
  · have h1 : decide (n ≤ 403) = true := by simpa using hn4
    simp only [h1] at hW
    by_cases hn5 : n2 ≤ 403
    · have h2 : decide (n2 ≤ 403) = true := by simpa using hn5
      simp only [h2] at hW2
      have hA := fun w1 (h : BdsAt w1 a n cap bs) (k : BdsAt w1 a2 n2 cap2 T) => gBeside_any p a n cap bs q a2 n2 cap2 T w1 h k
      have hB := fun w1 (h : BdsAt w1 a n cap bs) (k : BdsAt w1 a2 n2 cap2 T) => rBeside_any p a n cap bs q a2 n2 cap2 T w1 h k
      have hC := fun w1 (h : BdsAt w1 a n cap bs) => gTie_any p a n cap bs x y m w1 h
      have hD := fun w1 (h : BdsAt w1 a n cap bs) => rTie_any p a n cap bs x y m w1 h
      have l1 := bsdL_small (p := p) (q := q) (bs := bs) (T := T)
      have l2 := tieL_small (p := p) (x := x) (y := y) (n := m) (bs := bs)
      generalize (if bsdE p bs q T = 0 then p + q else 0) = R1 at *
      generalize (if tieE p bs x y m = 0 then p else 0) = R2 at *
      generalize bsdE p bs q T = E1 at *
      generalize tieE p bs x y m = E2 at *
      generalize bsdL p bs q T = L1 at *
      generalize tieL p bs x y m = L2 at *
      have n1 : (E1 == E1) = true := by simp
      have n2' : (E2 == E2) = true := by simp
      clear hn4 hn hn5 hn2
      go_enter Try.func13, Try.ntmps13
      go_wp2_with (first
        | (go_at_call 20; have hg := hb0; clear hg; refine (hW2 _).mono ?_; rintro e w1 ⟨rfl, hb1⟩; obtain ⟨hc1, hf1⟩ := bcell hb1; have s1a := lt_size hb1 (b := w.heap.size) (by first | assumption | omega | (simp; done) | (simp; omega)); have s1b := lt_size hb1 (b := w.heap.size + 1) (by first | assumption | omega | (simp; done) | (simp; omega)))
        | (go_at_call 20; refine (hW _).mono ?_; rintro e w0 ⟨rfl, hb0⟩; obtain ⟨hc0, hf0⟩ := bcell hb0; have hz0a := lt_size hb0 (b := w.heap.size) (by first | assumption | omega | (simp; done) | (simp; omega)); have hz0b := lt_size hb0 (b := w.heap.size+1) (by first | assumption | omega | (simp; done) | (simp; omega)))
        | (go_at_call 44; refine (hA _ ((hbx.below hb0).below hb1) ((hbx2.below hb0).below hb1)).mono ?_; rintro e w2 ⟨v2, rfl, hb2', ho2⟩; obtain ⟨a22, c22, rfl, _⟩ := owns_slice ho2; obtain ⟨hc2, hf2⟩ := bcell hb2'; have s2a := lt_size hb2' (b := w.heap.size) (by first | assumption | omega | (simp; done) | (simp; omega)); have s2b := lt_size hb2' (b := w.heap.size + 1) (by first | assumption | omega | (simp; done) | (simp; omega))
           have hbs2 := ((hbx.below hb0).below hb1).below hb2'; have hbt2 := ((hbx2.below hb0).below hb1).below hb2'; have hbr2 := BdsAt.of_owns ho2 (by omega))
        | (go_at_call 47; refine (hB _ (hbs2.below ((Below.refl _ _).alloc (Nat.le_refl _) _)) (hbt2.below ((Below.refl _ _).alloc (Nat.le_refl _) _))).mono ?_; rintro e w3 ⟨v3, rfl, hb3, ho3⟩; obtain ⟨a3, c3, rfl, _⟩ := owns_slice ho3; obtain ⟨hc3, hf3⟩ := bcell hb3; have s3a := lt_size hb3 (b := w.heap.size) (by first | assumption | omega | (simp; done) | (simp; omega)); have s3b := lt_size hb3 (b := w2.heap.size) (by first | assumption | omega | (simp; done) | (simp; omega))
           have hbs3 := (hbs2.below ((Below.refl _ _).alloc (Nat.le_refl _) _)).below hb3; have hbr3 := BdsAt.of_owns ho3 (by omega); have hbr23 := (hbr2.below ((Below.refl _ _).alloc (Nat.le_refl _) _)).below hb3)
        | (go_at_call 50; refine (hC _ (hbs3.below ((Below.refl _ _).alloc (Nat.le_refl _) _))).mono ?_; rintro e w4 ⟨v4, rfl, hb4, ho4⟩; obtain ⟨a4, c4, rfl, _⟩ := owns_slice ho4; obtain ⟨hc4, hf4⟩ := bcell hb4; have s4a := lt_size hb4 (b := w.heap.size) (by first | assumption | omega | (simp; done) | (simp; omega)); have s4b := lt_size hb4 (b := w2.heap.size) (by first | assumption | omega | (simp; done) | (simp; omega)); have s4c := lt_size hb4 (b := w3.heap.size) (by first | assumption | omega | (simp; done) | (simp; omega))
           have hbs4 := (hbs3.below ((Below.refl _ _).alloc (Nat.le_refl _) _)).below hb4; have hbr4 := BdsAt.of_owns ho4 (by omega); have hbr24 := (hbr23.below ((Below.refl _ _).alloc (Nat.le_refl _) _)).below hb4; have hbr34 := (hbr3.below ((Below.refl _ _).alloc (Nat.le_refl _) _)).below hb4)
        | (go_at_call 51; refine (hD _ (hbs4.below ((Below.refl _ _).alloc (Nat.le_refl _) _))).mono ?_; rintro e w5 ⟨v5, rfl, hb5, ho5⟩; obtain ⟨a5, c5, rfl, _⟩ := owns_slice ho5; obtain ⟨hc5, hf5⟩ := bcell hb5; have s5b := lt_size hb5 (b := w2.heap.size) (by first | assumption | omega | (simp; done) | (simp; omega)); have s5c := lt_size hb5 (b := w3.heap.size) (by first | assumption | omega | (simp; done) | (simp; omega)); have s5d := lt_size hb5 (b := w4.heap.size) (by first | assumption | omega | (simp; done) | (simp; omega))
           have hbr5 := BdsAt.of_owns ho5 (by omega); have hbr25 := (hbr24.below ((Below.refl _ _).alloc (Nat.le_refl _) _)).below hb5; have hbr35 := (hbr34.below ((Below.refl _ _).alloc (Nat.le_refl _) _)).below hb5; have hbr45 := (hbr4.below ((Below.refl _ _).alloc (Nat.le_refl _) _)).below hb5)
        | (go_at_call 21; refine (lalive_any _).mono ?_; rintro e w6 ⟨rfl, hb6⟩; obtain ⟨hc6, hf6⟩ := bcell hb6; have s6b := lt_size hb6 (b := w2.heap.size) (by first | assumption | omega | (simp; done) | (simp; omega)); have s6c := lt_size hb6 (b := w3.heap.size) (by first | assumption | omega | (simp; done) | (simp; omega)); have s6d := lt_size hb6 (b := w4.heap.size) (by first | assumption | omega | (simp; done) | (simp; omega)); have s6e := lt_size hb6 (b := w5.heap.size) (by first | assumption | omega | (simp; done) | (simp; omega))
           have hbr26 := (hbr25.below ((Below.refl _ _).alloc (Nat.le_refl _) _)).below hb6; have hbr36 := (hbr35.below ((Below.refl _ _).alloc (Nat.le_refl _) _)).below hb6; have hbr46 := (hbr45.below ((Below.refl _ _).alloc (Nat.le_refl _) _)).below hb6; have hbr56 := (hbr5.below ((Below.refl _ _).alloc (Nat.le_refl _) _)).below hb6)
        | (go_at_call 48; have hg := hb7; clear hg; refine (rsamesys_yes _ _ _ _ _ _ _ _ _ (hbr46.below hb7) (hbr56.below hb7)).mono ?_; rintro e w8 ⟨rfl, hb8⟩)
        | (go_at_call 48; refine (rsamesys_yes _ _ _ _ _ _ _ _ _ hbr26 hbr36).mono ?_; rintro e w7 ⟨rfl, hb7⟩; obtain ⟨hc7, hf7⟩ := bcell hb7; have s7d := lt_size hb7 (b := w4.heap.size) (by first | assumption | omega | (simp; done) | (simp; omega)); have s7e := lt_size hb7 (b := w5.heap.size) (by first | assumption | omega | (simp; done) | (simp; omega))))
      go_ret
      have z0 := hb0.size
      have z1 := hb1.size
      have z2 := hb2'.size
      have z3 := hb3.size
      have z4 := hb4.size
      have z5 := hb5.size
      have z6 := hb6.size
      have z7 := hb7.size
      simp only [World.size_alloc] at z0 z3 z4 z5 z6
      refine ⟨rfl, ?_⟩
      have q2 : Below w.heap.size w w2 := ((hB2.trans (hb0.mono (by simp; omega))).trans (hb1.mono (by omega))).trans (hb2'.mono (by omega))
      have q3 : Below w.heap.size w w3 := (q2.alloc (by omega) _).trans (hb3.mono (by simp; omega))
      have q4 : Below w.heap.size w w4 := (q3.alloc (by omega) _).trans (hb4.mono (by simp; omega))
      have q5 : Below w.heap.size w w5 := (q4.alloc (by omega) _).trans (hb5.mono (by simp; omega))
      have q6 : Below w.heap.size w w6 := (q5.alloc (by omega) _).trans (hb6.mono (by simp; omega))
      exact (q6.trans (hb7.mono (by omega))).trans (hb8.mono (by omega))
    · have h2 : decide (n2 ≤ 403) = false := by simpa using hn5
      simp only [h2] at hW2
      go_enter Try.func13, Try.ntmps13
      go_wp2_with (first
        | (go_at_call 20; have hg := hb0; clear hg; refine (hW2 _).mono ?_; rintro e w1 ⟨rfl, hb1⟩; obtain ⟨hc1, hf1⟩ := bcell hb1)
        | (go_at_call 20; refine (hW _).mono ?_; rintro e w0 ⟨rfl, hb0⟩; obtain ⟨hc0, hf0⟩ := bcell hb0; have hz0a := lt_size hb0 (b := w.heap.size) (by first | assumption | omega | (simp; done) | (simp; omega)); have hz0b := lt_size hb0 (b := w.heap.size+1) (by first | assumption | omega | (simp; done) | (simp; omega)))
        | (go_at_call 21; refine (lalive_any _).mono ?_; rintro e w3 ⟨rfl, hb3⟩; obtain ⟨hc3, hf3⟩ := bcell hb3))
      go_ret
      have z0 := hb0.size
      have z1 := hb1.size
      simp only [World.size_alloc] at z0
      exact ⟨rfl, ((hB2.trans (hb0.mono (by simp; omega))).trans (hb1.mono (by omega))).trans (hb3.mono (by omega))⟩
  · have h1 : decide (n ≤ 403) = false := by simpa using hn4
    simp only [h1] at hW
    go_enter Try.func13, Try.ntmps13
    go_wp2_with (first
      | (go_at_call 20; refine (hW _).mono ?_; rintro e w0 ⟨rfl, hb0⟩; obtain ⟨hc0, hf0⟩ := bcell hb0; have hz0a := lt_size hb0 (b := w.heap.size) (by first | assumption | omega | (simp; done) | (simp; omega)))
      | (go_at_call 21; refine (lalive_any _).mono ?_; rintro e w3 ⟨rfl, hb3⟩; obtain ⟨hc3, hf3⟩ := bcell hb3))
    go_ret
    have z0 := hb0.size
    simp only [World.size_alloc] at z0
    exact ⟨rfl, (hB2.trans (hb0.mono (by simp; omega))).trans (hb3.mono (by omega))⟩
end Go.Proofs.Ytlkcfohmoeadbaa
