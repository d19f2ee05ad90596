/-
  Lemmas and walks for the laws on bounds and their sums; the parts' own heads say what each proves, for every input.
-/
import Derived.Test.YtlkcfohmoeadbaaPk22
import Derived.Test.YtlkcfohmoeadbaaPk32
import Derived.Test.YtlkcfohmoeadbaaPk33
import Derived.Test.YtlkcfohmoeadbaaPk34
import Derived.Test.YtlkcfohmoeadbaaPk35
import Derived.Test.YtlkcfohmoeadbaaPk24
import Derived.Test.YtlkcfohmoeadbaaPk23
set_option linter.unusedSimpArgs false
set_option linter.unusedVariables false
set_option linter.unnecessarySimpa false
/-
  Chains of worlds that leave alone what lay below the first one's edge; helpers of the laws' walks.
-/
namespace Go.Proofs.Ytlkcfohmoeadbaa
open Go.RowKit

theorem _root_.Go.RowKit.Below.ch {a b c : World} (h : Below a.heap.size a b) (h2 : Below b.heap.size b c) : Below a.heap.size a c := h.trans (h2.mono h.size)
theorem _root_.Go.RowKit.Below.al {a b : World} (h : Below a.heap.size a b) (o : Obj) : Below a.heap.size a (b.alloc o) := h.alloc h.size o
theorem own_ch {w w' : World} {v : Value} {xs : List Int} (h : w.ownsRow w.heap.size 3 1 v xs.length (xs.map (.int .i64))) : ∃ a c, v = .slice a xs.length c := by
  obtain ⟨a, c, rfl, _⟩ := owns_slice h
  exact ⟨a, c, rfl⟩
end Go.Proofs.Ytlkcfohmoeadbaa

/-
  The law GaugeEither, walked: it returns true.
-/
namespace Go.Proofs.Ytlkcfohmoeadbaa
open Go.RowKit Go.Shelf
set_option maxHeartbeats 4000000
set_option maxRecDepth 100000

theorem law_either (p : Int) (a : Option Addr) (n cap : Nat) (bs : List Bd) (a1 : Option Addr) (n1 c1 : Nat) (xs : List Int) (a2 : Option Addr) (n2 c2 : Nat) (ls : List Int) (w : World) (hb : BdsAt w a n cap bs) (hn : n ≤ 140737488351232) (hx : IntsAt w a1 n1 c1 xs) (hl : IntsAt w a2 n2 c2 ls) :
    Calls Try.prog 19 #[.agg #[.int .i64 p, .slice a n cap], .slice a1 n1 c1, .slice a2 n2 c2] w fun e w' => e = .returned (.bool true) ∧ Below w.heap.size w w' := by
  have hW := fun w1 => lwide_any p a n cap w1 hn
  have s1 : n1 ≤ 140737488351232 := by have := hx.len; have := hx.small; omega
  have s2 : n2 ≤ 140737488351232 := by have := hl.len; have := hl.small; omega
  by_cases hn4 : n ≤ 403
  · have h1 : decide (n ≤ 403) = true := by simpa using hn4
    simp only [h1] at hW
    by_cases k1 : (n1 : Int) ≤ 70
    · by_cases k2 : (n2 : Int) ≤ 70
      · have hls : ls.length ≤ 1000 := by have := hl.len; omega
        by_cases hc : chk p bs = 0
        · have hsol := fun w1 (h : Below w.heap.size w w1) => gSolve_any p a n cap bs w1 (hb.below h)
          have hcir := fun w1 (h : Below w.heap.size w w1) => gCircle_any p a n cap bs w1 (hb.below h)
          cases hok : okB p bs with
          | true =>
            have hcr := (crcB_okB hc).1 hok
            have hcB : crcB p bs = false := by unfold crcB; simp [hcr]
            have hcL : circL p bs = [] := by unfold circL; rw [if_pos hc, hcr]
            simp only [hc, hok, decide_true, Bool.and_self, hcB, hcL, not_true_eq_false, true_and, forall_const, false_implies] at hsol hcir
            have hsz : (solR p bs).length = p.toNat := by have hS := Sys.of_chk hc; exact solR_len _ ⟨hS.p1, hS.p2⟩
            obtain ⟨e1, e2⟩ := solR_kept hc hok
            have hke := fun w1 (h : Below w.heap.size w w1) b d (h2 : IntsAt w1 b p.toNat d (solR p bs)) => gKeeps_any p a n cap bs b _ d (solR p bs) w1 (hb.below h) h2
            have hcc := fun w1 (h : Below w.heap.size w w1) => gCheckCircle_any p a n cap bs a2 n2 c2 ls w1 (hb.below h) (hl.below h) hls
            simp only [e1, e2, decide_true, Bool.not_false, Bool.and_self] at hke
            simp only [hc, ccOk_no (Sys.of_chk hc) hok, Bool.and_false] at hcc
            have hss : (solR p bs).length ≤ 1000 := by have := (Sys.of_chk hc).p2; omega
            generalize solR p bs = S at *
            clear hn4 hn h1 hcr hcB hcL e1 e2 hok hc
            go_enter Try.func19, Try.ntmps19
            go_wp2_with (first
              | (go_at_call 20; refine (hW _).mono ?_; rintro e w0 ⟨rfl, hb0⟩; obtain ⟨hc0, hf0⟩ := bcell hb0; have hz0a := lt_size hb0 (b := w.heap.size) (by first | assumption | omega | (simp; done) | (simp; omega)))
              | (go_at_call 22; refine (hsol _ (by ((repeat (first | exact Below.refl _ _ | assumption | refine Below.al ?_ _ | refine Below.ch ?_ (by assumption) | refine belowN ?_))))).mono ?_; rintro e w1 ⟨v1, rfl, hb1, ho1⟩; obtain ⟨hc1, hf1⟩ := bcell hb1; have s3 := lt_size hb1 (b := w.heap.size) (by first | assumption | omega | (simp; done) | (simp; omega)); obtain ⟨sa, sc, rfl, _⟩ := owns_slice ho1)
              | (go_at_call 57; refine (hcir _ (by ((repeat (first | exact Below.refl _ _ | assumption | refine Below.al ?_ _ | refine Below.ch ?_ (by assumption) | refine belowN ?_))))).mono ?_; rintro e w2 ⟨v2, rfl, hb2, ho2⟩; obtain ⟨hc2, hf2⟩ := bcell hb2; have s4 := lt_size hb2 (b := w.heap.size) (by first | assumption | omega | (simp; done) | (simp; omega)); obtain ⟨ta, tc, rfl, _⟩ := owns_slice ho2)
              | (go_at_call 49; refine (hke _ (by ((repeat (first | exact Below.refl _ _ | assumption | refine Below.al ?_ _ | refine Below.ch ?_ (by assumption) | refine belowN ?_)))) _ _ ((IntsAt.of_owns ho1 (by omega)).below (by ((repeat (first | exact Below.refl _ _ | assumption | refine Below.al ?_ _ | refine Below.ch ?_ (by assumption) | refine belowN ?_)))))).mono ?_; rintro e w3 ⟨rfl, hb3⟩; obtain ⟨hc3, hf3⟩ := bcell hb3; have s5 := lt_size hb3 (b := w.heap.size) (by first | assumption | omega | (simp; done) | (simp; omega)))
              | (go_at_call 55; refine (hcc _ (by ((repeat (first | exact Below.refl _ _ | assumption | refine Below.al ?_ _ | refine Below.ch ?_ (by assumption) | refine belowN ?_))))).mono ?_; rintro e w4 ⟨rfl, hb4⟩)
              | (go_at_call 21; refine (lalive_any _).mono ?_; rintro e w9 ⟨rfl, hb9⟩; obtain ⟨hc9, hf9⟩ := bcell hb9))
            go_ret
            exact ⟨rfl, by ((repeat (first | exact Below.refl _ _ | assumption | refine Below.al ?_ _ | refine Below.ch ?_ (by assumption) | refine belowN ?_)))⟩
          | false =>
            have hne : crcL p bs ≠ [] := fun h => by rw [(crcB_okB hc).2 h] at hok; cases hok
            have hcB : crcB p bs = true := by unfold crcB; simp [hc, hne]
            have hcL : circL p bs = crcL p bs := by unfold circL; rw [if_pos hc]
            simp only [hc, hok, Bool.and_false, hcB, hcL, Bool.false_eq_true, and_false, not_false_eq_true, forall_const, false_implies, imp_self, and_true] at hsol hcir
            have hkn : (decide (brE p bs xs = 0) && !brH p bs xs) = false := by
              rw [Bool.eq_false_iff]
              intro h
              have hk := kept_iff.1 h
              rw [okB_of_keeps hc hk.2.2.2] at hok
              cases hok
            have hke := fun w1 (h : Below w.heap.size w w1) => gKeeps_any p a n cap bs a1 n1 c1 xs w1 (hb.below h) (hx.below h)
            have hss := crcL_short hc
            have hcc := fun w1 (h : Below w.heap.size w w1) b d (h2 : IntsAt w1 b (crcL p bs).length d (crcL p bs)) => gCheckCircle_any p a n cap bs b _ d (crcL p bs) w1 (hb.below h) h2 (by omega)
            simp only [hc, ccOk_crcL hc hne, decide_true, Bool.and_self] at hcc
            simp only [hkn] at hke
            have hbe := brE_cases (xs := xs) hc
            generalize crcL p bs = S at *
            generalize brE p bs xs = E at *
            clear hn4 hn h1 hcB hcL hok hc hkn hne
            rcases hbe with rfl | rfl
            all_goals
              go_enter Try.func19, Try.ntmps19
              go_wp2_with (first
                | (go_at_call 20; refine (hW _).mono ?_; rintro e w0 ⟨rfl, hb0⟩; obtain ⟨hc0, hf0⟩ := bcell hb0; have hz0a := lt_size hb0 (b := w.heap.size) (by first | assumption | omega | (simp; done) | (simp; omega)))
                | (go_at_call 22; refine (hsol _ (by ((repeat (first | exact Below.refl _ _ | assumption | refine Below.al ?_ _ | refine Below.ch ?_ (by assumption) | refine belowN ?_))))).mono ?_; rintro e w1 ⟨v1, rfl, hb1, rfl⟩; obtain ⟨hc1, hf1⟩ := bcell hb1; have s3 := lt_size hb1 (b := w.heap.size) (by first | assumption | omega | (simp; done) | (simp; omega)))
                | (go_at_call 57; refine (hcir _ (by ((repeat (first | exact Below.refl _ _ | assumption | refine Below.al ?_ _ | refine Below.ch ?_ (by assumption) | refine belowN ?_))))).mono ?_; rintro e w2 ⟨v2, rfl, hb2, ho2⟩; obtain ⟨hc2, hf2⟩ := bcell hb2; have s4 := lt_size hb2 (b := w.heap.size) (by first | assumption | omega | (simp; done) | (simp; omega)); obtain ⟨ta, tc, rfl, _⟩ := owns_slice ho2)
                | (go_at_call 55; refine (hcc _ (by ((repeat (first | exact Below.refl _ _ | assumption | refine Below.al ?_ _ | refine Below.ch ?_ (by assumption) | refine belowN ?_)))) _ _ ((IntsAt.of_owns ho2 (by omega)).below (by ((repeat (first | exact Below.refl _ _ | assumption | refine Below.al ?_ _ | refine Below.ch ?_ (by assumption) | refine belowN ?_)))))).mono ?_; rintro e w3 ⟨rfl, hb3⟩; obtain ⟨hc3, hf3⟩ := bcell hb3; have s5 := lt_size hb3 (b := w.heap.size) (by first | assumption | omega | (simp; done) | (simp; omega)))
                | (go_at_call 49; refine (hke _ (by ((repeat (first | exact Below.refl _ _ | assumption | refine Below.al ?_ _ | refine Below.ch ?_ (by assumption) | refine belowN ?_))))).mono ?_; rintro e w4 ⟨rfl, hb4⟩)
                | (go_at_call 21; refine (lalive_any _).mono ?_; rintro e w9 ⟨rfl, hb9⟩; obtain ⟨hc9, hf9⟩ := bcell hb9))
              go_ret
              exact ⟨rfl, by ((repeat (first | exact Below.refl _ _ | assumption | refine Below.al ?_ _ | refine Below.ch ?_ (by assumption) | refine belowN ?_)))⟩
        · have hsol := fun w1 (h : Below w.heap.size w w1) => gSolve_any p a n cap bs w1 (hb.below h)
          have hcir := fun w1 (h : Below w.heap.size w w1) => gCircle_any p a n cap bs w1 (hb.below h)
          have hcB : crcB p bs = false := by unfold crcB; simp [hc]
          have hcL : circL p bs = [] := by unfold circL; rw [if_neg hc]
          simp only [hc, decide_false, Bool.false_and, hcB, hcL, false_and, not_false_eq_true, forall_const, false_implies, and_true] at hsol hcir
          have hcn : (chk p bs != 0) = true := by simpa using hc
          have hcs : (chk p bs != chk p bs) = false := by simp
          have hce : (chk p bs == chk p bs) = true := by simp
          generalize chk p bs = E at *
          clear hn4 hn h1 hcB hcL hc
          go_enter Try.func19, Try.ntmps19
          go_wp2_with (first
            | (go_at_call 20; refine (hW _).mono ?_; rintro e w0 ⟨rfl, hb0⟩; obtain ⟨hc0, hf0⟩ := bcell hb0; have hz0a := lt_size hb0 (b := w.heap.size) (by first | assumption | omega | (simp; done) | (simp; omega)))
            | (go_at_call 22; refine (hsol _ (by ((repeat (first | exact Below.refl _ _ | assumption | refine Below.al ?_ _ | refine Below.ch ?_ (by assumption) | refine belowN ?_))))).mono ?_; rintro e w1 ⟨v1, rfl, hb1, rfl⟩; obtain ⟨hc1, hf1⟩ := bcell hb1; have s3 := lt_size hb1 (b := w.heap.size) (by first | assumption | omega | (simp; done) | (simp; omega)))
            | (go_at_call 57; refine (hcir _ (by ((repeat (first | exact Below.refl _ _ | assumption | refine Below.al ?_ _ | refine Below.ch ?_ (by assumption) | refine belowN ?_))))).mono ?_; rintro e w2 ⟨v2, rfl, hb2, ho2⟩; obtain ⟨hc2, hf2⟩ := bcell hb2; have s4 := lt_size hb2 (b := w.heap.size) (by first | assumption | omega | (simp; done) | (simp; omega)); obtain ⟨ta, tc, rfl, _⟩ := owns_slice ho2)
            | (go_at_call 21; refine (lalive_any _).mono ?_; rintro e w9 ⟨rfl, hb9⟩; obtain ⟨hc9, hf9⟩ := bcell hb9))
          go_ret
          exact ⟨rfl, by ((repeat (first | exact Below.refl _ _ | assumption | refine Below.al ?_ _ | refine Below.ch ?_ (by assumption) | refine belowN ?_)))⟩
      · go_enter Try.func19, Try.ntmps19
        go_wp2_with (first
          | (go_at_call 20; refine (hW _).mono ?_; rintro e w0 ⟨rfl, hb0⟩; obtain ⟨hc0, hf0⟩ := bcell hb0; have hz0a := lt_size hb0 (b := w.heap.size) (by first | assumption | omega | (simp; done) | (simp; omega)))
          | (go_at_call 21; refine (lalive_any _).mono ?_; rintro e w9 ⟨rfl, hb9⟩; obtain ⟨hc9, hf9⟩ := bcell hb9))
        go_ret
        exact ⟨rfl, by ((repeat (first | exact Below.refl _ _ | assumption | refine Below.al ?_ _ | refine Below.ch ?_ (by assumption) | refine belowN ?_)))⟩
    · go_enter Try.func19, Try.ntmps19
      go_wp2_with (first
        | (go_at_call 20; refine (hW _).mono ?_; rintro e w0 ⟨rfl, hb0⟩; obtain ⟨hc0, hf0⟩ := bcell hb0; have hz0a := lt_size hb0 (b := w.heap.size) (by first | assumption | omega | (simp; done) | (simp; omega)))
        | (go_at_call 21; refine (lalive_any _).mono ?_; rintro e w9 ⟨rfl, hb9⟩; obtain ⟨hc9, hf9⟩ := bcell hb9))
      go_ret
      exact ⟨rfl, by ((repeat (first | exact Below.refl _ _ | assumption | refine Below.al ?_ _ | refine Below.ch ?_ (by assumption) | refine belowN ?_)))⟩
  · have h1 : decide (n ≤ 403) = false := by simpa using hn4
    simp only [h1] at hW
    go_enter Try.func19, Try.ntmps19
    go_wp2_with (first
      | (go_at_call 20; refine (hW _).mono ?_; rintro e w0 ⟨rfl, hb0⟩; obtain ⟨hc0, hf0⟩ := bcell hb0; have hz0a := lt_size hb0 (b := w.heap.size) (by first | assumption | omega | (simp; done) | (simp; omega)))
      | (go_at_call 21; refine (lalive_any _).mono ?_; rintro e w9 ⟨rfl, hb9⟩; obtain ⟨hc9, hf9⟩ := bcell hb9))
    go_ret
    exact ⟨rfl, by ((repeat (first | exact Below.refl _ _ | assumption | refine Below.al ?_ _ | refine Below.ch ?_ (by assumption) | refine belowN ?_)))⟩
end Go.Proofs.Ytlkcfohmoeadbaa

/-
  The law GaugeCircles, walked: it returns true.
-/
namespace Go.Proofs.Ytlkcfohmoeadbaa
open Go.RowKit Go.Shelf
set_option maxHeartbeats 4000000
set_option maxRecDepth 100000

theorem law_circles (p : Int) (a : Option Addr) (n cap : Nat) (bs : List Bd) (a2 : Option Addr) (n2 c2 : Nat) (ls : List Int) (w : World) (hb : BdsAt w a n cap bs) (hn : n ≤ 140737488351232) (hl : IntsAt w a2 n2 c2 ls) :
    Calls Try.prog 15 #[.agg #[.int .i64 p, .slice a n cap], .slice a2 n2 c2] w fun e w' => e = .returned (.bool true) ∧ Below w.heap.size w w' := by
  have hW := fun w1 => lwide_any p a n cap w1 hn
  have s2 : n2 ≤ 140737488351232 := by have := hl.len; have := hl.small; omega
  by_cases hn4 : n ≤ 403
  · have h1 : decide (n ≤ 403) = true := by simpa using hn4
    simp only [h1] at hW
    by_cases k2 : (n2 : Int) ≤ 70
    · have hls : ls.length ≤ 1000 := by have := hl.len; omega
      have hcc := fun w1 (h : Below w.heap.size w w1) => gCheckCircle_any p a n cap bs a2 n2 c2 ls w1 (hb.below h) (hl.below h) hls
      have hrc := fun w1 (h : Below w.heap.size w w1) => rCheckCircle_any p a n cap bs a2 n2 c2 ls w1 (hb.below h) (hl.below h) hls
      have hcir := fun w1 (h : Below w.heap.size w w1) => gCircle_any p a n cap bs w1 (hb.below h)
      have o1 : ((decide (chk p bs = 0) && ccOk bs ls) != (decide (chk p bs = 0) && ccOk bs ls)) = false := by simp
      by_cases hc : chk p bs = 0
      · have hcL : circL p bs = crcL p bs := by unfold circL; rw [if_pos hc]
        obtain ⟨P, rfl⟩ : ∃ P : Nat, p = P := ⟨p.toNat, by have := (Sys.of_chk hc).p1; omega⟩
        have hfe := fun w1 (h : Below w.heap.size w w1) => rFewest_any P a n cap bs w1 (hb.below h) hc
        have hss := crcL_short hc
        generalize (decide (chk P bs = 0) && ccOk bs ls) = K at *
        simp only [hc, hcL] at hcc hrc hcir
        by_cases hne : crcL P bs = []
        · have hcB : crcB P bs = false := by unfold crcB; simp [hne]
          simp only [hcB, hne] at hcir hfe
          have hrc2 : True := trivial
          clear hn4 hn h1 hcL hcB hne hc
          go_enter Try.func15, Try.ntmps15
          go_wp2_with (first
            | (go_at_call 20; refine (hW _).mono ?_; rintro e w0 ⟨rfl, hb0⟩; obtain ⟨hc0, hf0⟩ := bcell hb0; have hz0a := lt_size hb0 (b := w.heap.size) (by first | assumption | omega | (simp; done) | (simp; omega)))
            | (go_at_call 55; refine (hcc _ (by ((repeat (first | exact Below.refl _ _ | assumption | refine Below.al ?_ _ | refine Below.ch ?_ (by assumption) | refine belowN ?_))))).mono ?_; rintro e w1 ⟨rfl, hb1⟩; obtain ⟨hc1, hf1⟩ := bcell hb1; have s3 := lt_size hb1 (b := w.heap.size) (by first | assumption | omega | (simp; done) | (simp; omega)))
            | (go_at_call 56; have hg := hb3; clear hg; refine (hrc2 _ (by ((repeat (first | exact Below.refl _ _ | assumption | refine Below.al ?_ _ | refine Below.ch ?_ (by assumption) | refine belowN ?_)))) _ _ ((IntsAt.of_owns ho3 (by omega)).below (by ((repeat (first | exact Below.refl _ _ | assumption | refine Below.al ?_ _ | refine Below.ch ?_ (by assumption) | refine belowN ?_)))))).mono ?_; rintro e w5 ⟨rfl, hb5⟩)
            | (go_at_call 56; refine (hrc _ (by ((repeat (first | exact Below.refl _ _ | assumption | refine Below.al ?_ _ | refine Below.ch ?_ (by assumption) | refine belowN ?_))))).mono ?_; rintro e w2 ⟨rfl, hb2⟩; obtain ⟨hc2, hf2⟩ := bcell hb2; have s4 := lt_size hb2 (b := w.heap.size) (by first | assumption | omega | (simp; done) | (simp; omega)))
            | (go_at_call 57; refine (hcir _ (by ((repeat (first | exact Below.refl _ _ | assumption | refine Below.al ?_ _ | refine Below.ch ?_ (by assumption) | refine belowN ?_))))).mono ?_; rintro e w3 ⟨v3, rfl, hb3, ho3⟩; obtain ⟨hc3, hf3⟩ := bcell hb3; have s5 := lt_size hb3 (b := w.heap.size) (by first | assumption | omega | (simp; done) | (simp; omega)); obtain ⟨ta, tc, rfl, _⟩ := owns_slice ho3)
            | (go_at_call 58; refine (hfe _ (by ((repeat (first | exact Below.refl _ _ | assumption | refine Below.al ?_ _ | refine Below.ch ?_ (by assumption) | refine belowN ?_))))).mono ?_; rintro e w4 ⟨rfl, hb4⟩; obtain ⟨hc4, hf4⟩ := bcell hb4; have s6 := lt_size hb4 (b := w.heap.size) (by first | assumption | omega | (simp; done) | (simp; omega)))
            | (go_at_call 21; refine (lalive_any _).mono ?_; rintro e w9 ⟨rfl, hb9⟩; obtain ⟨hc9, hf9⟩ := bcell hb9))
          go_ret
          exact ⟨rfl, by ((repeat (first | exact Below.refl _ _ | assumption | refine Below.al ?_ _ | refine Below.ch ?_ (by assumption) | refine belowN ?_)))⟩
        · have hcB : crcB P bs = true := by unfold crcB; simp [hne, hc]
          have hrc2 := fun w1 (h : Below w.heap.size w w1) b d (h2 : IntsAt w1 b (crcL P bs).length d (crcL P bs)) => rCheckCircle_any P a n cap bs b _ d (crcL P bs) w1 (hb.below h) h2 (by omega)
          simp only [hc, ccOk_crcL hc hne, decide_true, Bool.and_self] at hrc2
          simp only [hcB] at hcir
          have hpos : (crcL P bs).length ≠ 0 := by simpa using hne
          generalize crcL P bs = S at *
          have z0 : ((S.length : Int) == 0) = false := by simp; intro h; exact hpos (by simp [h])
          clear hn4 hn h1 hcL hcB hne hc
          go_enter Try.func15, Try.ntmps15
          go_wp2_with (first
            | (go_at_call 20; refine (hW _).mono ?_; rintro e w0 ⟨rfl, hb0⟩; obtain ⟨hc0, hf0⟩ := bcell hb0; have hz0a := lt_size hb0 (b := w.heap.size) (by first | assumption | omega | (simp; done) | (simp; omega)))
            | (go_at_call 55; refine (hcc _ (by ((repeat (first | exact Below.refl _ _ | assumption | refine Below.al ?_ _ | refine Below.ch ?_ (by assumption) | refine belowN ?_))))).mono ?_; rintro e w1 ⟨rfl, hb1⟩; obtain ⟨hc1, hf1⟩ := bcell hb1; have s3 := lt_size hb1 (b := w.heap.size) (by first | assumption | omega | (simp; done) | (simp; omega)))
            | (go_at_call 56; have hg := hb3; clear hg; refine (hrc2 _ (by ((repeat (first | exact Below.refl _ _ | assumption | refine Below.al ?_ _ | refine Below.ch ?_ (by assumption) | refine belowN ?_)))) _ _ ((IntsAt.of_owns ho3 (by omega)).below (by ((repeat (first | exact Below.refl _ _ | assumption | refine Below.al ?_ _ | refine Below.ch ?_ (by assumption) | refine belowN ?_)))))).mono ?_; rintro e w5 ⟨rfl, hb5⟩)
            | (go_at_call 56; refine (hrc _ (by ((repeat (first | exact Below.refl _ _ | assumption | refine Below.al ?_ _ | refine Below.ch ?_ (by assumption) | refine belowN ?_))))).mono ?_; rintro e w2 ⟨rfl, hb2⟩; obtain ⟨hc2, hf2⟩ := bcell hb2; have s4 := lt_size hb2 (b := w.heap.size) (by first | assumption | omega | (simp; done) | (simp; omega)))
            | (go_at_call 57; refine (hcir _ (by ((repeat (first | exact Below.refl _ _ | assumption | refine Below.al ?_ _ | refine Below.ch ?_ (by assumption) | refine belowN ?_))))).mono ?_; rintro e w3 ⟨v3, rfl, hb3, ho3⟩; obtain ⟨hc3, hf3⟩ := bcell hb3; have s5 := lt_size hb3 (b := w.heap.size) (by first | assumption | omega | (simp; done) | (simp; omega)); obtain ⟨ta, tc, rfl, _⟩ := owns_slice ho3)
            | (go_at_call 58; refine (hfe _ (by ((repeat (first | exact Below.refl _ _ | assumption | refine Below.al ?_ _ | refine Below.ch ?_ (by assumption) | refine belowN ?_))))).mono ?_; rintro e w4 ⟨rfl, hb4⟩; obtain ⟨hc4, hf4⟩ := bcell hb4; have s6 := lt_size hb4 (b := w.heap.size) (by first | assumption | omega | (simp; done) | (simp; omega)))
            | (go_at_call 21; refine (lalive_any _).mono ?_; rintro e w9 ⟨rfl, hb9⟩; obtain ⟨hc9, hf9⟩ := bcell hb9))
          go_ret
          exact ⟨rfl, by ((repeat (first | exact Below.refl _ _ | assumption | refine Below.al ?_ _ | refine Below.ch ?_ (by assumption) | refine belowN ?_)))⟩
      · have hcB : crcB p bs = false := by unfold crcB; simp [hc]
        have hcL : circL p bs = [] := by unfold circL; rw [if_neg hc]
        have hfe : True := trivial
        have hrc2 : True := trivial
        have hcn : (chk p bs != 0) = true := by simpa using hc
        have hcs : (chk p bs != chk p bs) = false := by simp
        simp only [hcB, hcL] at hcir
        generalize (decide (chk p bs = 0) && ccOk bs ls) = K at *
        generalize chk p bs = E at *
        clear hn4 hn h1 hcL hcB hc
        go_enter Try.func15, Try.ntmps15
        go_wp2_with (first
          | (go_at_call 20; refine (hW _).mono ?_; rintro e w0 ⟨rfl, hb0⟩; obtain ⟨hc0, hf0⟩ := bcell hb0; have hz0a := lt_size hb0 (b := w.heap.size) (by first | assumption | omega | (simp; done) | (simp; omega)))
          | (go_at_call 55; refine (hcc _ (by ((repeat (first | exact Below.refl _ _ | assumption | refine Below.al ?_ _ | refine Below.ch ?_ (by assumption) | refine belowN ?_))))).mono ?_; rintro e w1 ⟨rfl, hb1⟩; obtain ⟨hc1, hf1⟩ := bcell hb1; have s3 := lt_size hb1 (b := w.heap.size) (by first | assumption | omega | (simp; done) | (simp; omega)))
          | (go_at_call 56; have hg := hb3; clear hg; refine (hrc2 _ (by ((repeat (first | exact Below.refl _ _ | assumption | refine Below.al ?_ _ | refine Below.ch ?_ (by assumption) | refine belowN ?_)))) _ _ ((IntsAt.of_owns ho3 (by omega)).below (by ((repeat (first | exact Below.refl _ _ | assumption | refine Below.al ?_ _ | refine Below.ch ?_ (by assumption) | refine belowN ?_)))))).mono ?_; rintro e w5 ⟨rfl, hb5⟩)
          | (go_at_call 56; refine (hrc _ (by ((repeat (first | exact Below.refl _ _ | assumption | refine Below.al ?_ _ | refine Below.ch ?_ (by assumption) | refine belowN ?_))))).mono ?_; rintro e w2 ⟨rfl, hb2⟩; obtain ⟨hc2, hf2⟩ := bcell hb2; have s4 := lt_size hb2 (b := w.heap.size) (by first | assumption | omega | (simp; done) | (simp; omega)))
          | (go_at_call 57; refine (hcir _ (by ((repeat (first | exact Below.refl _ _ | assumption | refine Below.al ?_ _ | refine Below.ch ?_ (by assumption) | refine belowN ?_))))).mono ?_; rintro e w3 ⟨v3, rfl, hb3, ho3⟩; obtain ⟨hc3, hf3⟩ := bcell hb3; have s5 := lt_size hb3 (b := w.heap.size) (by first | assumption | omega | (simp; done) | (simp; omega)); obtain ⟨ta, tc, rfl, _⟩ := owns_slice ho3)
          | (go_at_call 58; refine (hfe _ (by ((repeat (first | exact Below.refl _ _ | assumption | refine Below.al ?_ _ | refine Below.ch ?_ (by assumption) | refine belowN ?_))))).mono ?_; rintro e w4 ⟨rfl, hb4⟩; obtain ⟨hc4, hf4⟩ := bcell hb4; have s6 := lt_size hb4 (b := w.heap.size) (by first | assumption | omega | (simp; done) | (simp; omega)))
          | (go_at_call 21; refine (lalive_any _).mono ?_; rintro e w9 ⟨rfl, hb9⟩; obtain ⟨hc9, hf9⟩ := bcell hb9))
        go_ret
        exact ⟨rfl, by ((repeat (first | exact Below.refl _ _ | assumption | refine Below.al ?_ _ | refine Below.ch ?_ (by assumption) | refine belowN ?_)))⟩
    · go_enter Try.func15, Try.ntmps15
      go_wp2_with (first
        | (go_at_call 20; refine (hW _).mono ?_; rintro e w0 ⟨rfl, hb0⟩; obtain ⟨hc0, hf0⟩ := bcell hb0; have hz0a := lt_size hb0 (b := w.heap.size) (by first | assumption | omega | (simp; done) | (simp; omega)))
        | (go_at_call 21; refine (lalive_any _).mono ?_; rintro e w9 ⟨rfl, hb9⟩; obtain ⟨hc9, hf9⟩ := bcell hb9))
      go_ret
      exact ⟨rfl, by ((repeat (first | exact Below.refl _ _ | assumption | refine Below.al ?_ _ | refine Below.ch ?_ (by assumption) | refine belowN ?_)))⟩
  · have h1 : decide (n ≤ 403) = false := by simpa using hn4
    simp only [h1] at hW
    go_enter Try.func15, Try.ntmps15
    go_wp2_with (first
      | (go_at_call 20; refine (hW _).mono ?_; rintro e w0 ⟨rfl, hb0⟩; obtain ⟨hc0, hf0⟩ := bcell hb0; have hz0a := lt_size hb0 (b := w.heap.size) (by first | assumption | omega | (simp; done) | (simp; omega)))
      | (go_at_call 21; refine (lalive_any _).mono ?_; rintro e w9 ⟨rfl, hb9⟩; obtain ⟨hc9, hf9⟩ := bcell hb9))
    go_ret
    exact ⟨rfl, by ((repeat (first | exact Below.refl _ _ | assumption | refine Below.al ?_ _ | refine Below.ch ?_ (by assumption) | refine belowN ?_)))⟩
end Go.Proofs.Ytlkcfohmoeadbaa

/-
  The law GaugePaths, walked: it returns true.
-/
namespace Go.Proofs.Ytlkcfohmoeadbaa
open Go.RowKit Go.Shelf
set_option maxHeartbeats 4000000
set_option maxRecDepth 100000

theorem cpB_path {bs : List Bd} {x y n : Int} {L : List Int} (h : Pth bs x y n L) (hx : x = y → L = []) : cpB bs x y n L = true := by
  have h1 : wkO bs L (some x) [] [] = true := (wkO_some (by simp) (by simp)).2 ⟨by rw [h.wk.wend_eq]; exact h.wk, by simpa using h.fs, by simpa using h.ts⟩
  unfold cpB alB alS
  rw [h1, h.wk.wend_eq, h.sum]
  simp
  by_cases e : x = y
  · right; exact hx e
  · left; exact e
theorem rask_of_askE {p : Int} {bs : List Bd} {x y : Int} (h : askE p bs x y = 0) : rask p bs x y = 0 := by
  obtain ⟨h1, h2, _⟩ := askE_zero h
  unfold rask
  rw [if_pos h1, if_pos h2]

theorem law_paths (p : Int) (a : Option Addr) (n cap : Nat) (bs : List Bd) (x y most : Int) (a2 : Option Addr) (n2 c2 : Nat) (ls : List Int) (w : World) (hb : BdsAt w a n cap bs) (hn : n ≤ 140737488351232) (hl : IntsAt w a2 n2 c2 ls) :
    Calls Try.prog 17 #[.agg #[.int .i64 p, .slice a n cap], .int .i64 x, .int .i64 y, .int .i64 most, .slice a2 n2 c2] w fun e w' => e = .returned (.bool true) ∧ Below w.heap.size w w' := by
  have hW := fun w1 => lwide_any p a n cap w1 hn
  have s2 : n2 ≤ 140737488351232 := by have := hl.len; have := hl.small; omega
  by_cases hn4 : n ≤ 403
  · have h1 : decide (n ≤ 403) = true := by simpa using hn4
    simp only [h1] at hW
    by_cases k2 : (n2 : Int) ≤ 70
    · have hls : ls.length ≤ 1000 := by have := hl.len; omega
      have hcp := fun w1 (h : Below w.heap.size w w1) => gCheckPath_any p a n cap bs x y most a2 n2 c2 ls w1 (hb.below h) (hl.below h) hls
      have hrp := fun w1 (h : Below w.heap.size w w1) => rCheckPath_any p a n cap bs x y most a2 n2 c2 ls w1 (hb.below h) (hl.below h) hls
      have hpa := fun w1 (h : Below w.heap.size w w1) => gPath_any p a n cap bs x y w1 (hb.below h)
      have hgr := fun w1 (h : Below w.heap.size w w1) => rGreatest_any p a n cap bs x y w1 (hb.below h)
      have o1 : ((decide (rask p bs x y = 0) && cpB bs x y most ls) != (decide (rask p bs x y = 0) && cpB bs x y most ls)) = false := by simp
      have o2 : (rask p bs x y != rask p bs x y) = false := by simp
      have o3 : (grB p bs x y != grB p bs x y) = false := by simp
      have o4 : (askE p bs x y != askE p bs x y) = false := by simp
      generalize (decide (rask p bs x y = 0) && cpB bs x y most ls) = K at *
      have HgrB := Lib.hid (show grB p bs x y = (decide (askE p bs x y = 0) && decide (gD p bs x y < FAR)) from grB_far)
      cases hg : grB p bs x y with
      | true =>
        rw [HgrB.out] at hg
        simp only [Bool.and_eq_true, decide_eq_true_eq] at hg
        obtain ⟨g1, g2⟩ := hg
        have hN : grN p bs x y = gD p bs x y := by unfold grN; rw [if_pos ⟨g1, by omega⟩]
        have hr2 := fun w1 L (h : Below w.heap.size w w1) b d (h2 : IntsAt w1 b L.length d L) (hL : L.length ≤ 60 ∧ PathL p bs x y L) => rCheckPath_any p a n cap bs x y (gD p bs x y) b _ d L w1 (hb.below h) h2 (by omega)
        have hr3 : ∀ w1 L (h : Below w.heap.size w w1) b d (h2 : IntsAt w1 b L.length d L) (hL : L.length ≤ 60 ∧ PathL p bs x y L), Calls Try.prog 60 #[.agg #[.int .i64 p, .slice a n cap], .int .i64 x, .int .i64 y, .int .i64 (gD p bs x y), .slice b L.length d] w1 fun e w' => e = .returned (.tuple #[.bool true, .int .i64 0]) ∧ Below w1.heap.size w1 w' := fun w1 L h b d h2 hL => by
          have := hr2 w1 L h b d h2 hL
          obtain ⟨q1, q2⟩ := hL.2.1 g2
          rw [rask_of_askE g1, cpB_path q1 q2] at this
          exact this
        clear hr2
        have hr2 := hr3
        clear hr3
        have hB : grB p bs x y = true := by rw [HgrB.out]; simp [g1, g2]
        simp only [hN, hB] at hgr hpa o3
        simp only [g1] at hpa hgr o4
        have HPL := Lib.hid (show ∀ L, PathL p bs x y L → PathL p bs x y L from fun _ h => h)
        generalize gD p bs x y = D at *
        generalize rask p bs x y = E1 at *
        clear hn4 hn h1 hN hB g1 g2 HgrB
        have tok1 : True := trivial
        go_enter Try.func17, Try.ntmps17
        go_wp2_with (first
          | (go_at_call 20; refine (hW _).mono ?_; rintro e w0 ⟨rfl, hb0⟩; obtain ⟨hc0, hf0⟩ := bcell hb0; have hz0a := lt_size hb0 (b := w.heap.size) (by first | assumption | omega | (simp; done) | (simp; omega)))
          | (go_at_call 59; refine (hcp _ (by ((repeat (first | exact Below.refl _ _ | assumption | refine Below.al ?_ _ | refine Below.ch ?_ (by assumption) | refine belowN ?_))))).mono ?_; rintro e w1 ⟨rfl, hb1⟩; obtain ⟨hc1, hf1⟩ := bcell hb1; have s3 := lt_size hb1 (b := w.heap.size) (by first | assumption | omega | (simp; done) | (simp; omega)))
          | (go_at_call 60; have hg := hb3; clear hg; refine (hr2 _ _ (by ((repeat (first | exact Below.refl _ _ | assumption | refine Below.al ?_ _ | refine Below.ch ?_ (by assumption) | refine belowN ?_)))) _ _ ((IntsAt.of_owns ho3 (by omega)).below (by ((repeat (first | exact Below.refl _ _ | assumption | refine Below.al ?_ _ | refine Below.ch ?_ (by assumption) | refine belowN ?_))))) ⟨r3, R1.out trivial⟩).mono ?_; rintro e w5 ⟨rfl, hb5⟩)
          | (go_at_call 60; clear tok1; refine (hrp _ (by ((repeat (first | exact Below.refl _ _ | assumption | refine Below.al ?_ _ | refine Below.ch ?_ (by assumption) | refine belowN ?_))))).mono ?_; rintro e w2 ⟨rfl, hb2⟩; obtain ⟨hc2, hf2⟩ := bcell hb2; have s4 := lt_size hb2 (b := w.heap.size) (by first | assumption | omega | (simp; done) | (simp; omega)))
          | (go_at_call 61; refine (hpa _ (by ((repeat (first | exact Below.refl _ _ | assumption | refine Below.al ?_ _ | refine Below.ch ?_ (by assumption) | refine belowN ?_))))).mono ?_; rintro e w3 ⟨v3, L, rfl, hb3, ho3, r1, r2, r3⟩; obtain ⟨hc3, hf3⟩ := bcell hb3; have s5 := lt_size hb3 (b := w.heap.size) (by first | assumption | omega | (simp; done) | (simp; omega)); (have R1 := Lib.hid r1; have R2 := Lib.hid r2; clear r1 r2); obtain ⟨ta, tc, rfl, _⟩ := owns_slice ho3)
          | (go_at_call 38; refine (hgr _ (by ((repeat (first | exact Below.refl _ _ | assumption | refine Below.al ?_ _ | refine Below.ch ?_ (by assumption) | refine belowN ?_))))).mono ?_; rintro e w4 ⟨rfl, hb4⟩; obtain ⟨hc4, hf4⟩ := bcell hb4; have s6 := lt_size hb4 (b := w.heap.size) (by first | assumption | omega | (simp; done) | (simp; omega)))
          | (go_at_call 21; refine (lalive_any _).mono ?_; rintro e w9 ⟨rfl, hb9⟩; obtain ⟨hc9, hf9⟩ := bcell hb9))
        go_ret
        exact ⟨rfl, by ((repeat (first | exact Below.refl _ _ | assumption | refine Below.al ?_ _ | refine Below.ch ?_ (by assumption) | refine belowN ?_)))⟩
      | false =>
        have hr2 : True := trivial
        have HL := Lib.hid (show ∀ L, (askE p bs x y = 0 → PathL p bs x y L) → (askE p bs x y ≠ 0 → L = []) → L = [] from fun L a1 a2 => by
          by_cases h : askE p bs x y = 0
          · exact (a1 h).2 (fun h2 => by rw [HgrB.out] at hg; simp [h, h2] at hg)
          · exact a2 h)
        simp only [hg] at hpa hgr o3
        generalize askE p bs x y = E2 at *
        generalize rask p bs x y = E1 at *
        generalize grN p bs x y = N1 at *
        clear hn4 hn h1 HgrB hg
        have tok1 : True := trivial
        go_enter Try.func17, Try.ntmps17
        go_wp2_with (first
          | (go_at_call 20; refine (hW _).mono ?_; rintro e w0 ⟨rfl, hb0⟩; obtain ⟨hc0, hf0⟩ := bcell hb0; have hz0a := lt_size hb0 (b := w.heap.size) (by first | assumption | omega | (simp; done) | (simp; omega)))
          | (go_at_call 59; refine (hcp _ (by ((repeat (first | exact Below.refl _ _ | assumption | refine Below.al ?_ _ | refine Below.ch ?_ (by assumption) | refine belowN ?_))))).mono ?_; rintro e w1 ⟨rfl, hb1⟩; obtain ⟨hc1, hf1⟩ := bcell hb1; have s3 := lt_size hb1 (b := w.heap.size) (by first | assumption | omega | (simp; done) | (simp; omega)))
          | (go_at_call 60; have hg := hb3; clear hg; refine (hr2 _ _ (by ((repeat (first | exact Below.refl _ _ | assumption | refine Below.al ?_ _ | refine Below.ch ?_ (by assumption) | refine belowN ?_)))) _ _ ((IntsAt.of_owns ho3 (by omega)).below (by ((repeat (first | exact Below.refl _ _ | assumption | refine Below.al ?_ _ | refine Below.ch ?_ (by assumption) | refine belowN ?_))))) hr2).mono ?_; rintro e w5 ⟨rfl, hb5⟩)
          | (go_at_call 60; clear tok1; refine (hrp _ (by ((repeat (first | exact Below.refl _ _ | assumption | refine Below.al ?_ _ | refine Below.ch ?_ (by assumption) | refine belowN ?_))))).mono ?_; rintro e w2 ⟨rfl, hb2⟩; obtain ⟨hc2, hf2⟩ := bcell hb2; have s4 := lt_size hb2 (b := w.heap.size) (by first | assumption | omega | (simp; done) | (simp; omega)))
          | (go_at_call 61; refine (hpa _ (by ((repeat (first | exact Below.refl _ _ | assumption | refine Below.al ?_ _ | refine Below.ch ?_ (by assumption) | refine belowN ?_))))).mono ?_; rintro e w3 ⟨v3, L, rfl, hb3, ho3, r1, r2, r3⟩; obtain ⟨hc3, hf3⟩ := bcell hb3; have s5 := lt_size hb3 (b := w.heap.size) (by first | assumption | omega | (simp; done) | (simp; omega)); (obtain rfl := HL.out L r1 r2); obtain ⟨ta, tc, rfl, _⟩ := owns_slice ho3)
          | (go_at_call 38; refine (hgr _ (by ((repeat (first | exact Below.refl _ _ | assumption | refine Below.al ?_ _ | refine Below.ch ?_ (by assumption) | refine belowN ?_))))).mono ?_; rintro e w4 ⟨rfl, hb4⟩; obtain ⟨hc4, hf4⟩ := bcell hb4; have s6 := lt_size hb4 (b := w.heap.size) (by first | assumption | omega | (simp; done) | (simp; omega)))
          | (go_at_call 21; refine (lalive_any _).mono ?_; rintro e w9 ⟨rfl, hb9⟩; obtain ⟨hc9, hf9⟩ := bcell hb9))
        go_ret
        exact ⟨rfl, by ((repeat (first | exact Below.refl _ _ | assumption | refine Below.al ?_ _ | refine Below.ch ?_ (by assumption) | refine belowN ?_)))⟩
    · go_enter Try.func17, Try.ntmps17
      go_wp2_with (first
        | (go_at_call 20; refine (hW _).mono ?_; rintro e w0 ⟨rfl, hb0⟩; obtain ⟨hc0, hf0⟩ := bcell hb0; have hz0a := lt_size hb0 (b := w.heap.size) (by first | assumption | omega | (simp; done) | (simp; omega)))
        | (go_at_call 21; refine (lalive_any _).mono ?_; rintro e w9 ⟨rfl, hb9⟩; obtain ⟨hc9, hf9⟩ := bcell hb9))
      go_ret
      exact ⟨rfl, by ((repeat (first | exact Below.refl _ _ | assumption | refine Below.al ?_ _ | refine Below.ch ?_ (by assumption) | refine belowN ?_)))⟩
  · have h1 : decide (n ≤ 403) = false := by simpa using hn4
    simp only [h1] at hW
    go_enter Try.func17, Try.ntmps17
    go_wp2_with (first
      | (go_at_call 20; refine (hW _).mono ?_; rintro e w0 ⟨rfl, hb0⟩; obtain ⟨hc0, hf0⟩ := bcell hb0; have hz0a := lt_size hb0 (b := w.heap.size) (by first | assumption | omega | (simp; done) | (simp; omega)))
      | (go_at_call 21; refine (lalive_any _).mono ?_; rintro e w9 ⟨rfl, hb9⟩; obtain ⟨hc9, hf9⟩ := bcell hb9))
    go_ret
    exact ⟨rfl, by ((repeat (first | exact Below.refl _ _ | assumption | refine Below.al ?_ _ | refine Below.ch ?_ (by assumption) | refine belowN ?_)))⟩
end Go.Proofs.Ytlkcfohmoeadbaa

/-
  Plain laws: what is attained is kept; what is kept lies within the ends; accepted paths bound from above.
-/
namespace Go.Proofs.Ytlkcfohmoeadbaa

theorem cpB_sound {bs : List Bd} {x y most : Int} {l : List Int} (h : cpB bs x y most l = true) : Wk bs x l y ∧ wsum bs l ≤ most := by
  unfold cpB alB alS at h
  simp only [Bool.and_eq_true, decide_eq_true_eq] at h
  obtain ⟨⟨⟨h1, h2⟩, h3⟩, _⟩ := h
  rw [if_pos h1] at h3
  have := ((wkO_some (by simp) (by simp)).1 h1).1
  rw [h2] at this
  exact ⟨this, h3⟩

theorem grB_iff {p : Int} {bs : List Bd} {x y : Int} (hE : askE p bs x y = 0) : grB p bs x y = true ↔ gD p bs x y < FAR := by
  rw [grB_far, hE]
  simp

theorem sharp_path {p : Int} {bs : List Bd} {x y most : Int} {l : List Int} (hE : askE p bs x y = 0) (h : cpB bs x y most l = true) : grB p bs x y = true ∧ grN p bs x y ≤ most := by
  obtain ⟨hc, hxy, hok⟩ := askE_zero hE
  obtain ⟨⟨x0, x1⟩, y0, y1⟩ := both_in hxy
  obtain ⟨h1, h2⟩ := cpB_sound h
  obtain ⟨k1, k2⟩ := gD_walk0 hc hok x0 x1 h1
  refine ⟨(grB_iff hE).2 k1, ?_⟩
  unfold grN
  rw [if_pos ⟨hE, by omega⟩]
  omega

theorem askE_turn {p : Int} {bs : List Bd} {x y : Int} : askE p bs y x = askE p bs x y := by
  have : both p y x = both p x y := by unfold both; simp [Bool.and_comm]
  unfold askE
  rw [this]

theorem gi_far {xs : List Int} (h : xs.all farB = true) {j : Int} (j1 : j.toNat < xs.length) : -1000000000 ≤ gi xs j ∧ gi xs j ≤ 1000000000 := by
  have := List.all_eq_true.1 h (gi xs j) (by unfold gi; rw [List.getD_eq_getElem?_getD, List.getElem?_eq_getElem j1]; exact List.getElem_mem _)
  exact withinB_iff.1 this

theorem sharp_list {p : Int} {bs : List Bd} {x y : Int} {xs : List Int} (hE : askE p bs x y = 0) (hk : (decide (brE p bs xs = 0) && !brH p bs xs) = true) :
    (xs.length : Int) = p ∧ (-1000000000 ≤ gi xs x ∧ gi xs x ≤ 1000000000) ∧ (-1000000000 ≤ gi xs y ∧ gi xs y ≤ 1000000000) ∧ (grB p bs x y = true → gi xs y - gi xs x ≤ grN p bs x y) ∧ (grB p bs y x = true → -grN p bs y x ≤ gi xs y - gi xs x) ∧
    ∀ most l, cpB bs x y most l = true → gi xs y - gi xs x ≤ most := by
  obtain ⟨hc, hxy, hok⟩ := askE_zero hE
  obtain ⟨⟨x0, x1⟩, y0, y1⟩ := both_in hxy
  have hE2 : askE p bs y x = 0 := by rw [askE_turn]; exact hE
  obtain ⟨_, h2, h3, h4⟩ := kept_iff.1 hk
  refine ⟨h2, gi_far h3 (by omega), gi_far h3 (by omega), fun h => ?_, fun h => ?_, fun most l h => ?_⟩
  · have hf := (grB_iff hE).1 h
    have := keeps_gD hc hok h4 x0 x1 y0 y1 hf
    unfold grN
    rw [if_pos ⟨hE, by omega⟩]
    exact this
  · have hf := (grB_iff hE2).1 h
    have := keeps_gD hc hok h4 y0 y1 x0 x1 hf
    unfold grN
    rw [if_pos ⟨hE2, by omega⟩]
    omega
  · obtain ⟨h5, h6⟩ := cpB_sound h
    have := Wk.keeps h4 h5
    omega

theorem tied_kept {p : Int} {bs : List Bd} {x y n : Int} (hc : chk p bs = 0) (hok : okB p bs = true) (hxy : both p x y = true) (hn : nearB n = true) (hF : okB p (bs ++ [⟨x, y, n, 0⟩, ⟨y, x, -n, 0⟩]) = true) :
    brE p bs (solR p (bs ++ [⟨x, y, n, 0⟩, ⟨y, x, -n, 0⟩])) = 0 ∧ brH p bs (solR p (bs ++ [⟨x, y, n, 0⟩, ⟨y, x, -n, 0⟩])) = false ∧ gi (solR p (bs ++ [⟨x, y, n, 0⟩, ⟨y, x, -n, 0⟩])) y - gi (solR p (bs ++ [⟨x, y, n, 0⟩, ⟨y, x, -n, 0⟩])) x = n := by
  obtain ⟨⟨x0, x1⟩, y0, y1⟩ := both_in hxy
  have hs := Sys.of_chk hc
  have hp2 := hs.p2
  have hst := hs.tied (chk_400' hc) hxy hn
  have hz := okB_keeps hst hF
  have hd := tied_diff hz
  have hlo := fun j (j0 : 0 ≤ j) (j1 : j < p) => tied_low hc hok hxy hn hF j0 j1
  have hhi := fun j (j0 : (0 : Int) ≤ j) (j1 : j < 60) => sol_le hst j0 j1
  have hzb : keepsB bs (gi (gsol p (bs ++ [⟨x, y, n, 0⟩, ⟨y, x, -n, 0⟩])).1.r) := fun b hb => hz b (List.mem_append_left _ hb)
  have hl := (gsol_len p (bs ++ [⟨x, y, n, 0⟩, ⟨y, x, -n, 0⟩])).1
  unfold solR
  generalize (gsol p (bs ++ [⟨x, y, n, 0⟩, ⟨y, x, -n, 0⟩])).1.r = r at *
  obtain ⟨h1, h2⟩ := kept_of hc hl hzb (fun j j0 j1 => by
    have h1 := hlo j j0 j1
    have h2 := hhi j j0 (by omega)
    omega)
  refine ⟨h1, h2, ?_⟩
  rw [gi_take' y0 (by omega), gi_take' x0 (by omega)]
  exact hd

theorem att_kept {p : Int} {bs : List Bd} {x y n : Int} (hE : askE p bs x y = 0) (hn : nearB n = true) (hF : attF p bs x y n = true) :
    attE p bs x y n = 0 ∧ brE p bs (attOutL p bs x y n) = 0 ∧ brH p bs (attOutL p bs x y n) = false ∧ gi (attOutL p bs x y n) y - gi (attOutL p bs x y n) x = n ∧ ((attOutL p bs x y n).length : Int) = p ∧
    (-1000000000 ≤ gi (attOutL p bs x y n) x ∧ gi (attOutL p bs x y n) x ≤ 1000000000) ∧ (-1000000000 ≤ gi (attOutL p bs x y n) y ∧ gi (attOutL p bs x y n) y ≤ 1000000000) := by
  obtain ⟨hc, hxy, hok⟩ := askE_zero hE
  obtain ⟨⟨x0, x1⟩, y0, y1⟩ := both_in hxy
  have hs := Sys.of_chk hc
  have hp2 := hs.p2
  have hA : attE p bs x y n = 0 := by unfold attE; rw [if_pos hc, if_pos hxy, if_pos hn, if_pos hok]
  have hL : attOutL p bs x y n = solR p (attT bs x y n) := by unfold attOutL; rw [if_pos ⟨hA, hF⟩]
  rw [hL]
  refine ⟨hA, ?_⟩
  have hlen : ((solR p (attT bs x y n)).length : Int) = p := by
    rw [solR_len _ ⟨hs.p1, hs.p2⟩]; omega
  have key : brE p bs (solR p (attT bs x y n)) = 0 ∧ brH p bs (solR p (attT bs x y n)) = false ∧ gi (solR p (attT bs x y n)) y - gi (solR p (attT bs x y n)) x = n := by
    by_cases e : x = y
    · subst e
      have hn0 : n = 0 := by
        apply Classical.byContradiction
        intro h
        unfold attF at hF
        simp [h] at hF
      have hT : attT bs x x n = bs := by unfold attT; rw [if_pos rfl]
      rw [hT]
      obtain ⟨h1, h2⟩ := solR_kept hc hok
      exact ⟨h1, h2, by omega⟩
    · have hT : attT bs x y n = bs ++ [⟨x, y, n, 0⟩, ⟨y, x, -n, 0⟩] := by unfold attT; rw [if_neg e]
      have hF2 : okB p (bs ++ [⟨x, y, n, 0⟩, ⟨y, x, -n, 0⟩]) = true := by unfold attF at hF; rw [hT] at hF; simp [e] at hF; exact hF
      rw [hT]
      exact tied_kept hc hok hxy hn hF2
  obtain ⟨k1, k2, k3⟩ := key
  have hk := kept_iff.1 (show (decide (brE p bs (solR p (attT bs x y n)) = 0) && !brH p bs (solR p (attT bs x y n))) = true by rw [k1, k2]; rfl)
  exact ⟨k1, k2, k3, hlen, gi_far hk.2.2.1 (by omega), gi_far hk.2.2.1 (by omega)⟩
end Go.Proofs.Ytlkcfohmoeadbaa
