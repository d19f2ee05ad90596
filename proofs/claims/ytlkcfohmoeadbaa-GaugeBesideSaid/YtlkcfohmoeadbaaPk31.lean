/-
  The law GaugeBeside, walked: it returns true.
-/
import Derived.Test.YtlkcfohmoeadbaaPk30
set_option linter.unusedSimpArgs false
set_option linter.unusedVariables false
set_option linter.unnecessarySimpa false
namespace Go.Proofs.Ytlkcfohmoeadbaa
open Go.RowKit Go.Shelf
set_option maxHeartbeats 8000000
set_option maxRecDepth 100000



theorem law_beside0 (p : Int) (a : Option Addr) (n cap : Nat) (bs : List Bd) (q : Int) (a2 : Option Addr) (n2 cap2 : Nat) (T : List Bd) (x y c m : Int) (w : World) (hb : BdsAt w a n cap bs) (hn : n ≤ 140737488351232) (hb2 : BdsAt w a2 n2 cap2 T) (hn2 : n2 ≤ 140737488351232) (hn4 : n ≤ 403) (hn5 : n2 ≤ 403)
    (R2 : Int) (L2 : List Bd) (l2 : L2.length ≤ 1000) (E4 : Int) (e4 : (E4 != 0) = true)
    (hT : ∀ w1, BdsAt w1 a n cap bs → Calls Try.prog 50 #[.agg #[.int .i64 p, .slice a n cap], .int .i64 x, .int .i64 y, .int .i64 m] w1 fun e w' => ∃ v, e = .returned (.tuple #[.agg #[.int .i64 R2, v], .int .i64 E4]) ∧ Below w1.heap.size w1 w' ∧ w'.ownsRow w1.heap.size 39 4 v L2.length (bcs L2)) :
    Calls Try.prog 16 #[.agg #[.int .i64 p, .slice a n cap], .agg #[.int .i64 q, .slice a2 n2 cap2], .int .i64 x, .int .i64 y, .int .i64 c, .int .i64 m] w fun e w' => e = .returned (.bool true) ∧ Below w.heap.size w w' := by
  have hB2 : Below w.heap.size w ((w.alloc (Obj.cells #[.int .i64 p, .slice a n cap] 24)).alloc (Obj.cells #[.int .i64 q, .slice a2 n2 cap2] 24)) := by ((repeat (first | assumption | exact Below.refl _ _ | refine Below.alloc ?_ ?_ _ | refine Below.setCell ?_ ?_ _ | refine Below.drew ?_ | refine belowN ?_ | refine Below.up ?_ (by assumption) ?_)) <;> (first | assumption | omega | (simp; done) | (simp; omega)))
  have hbx := hb.below hB2
  have hbx2 := hb2.below hB2
  have hW := fun w1 => lwide_any p a n cap w1 hn
  have hW2 := fun w1 => lwide_any q a2 n2 cap2 w1 hn2
  have h1 : decide (n ≤ 403) = true := by simpa using hn4
  simp only [h1] at hW
  have h2 : decide (n2 ≤ 403) = true := by simpa using hn5
  simp only [h2] at hW2
  have hG1 := fun w1 (h : BdsAt w1 a n cap bs) => gGreatest_any p a n cap bs x y w1 h
  have hG2 := fun w1 (h : BdsAt w1 a2 n2 cap2 T) => gGreatest_any q a2 n2 cap2 T c 0 w1 h
  have hA := fun w1 (h : BdsAt w1 a n cap bs) (k : BdsAt w1 a2 n2 cap2 T) => gBeside_any p a n cap bs q a2 n2 cap2 T w1 h k
  have l1 := bsdL_small (p := p) (q := q) (bs := bs) (T := T)
  clear hn4 hn hn5 hn2
  by_cases g1 : askE p bs x y = 0
  · by_cases g2 : askE q T c 0 = 0
    · by_cases g3 : bsdE p bs q T = 0
      · obtain ⟨hc1, hxy, hok1⟩ := askE_zero g1
        obtain ⟨hc2, hc0, hok2⟩ := askE_zero g2
        have hcU : chk (p + q) (bs ++ shf p T) = 0 := by unfold bsdE at g3; rw [if_pos hc1, if_pos hc2] at g3; exact g3
        have hL1 : bsdL p bs q T = bs ++ shf p T := by unfold bsdL; rw [if_pos g3]
        obtain ⟨⟨k1, k2, k3⟩, ⟨k4, k5, k6⟩, k7, k8⟩ := beside_gr g1 g2 hcU
        obtain ⟨⟨c0, c1⟩, _⟩ := both_in hc0
        have p1 := (Sys.of_chk hc1).p1
        have p2 := (Sys.of_chk hc1).p2
        have q2 := (Sys.of_chk hc2).p2
        rw [hL1] at hA l1
        have hU1 := fun w1 b d (h : BdsAt w1 b (bs ++ shf p T).length d (bs ++ shf p T)) => gGreatest_any (p + q) b _ d _ x y w1 h
        have hU2 := fun w1 b d (h : BdsAt w1 b (bs ++ shf p T).length d (bs ++ shf p T)) => gGreatest_any (p + q) b _ d _ (p + c) p w1 h
        have hU3 := fun w1 b d (h : BdsAt w1 b (bs ++ shf p T).length d (bs ++ shf p T)) => gGreatest_any (p + q) b _ d _ x (p + c) w1 h
        simp only [k1, k2, k3] at hU1
        simp only [k4, k5, k6] at hU2
        simp only [k7, k8] at hU3
        simp only [g3, if_true] at hA
        simp only [g1] at hG1
        simp only [g2] at hG2
        obtain ⟨R1, hR1⟩ : ∃ R1, p + q = R1 := ⟨_, rfl⟩
        rw [hR1] at hA hU1 hU2 hU3
        have HR1 := Lib.hid hR1
        obtain ⟨N3, hN3⟩ : ∃ N3, grN R1 (bs ++ shf p T) x (p + c) = N3 := ⟨_, rfl⟩
        rw [hN3] at hU3
        clear hR1 hN3 k1 k2 k3 k4 k5 k6 k7 k8 hL1 hcU g1 g2 g3 hc1 hc2 hok1 hok2 hc0 hxy
        generalize bs ++ shf p T = L1 at *
        generalize grN p bs x y = N1 at *
        generalize grB p bs x y = B1 at *
        generalize grN q T c 0 = N2 at *
        generalize grB q T c 0 = B2 at *
        have n1 : (N1 != N1) = false := by simp
        have n2' : (N2 != N2) = false := by simp
        have n3 : (B1 != B1) = false := by simp
        have n4 : (B2 != B2) = false := by simp
        go_enter Try.func16, Try.ntmps16
        go_wp2_with (first
          | (go_at_call 20; have hg := hb0; clear hg; refine (hW2 _).mono ?_; rintro e w1 ⟨rfl, hb1⟩; obtain ⟨hc1, hf1⟩ := bcell hb1; have s1a := lt_size hb1 (b := w.heap.size) (by first | assumption | omega | (simp; done) | (simp; omega)); have s1b := lt_size hb1 (b := w.heap.size + 1) (by first | assumption | omega | (simp; done) | (simp; omega)))
          | (go_at_call 20; refine (hW _).mono ?_; rintro e w0 ⟨rfl, hb0⟩; obtain ⟨hc0, hf0⟩ := bcell hb0; have hz0a := lt_size hb0 (b := w.heap.size) (by first | assumption | omega | (simp; done) | (simp; omega)); have hz0b := lt_size hb0 (b := w.heap.size+1) (by first | assumption | omega | (simp; done) | (simp; omega)))
          | (go_at_call 36; have hg := hb6; clear hg; refine (hU3 _ _ _ ((hbu4.below hb5).below hb6)).mono ?_; rintro e w7 ⟨rfl, hb7⟩; obtain ⟨hc7, hf7⟩ := bcell hb7; have s7a := lt_size hb7 (b := w.heap.size) (by first | assumption | omega | (simp; done) | (simp; omega)); have hbs7 := ((hbs5.below hb5).below hb6).below hb7; have z5 := hb5.size; have z6 := hb6.size; have z7 := hb7.size; simp only [World.size_alloc] at z5
             have q7 : Below w.heap.size w w7 := (((q4.alloc (by omega) _).trans (hb5.mono (by simp; omega))).trans (hb6.mono (by omega))).trans (hb7.mono (by omega)))
          | (go_at_call 36; have hg := hb5; clear hg; refine (hU2 _ _ _ (hbu4.below hb5)).mono ?_; rintro e w6 ⟨rfl, hb6⟩; obtain ⟨hc6, hf6⟩ := bcell hb6; have s6a := lt_size hb6 (b := w.heap.size) (by first | assumption | omega | (simp; done) | (simp; omega)); have s6b := lt_size hb6 (b := w4.heap.size) (by first | assumption | omega | (simp; done) | (simp; omega)))
          | (go_at_call 36; have hg := hb4; clear hg; refine (hU1 _ _ _ hbu4).mono ?_; rintro e w5 ⟨rfl, hb5⟩; obtain ⟨hc5, hf5⟩ := bcell hb5; have s5a := lt_size hb5 (b := w.heap.size) (by first | assumption | omega | (simp; done) | (simp; omega)); have s5b := lt_size hb5 (b := w4.heap.size) (by first | assumption | omega | (simp; done) | (simp; omega)))
          | (go_at_call 36; have hg := hb2'; clear hg; refine (hG2 _ (((hbx2.below hb0).below hb1).below hb2')).mono ?_; rintro e w3 ⟨rfl, hb3⟩; obtain ⟨hc3, hf3⟩ := bcell hb3; have s3a := lt_size hb3 (b := w.heap.size) (by first | assumption | omega | (simp; done) | (simp; omega)); have s3b := lt_size hb3 (b := w.heap.size + 1) (by first | assumption | omega | (simp; done) | (simp; omega)))
          | (go_at_call 36; refine (hG1 _ ((hbx.below hb0).below hb1)).mono ?_; rintro e w2 ⟨rfl, hb2'⟩; obtain ⟨hc2, hf2⟩ := bcell hb2'; have s2a := lt_size hb2' (b := w.heap.size) (by first | assumption | omega | (simp; done) | (simp; omega)); have s2b := lt_size hb2' (b := w.heap.size + 1) (by first | assumption | omega | (simp; done) | (simp; omega)))
          | (go_at_call 44; refine (hA _ ((((hbx.below hb0).below hb1).below hb2').below hb3) ((((hbx2.below hb0).below hb1).below hb2').below hb3)).mono ?_; rintro e w4 ⟨v4, rfl, hb4, ho4⟩; obtain ⟨a4, c4, rfl, _⟩ := owns_slice ho4; obtain ⟨hc4, hf4⟩ := bcell hb4; have s4a := lt_size hb4 (b := w.heap.size) (by first | assumption | omega | (simp; done) | (simp; omega))
             have hbs4 := ((((hbx.below hb0).below hb1).below hb2').below hb3).below hb4
             have hbu4 := (BdsAt.of_owns ho4 (by omega)).below ((Below.refl _ _).alloc (Nat.le_refl _) (Obj.cells #[.int .i64 R1, .slice a4 L1.length c4] 24))
             have hbs5 := hbs4.below ((Below.refl _ _).alloc (Nat.le_refl _) (Obj.cells #[.int .i64 R1, .slice a4 L1.length c4] 24))
             have z0 := hb0.size
             have z1 := hb1.size
             have z2 := hb2'.size
             have z3 := hb3.size
             have z4 := hb4.size
             simp only [World.size_alloc] at z0
             have q4 : Below w.heap.size w w4 := ((((hB2.trans (hb0.mono (by simp; omega))).trans (hb1.mono (by omega))).trans (hb2'.mono (by omega))).trans (hb3.mono (by omega))).trans (hb4.mono (by omega)))
          | (go_at_call 50; refine (hT _ hbs7).mono ?_; rintro e w8 ⟨v8, rfl, hb8, ho8⟩; obtain ⟨a8, c8, rfl, _⟩ := owns_slice ho8; obtain ⟨hc8, hf8⟩ := bcell hb8; have z8 := hb8.size
             have hbv8 := (BdsAt.of_owns ho8 (by omega)).below ((Below.refl _ _).alloc (Nat.le_refl _) (Obj.cells #[.int .i64 R2, .slice a8 L2.length c8] 24)))
          | (go_at_call 40; refine (hF _ _ _ hbv8).mono ?_; rintro e w9 ⟨rfl, hb9⟩; obtain ⟨hc9, hf9⟩ := bcell hb9; have s9 := lt_size hb9 (b := w8.heap.size) (by first | assumption | omega | (simp; done) | (simp; omega)))
          | (go_at_call 22; refine (hS _ _ _ (hbv8.below hb9)).mono ?_; rintro e w10 ⟨v10, rfl, hb10⟩)
          | (go_at_call 21; refine (lalive_any _).mono ?_; rintro e w11 ⟨rfl, hb11⟩))
        go_ret
        try simp only [World.size_alloc] at z8
        have q8 : Below w.heap.size w w8 := (q7.mono (Nat.le_refl _)).trans (hb8.mono (by first | omega | (simp; omega)))
        exact ⟨rfl, (q8.alloc (by omega) _).trans (hb11.mono (by simp; omega))⟩
      · have g3' : (bsdE p bs q T == 0) = false := by simpa using g3
        simp only [g1] at hG1
        simp only [g2] at hG2
        generalize (if bsdE p bs q T = 0 then p + q else 0) = R1 at *
        generalize bsdL p bs q T = L1 at *
        generalize bsdE p bs q T = E3 at *
        generalize grN p bs x y = N1 at *
        generalize grB p bs x y = B1 at *
        generalize grN q T c 0 = N2 at *
        generalize grB q T c 0 = B2 at *
        clear g1 g2 g3
        go_enter Try.func16, Try.ntmps16
        go_wp2_with (first
          | (go_at_call 20; have hg := hb0; clear hg; refine (hW2 _).mono ?_; rintro e w1 ⟨rfl, hb1⟩; obtain ⟨hc1, hf1⟩ := bcell hb1; have s1a := lt_size hb1 (b := w.heap.size) (by first | assumption | omega | (simp; done) | (simp; omega)); have s1b := lt_size hb1 (b := w.heap.size + 1) (by first | assumption | omega | (simp; done) | (simp; omega)))
          | (go_at_call 20; refine (hW _).mono ?_; rintro e w0 ⟨rfl, hb0⟩; obtain ⟨hc0, hf0⟩ := bcell hb0; have hz0a := lt_size hb0 (b := w.heap.size) (by first | assumption | omega | (simp; done) | (simp; omega)); have hz0b := lt_size hb0 (b := w.heap.size+1) (by first | assumption | omega | (simp; done) | (simp; omega)))
          | (go_at_call 36; have hg := hb6; clear hg; refine (hU3 _ _ _ ((hbu4.below hb5).below hb6)).mono ?_; rintro e w7 ⟨rfl, hb7⟩; obtain ⟨hc7, hf7⟩ := bcell hb7; have s7a := lt_size hb7 (b := w.heap.size) (by first | assumption | omega | (simp; done) | (simp; omega)); have hbs7 := ((hbs5.below hb5).below hb6).below hb7; have z5 := hb5.size; have z6 := hb6.size; have z7 := hb7.size; simp only [World.size_alloc] at z5
             have q7 : Below w.heap.size w w7 := (((q4.alloc (by omega) _).trans (hb5.mono (by simp; omega))).trans (hb6.mono (by omega))).trans (hb7.mono (by omega)))
          | (go_at_call 36; have hg := hb5; clear hg; refine (hU2 _ _ _ (hbu4.below hb5)).mono ?_; rintro e w6 ⟨rfl, hb6⟩; obtain ⟨hc6, hf6⟩ := bcell hb6; have s6a := lt_size hb6 (b := w.heap.size) (by first | assumption | omega | (simp; done) | (simp; omega)); have s6b := lt_size hb6 (b := w4.heap.size) (by first | assumption | omega | (simp; done) | (simp; omega)))
          | (go_at_call 36; have hg := hb4; clear hg; refine (hU1 _ _ _ hbu4).mono ?_; rintro e w5 ⟨rfl, hb5⟩; obtain ⟨hc5, hf5⟩ := bcell hb5; have s5a := lt_size hb5 (b := w.heap.size) (by first | assumption | omega | (simp; done) | (simp; omega)); have s5b := lt_size hb5 (b := w4.heap.size) (by first | assumption | omega | (simp; done) | (simp; omega)))
          | (go_at_call 36; have hg := hb2'; clear hg; refine (hG2 _ (((hbx2.below hb0).below hb1).below hb2')).mono ?_; rintro e w3 ⟨rfl, hb3⟩; obtain ⟨hc3, hf3⟩ := bcell hb3; have s3a := lt_size hb3 (b := w.heap.size) (by first | assumption | omega | (simp; done) | (simp; omega)); have s3b := lt_size hb3 (b := w.heap.size + 1) (by first | assumption | omega | (simp; done) | (simp; omega)))
          | (go_at_call 36; refine (hG1 _ ((hbx.below hb0).below hb1)).mono ?_; rintro e w2 ⟨rfl, hb2'⟩; obtain ⟨hc2, hf2⟩ := bcell hb2'; have s2a := lt_size hb2' (b := w.heap.size) (by first | assumption | omega | (simp; done) | (simp; omega)); have s2b := lt_size hb2' (b := w.heap.size + 1) (by first | assumption | omega | (simp; done) | (simp; omega)))
          | (go_at_call 44; refine (hA _ ((((hbx.below hb0).below hb1).below hb2').below hb3) ((((hbx2.below hb0).below hb1).below hb2').below hb3)).mono ?_; rintro e w4 ⟨v4, rfl, hb4, ho4⟩; obtain ⟨a4, c4, rfl, _⟩ := owns_slice ho4; obtain ⟨hc4, hf4⟩ := bcell hb4; have s4a := lt_size hb4 (b := w.heap.size) (by first | assumption | omega | (simp; done) | (simp; omega))
             have hbs4 := ((((hbx.below hb0).below hb1).below hb2').below hb3).below hb4
             have hbu4 := (BdsAt.of_owns ho4 (by omega)).below ((Below.refl _ _).alloc (Nat.le_refl _) (Obj.cells #[.int .i64 R1, .slice a4 L1.length c4] 24))
             have hbs5 := hbs4.below ((Below.refl _ _).alloc (Nat.le_refl _) (Obj.cells #[.int .i64 R1, .slice a4 L1.length c4] 24))
             have z0 := hb0.size
             have z1 := hb1.size
             have z2 := hb2'.size
             have z3 := hb3.size
             have z4 := hb4.size
             simp only [World.size_alloc] at z0
             have q4 : Below w.heap.size w w4 := ((((hB2.trans (hb0.mono (by simp; omega))).trans (hb1.mono (by omega))).trans (hb2'.mono (by omega))).trans (hb3.mono (by omega))).trans (hb4.mono (by omega)))
          | (go_at_call 50; refine (hT _ hbs5).mono ?_; rintro e w8 ⟨v8, rfl, hb8, ho8⟩; obtain ⟨a8, c8, rfl, _⟩ := owns_slice ho8; obtain ⟨hc8, hf8⟩ := bcell hb8; have z8 := hb8.size
             have hbv8 := (BdsAt.of_owns ho8 (by omega)).below ((Below.refl _ _).alloc (Nat.le_refl _) (Obj.cells #[.int .i64 R2, .slice a8 L2.length c8] 24)))
          | (go_at_call 40; refine (hF _ _ _ hbv8).mono ?_; rintro e w9 ⟨rfl, hb9⟩; obtain ⟨hc9, hf9⟩ := bcell hb9; have s9 := lt_size hb9 (b := w8.heap.size) (by first | assumption | omega | (simp; done) | (simp; omega)))
          | (go_at_call 22; refine (hS _ _ _ (hbv8.below hb9)).mono ?_; rintro e w10 ⟨v10, rfl, hb10⟩)
          | (go_at_call 21; refine (lalive_any _).mono ?_; rintro e w11 ⟨rfl, hb11⟩))
        go_ret
        try simp only [World.size_alloc] at z8
        have q8 : Below w.heap.size w w8 := (q4.alloc (by omega) _).trans (hb8.mono (by first | omega | (simp; omega)))
        exact ⟨rfl, (q8.alloc (by omega) _).trans (hb11.mono (by simp; omega))⟩
    · have g2' : (askE q T c 0 == 0) = false := by simpa using g2
      simp only [g1] at hG1
      generalize (if bsdE p bs q T = 0 then p + q else 0) = R1 at *
      generalize bsdL p bs q T = L1 at *
      generalize bsdE p bs q T = E3 at *
      generalize askE q T c 0 = E2 at *
      generalize grN p bs x y = N1 at *
      generalize grB p bs x y = B1 at *
      generalize grN q T c 0 = N2 at *
      generalize grB q T c 0 = B2 at *
      clear g1 g2
      go_enter Try.func16, Try.ntmps16
      go_wp2_with (first
        | (go_at_call 20; have hg := hb0; clear hg; refine (hW2 _).mono ?_; rintro e w1 ⟨rfl, hb1⟩; obtain ⟨hc1, hf1⟩ := bcell hb1; have s1a := lt_size hb1 (b := w.heap.size) (by first | assumption | omega | (simp; done) | (simp; omega)); have s1b := lt_size hb1 (b := w.heap.size + 1) (by first | assumption | omega | (simp; done) | (simp; omega)))
        | (go_at_call 20; refine (hW _).mono ?_; rintro e w0 ⟨rfl, hb0⟩; obtain ⟨hc0, hf0⟩ := bcell hb0; have hz0a := lt_size hb0 (b := w.heap.size) (by first | assumption | omega | (simp; done) | (simp; omega)); have hz0b := lt_size hb0 (b := w.heap.size+1) (by first | assumption | omega | (simp; done) | (simp; omega)))
        | (go_at_call 36; have hg := hb6; clear hg; refine (hU3 _ _ _ ((hbu4.below hb5).below hb6)).mono ?_; rintro e w7 ⟨rfl, hb7⟩; obtain ⟨hc7, hf7⟩ := bcell hb7; have s7a := lt_size hb7 (b := w.heap.size) (by first | assumption | omega | (simp; done) | (simp; omega)); have hbs7 := ((hbs5.below hb5).below hb6).below hb7; have z5 := hb5.size; have z6 := hb6.size; have z7 := hb7.size; simp only [World.size_alloc] at z5
           have q7 : Below w.heap.size w w7 := (((q4.alloc (by omega) _).trans (hb5.mono (by simp; omega))).trans (hb6.mono (by omega))).trans (hb7.mono (by omega)))
        | (go_at_call 36; have hg := hb5; clear hg; refine (hU2 _ _ _ (hbu4.below hb5)).mono ?_; rintro e w6 ⟨rfl, hb6⟩; obtain ⟨hc6, hf6⟩ := bcell hb6; have s6a := lt_size hb6 (b := w.heap.size) (by first | assumption | omega | (simp; done) | (simp; omega)); have s6b := lt_size hb6 (b := w4.heap.size) (by first | assumption | omega | (simp; done) | (simp; omega)))
        | (go_at_call 36; have hg := hb4; clear hg; refine (hU1 _ _ _ hbu4).mono ?_; rintro e w5 ⟨rfl, hb5⟩; obtain ⟨hc5, hf5⟩ := bcell hb5; have s5a := lt_size hb5 (b := w.heap.size) (by first | assumption | omega | (simp; done) | (simp; omega)); have s5b := lt_size hb5 (b := w4.heap.size) (by first | assumption | omega | (simp; done) | (simp; omega)))
        | (go_at_call 36; have hg := hb2'; clear hg; refine (hG2 _ (((hbx2.below hb0).below hb1).below hb2')).mono ?_; rintro e w3 ⟨rfl, hb3⟩; obtain ⟨hc3, hf3⟩ := bcell hb3; have s3a := lt_size hb3 (b := w.heap.size) (by first | assumption | omega | (simp; done) | (simp; omega)); have s3b := lt_size hb3 (b := w.heap.size + 1) (by first | assumption | omega | (simp; done) | (simp; omega)))
        | (go_at_call 36; refine (hG1 _ ((hbx.below hb0).below hb1)).mono ?_; rintro e w2 ⟨rfl, hb2'⟩; obtain ⟨hc2, hf2⟩ := bcell hb2'; have s2a := lt_size hb2' (b := w.heap.size) (by first | assumption | omega | (simp; done) | (simp; omega)); have s2b := lt_size hb2' (b := w.heap.size + 1) (by first | assumption | omega | (simp; done) | (simp; omega)))
        | (go_at_call 44; refine (hA _ ((((hbx.below hb0).below hb1).below hb2').below hb3) ((((hbx2.below hb0).below hb1).below hb2').below hb3)).mono ?_; rintro e w4 ⟨v4, rfl, hb4, ho4⟩; obtain ⟨a4, c4, rfl, _⟩ := owns_slice ho4; obtain ⟨hc4, hf4⟩ := bcell hb4; have s4a := lt_size hb4 (b := w.heap.size) (by first | assumption | omega | (simp; done) | (simp; omega))
           have hbs4 := ((((hbx.below hb0).below hb1).below hb2').below hb3).below hb4
           have hbu4 := (BdsAt.of_owns ho4 (by omega)).below ((Below.refl _ _).alloc (Nat.le_refl _) (Obj.cells #[.int .i64 R1, .slice a4 L1.length c4] 24))
           have hbs5 := hbs4.below ((Below.refl _ _).alloc (Nat.le_refl _) (Obj.cells #[.int .i64 R1, .slice a4 L1.length c4] 24))
           have z0 := hb0.size
           have z1 := hb1.size
           have z2 := hb2'.size
           have z3 := hb3.size
           have z4 := hb4.size
           simp only [World.size_alloc] at z0
           have q4 : Below w.heap.size w w4 := ((((hB2.trans (hb0.mono (by simp; omega))).trans (hb1.mono (by omega))).trans (hb2'.mono (by omega))).trans (hb3.mono (by omega))).trans (hb4.mono (by omega)))
        | (go_at_call 50; refine (hT _ hbs5).mono ?_; rintro e w8 ⟨v8, rfl, hb8, ho8⟩; obtain ⟨a8, c8, rfl, _⟩ := owns_slice ho8; obtain ⟨hc8, hf8⟩ := bcell hb8; have z8 := hb8.size
           have hbv8 := (BdsAt.of_owns ho8 (by omega)).below ((Below.refl _ _).alloc (Nat.le_refl _) (Obj.cells #[.int .i64 R2, .slice a8 L2.length c8] 24)))
        | (go_at_call 40; refine (hF _ _ _ hbv8).mono ?_; rintro e w9 ⟨rfl, hb9⟩; obtain ⟨hc9, hf9⟩ := bcell hb9; have s9 := lt_size hb9 (b := w8.heap.size) (by first | assumption | omega | (simp; done) | (simp; omega)))
        | (go_at_call 22; refine (hS _ _ _ (hbv8.below hb9)).mono ?_; rintro e w10 ⟨v10, rfl, hb10⟩)
        | (go_at_call 21; refine (lalive_any _).mono ?_; rintro e w11 ⟨rfl, hb11⟩))
      go_ret
      try simp only [World.size_alloc] at z8
      have q8 : Below w.heap.size w w8 := (q4.alloc (by omega) _).trans (hb8.mono (by first | omega | (simp; omega)))
      exact ⟨rfl, (q8.alloc (by omega) _).trans (hb11.mono (by simp; omega))⟩
  · have g1' : (askE p bs x y == 0) = false := by simpa using g1
    generalize (if bsdE p bs q T = 0 then p + q else 0) = R1 at *
    generalize bsdL p bs q T = L1 at *
    generalize bsdE p bs q T = E3 at *
    generalize askE q T c 0 = E2 at *
    generalize askE p bs x y = E1 at *
    generalize grN p bs x y = N1 at *
    generalize grB p bs x y = B1 at *
    generalize grN q T c 0 = N2 at *
    generalize grB q T c 0 = B2 at *
    clear g1
    go_enter Try.func16, Try.ntmps16
    go_wp2_with (first
      | (go_at_call 20; have hg := hb0; clear hg; refine (hW2 _).mono ?_; rintro e w1 ⟨rfl, hb1⟩; obtain ⟨hc1, hf1⟩ := bcell hb1; have s1a := lt_size hb1 (b := w.heap.size) (by first | assumption | omega | (simp; done) | (simp; omega)); have s1b := lt_size hb1 (b := w.heap.size + 1) (by first | assumption | omega | (simp; done) | (simp; omega)))
      | (go_at_call 20; refine (hW _).mono ?_; rintro e w0 ⟨rfl, hb0⟩; obtain ⟨hc0, hf0⟩ := bcell hb0; have hz0a := lt_size hb0 (b := w.heap.size) (by first | assumption | omega | (simp; done) | (simp; omega)); have hz0b := lt_size hb0 (b := w.heap.size+1) (by first | assumption | omega | (simp; done) | (simp; omega)))
      | (go_at_call 36; have hg := hb6; clear hg; refine (hU3 _ _ _ ((hbu4.below hb5).below hb6)).mono ?_; rintro e w7 ⟨rfl, hb7⟩; obtain ⟨hc7, hf7⟩ := bcell hb7; have s7a := lt_size hb7 (b := w.heap.size) (by first | assumption | omega | (simp; done) | (simp; omega)); have hbs7 := ((hbs5.below hb5).below hb6).below hb7; have z5 := hb5.size; have z6 := hb6.size; have z7 := hb7.size; simp only [World.size_alloc] at z5
         have q7 : Below w.heap.size w w7 := (((q4.alloc (by omega) _).trans (hb5.mono (by simp; omega))).trans (hb6.mono (by omega))).trans (hb7.mono (by omega)))
      | (go_at_call 36; have hg := hb5; clear hg; refine (hU2 _ _ _ (hbu4.below hb5)).mono ?_; rintro e w6 ⟨rfl, hb6⟩; obtain ⟨hc6, hf6⟩ := bcell hb6; have s6a := lt_size hb6 (b := w.heap.size) (by first | assumption | omega | (simp; done) | (simp; omega)); have s6b := lt_size hb6 (b := w4.heap.size) (by first | assumption | omega | (simp; done) | (simp; omega)))
      | (go_at_call 36; have hg := hb4; clear hg; refine (hU1 _ _ _ hbu4).mono ?_; rintro e w5 ⟨rfl, hb5⟩; obtain ⟨hc5, hf5⟩ := bcell hb5; have s5a := lt_size hb5 (b := w.heap.size) (by first | assumption | omega | (simp; done) | (simp; omega)); have s5b := lt_size hb5 (b := w4.heap.size) (by first | assumption | omega | (simp; done) | (simp; omega)))
      | (go_at_call 36; have hg := hb2'; clear hg; refine (hG2 _ (((hbx2.below hb0).below hb1).below hb2')).mono ?_; rintro e w3 ⟨rfl, hb3⟩; obtain ⟨hc3, hf3⟩ := bcell hb3; have s3a := lt_size hb3 (b := w.heap.size) (by first | assumption | omega | (simp; done) | (simp; omega)); have s3b := lt_size hb3 (b := w.heap.size + 1) (by first | assumption | omega | (simp; done) | (simp; omega)))
      | (go_at_call 36; refine (hG1 _ ((hbx.below hb0).below hb1)).mono ?_; rintro e w2 ⟨rfl, hb2'⟩; obtain ⟨hc2, hf2⟩ := bcell hb2'; have s2a := lt_size hb2' (b := w.heap.size) (by first | assumption | omega | (simp; done) | (simp; omega)); have s2b := lt_size hb2' (b := w.heap.size + 1) (by first | assumption | omega | (simp; done) | (simp; omega)))
      | (go_at_call 44; refine (hA _ ((((hbx.below hb0).below hb1).below hb2').below hb3) ((((hbx2.below hb0).below hb1).below hb2').below hb3)).mono ?_; rintro e w4 ⟨v4, rfl, hb4, ho4⟩; obtain ⟨a4, c4, rfl, _⟩ := owns_slice ho4; obtain ⟨hc4, hf4⟩ := bcell hb4; have s4a := lt_size hb4 (b := w.heap.size) (by first | assumption | omega | (simp; done) | (simp; omega))
         have hbs4 := ((((hbx.below hb0).below hb1).below hb2').below hb3).below hb4
         have hbu4 := (BdsAt.of_owns ho4 (by omega)).below ((Below.refl _ _).alloc (Nat.le_refl _) (Obj.cells #[.int .i64 R1, .slice a4 L1.length c4] 24))
         have hbs5 := hbs4.below ((Below.refl _ _).alloc (Nat.le_refl _) (Obj.cells #[.int .i64 R1, .slice a4 L1.length c4] 24))
         have z0 := hb0.size
         have z1 := hb1.size
         have z2 := hb2'.size
         have z3 := hb3.size
         have z4 := hb4.size
         simp only [World.size_alloc] at z0
         have q4 : Below w.heap.size w w4 := ((((hB2.trans (hb0.mono (by simp; omega))).trans (hb1.mono (by omega))).trans (hb2'.mono (by omega))).trans (hb3.mono (by omega))).trans (hb4.mono (by omega)))
      | (go_at_call 50; refine (hT _ hbs5).mono ?_; rintro e w8 ⟨v8, rfl, hb8, ho8⟩; obtain ⟨a8, c8, rfl, _⟩ := owns_slice ho8; obtain ⟨hc8, hf8⟩ := bcell hb8; have z8 := hb8.size
         have hbv8 := (BdsAt.of_owns ho8 (by omega)).below ((Below.refl _ _).alloc (Nat.le_refl _) (Obj.cells #[.int .i64 R2, .slice a8 L2.length c8] 24)))
      | (go_at_call 40; refine (hF _ _ _ hbv8).mono ?_; rintro e w9 ⟨rfl, hb9⟩; obtain ⟨hc9, hf9⟩ := bcell hb9; have s9 := lt_size hb9 (b := w8.heap.size) (by first | assumption | omega | (simp; done) | (simp; omega)))
      | (go_at_call 22; refine (hS _ _ _ (hbv8.below hb9)).mono ?_; rintro e w10 ⟨v10, rfl, hb10⟩)
      | (go_at_call 21; refine (lalive_any _).mono ?_; rintro e w11 ⟨rfl, hb11⟩))
    go_ret
    try simp only [World.size_alloc] at z8
    have q8 : Below w.heap.size w w8 := (q4.alloc (by omega) _).trans (hb8.mono (by first | omega | (simp; omega)))
    exact ⟨rfl, (q8.alloc (by omega) _).trans (hb11.mono (by simp; omega))⟩

theorem law_beside1 (p : Int) (a : Option Addr) (n cap : Nat) (bs : List Bd) (q : Int) (a2 : Option Addr) (n2 cap2 : Nat) (T : List Bd) (x y c m : Int) (w : World) (hb : BdsAt w a n cap bs) (hn : n ≤ 140737488351232) (hb2 : BdsAt w a2 n2 cap2 T) (hn2 : n2 ≤ 140737488351232) (hn4 : n ≤ 403) (hn5 : n2 ≤ 403)
    (R2 : Int) (L2 : List Bd) (l2 : L2.length ≤ 1000)
    (hT : ∀ w1, BdsAt w1 a n cap bs → Calls Try.prog 50 #[.agg #[.int .i64 p, .slice a n cap], .int .i64 x, .int .i64 y, .int .i64 m] w1 fun e w' => ∃ v, e = .returned (.tuple #[.agg #[.int .i64 R2, v], .int .i64 0]) ∧ Below w1.heap.size w1 w' ∧ w'.ownsRow w1.heap.size 39 4 v L2.length (bcs L2))
    (hF : ∀ w1 b d, BdsAt w1 b L2.length d L2 → Calls Try.prog 40 #[.agg #[.int .i64 R2, .slice b L2.length d], .int .i64 x, .int .i64 y] w1 fun e w' => e = .returned (.tuple #[.int .i64 m, .bool true, .int .i64 0]) ∧ Below w1.heap.size w1 w')
    (hS : ∀ w1 b d, BdsAt w1 b L2.length d L2 → Calls Try.prog 22 #[.agg #[.int .i64 R2, .slice b L2.length d]] w1 fun e w' => ∃ v, e = .returned (.tuple #[v, .bool true, .int .i64 0]) ∧ Below w1.heap.size w1 w') :
    Calls Try.prog 16 #[.agg #[.int .i64 p, .slice a n cap], .agg #[.int .i64 q, .slice a2 n2 cap2], .int .i64 x, .int .i64 y, .int .i64 c, .int .i64 m] w fun e w' => e = .returned (.bool true) ∧ Below w.heap.size w w' := by
  have nm : (m == m) = true := by simp
  have hB2 : Below w.heap.size w ((w.alloc (Obj.cells #[.int .i64 p, .slice a n cap] 24)).alloc (Obj.cells #[.int .i64 q, .slice a2 n2 cap2] 24)) := by ((repeat (first | assumption | exact Below.refl _ _ | refine Below.alloc ?_ ?_ _ | refine Below.setCell ?_ ?_ _ | refine Below.drew ?_ | refine belowN ?_ | refine Below.up ?_ (by assumption) ?_)) <;> (first | assumption | omega | (simp; done) | (simp; omega)))
  have hbx := hb.below hB2
  have hbx2 := hb2.below hB2
  have hW := fun w1 => lwide_any p a n cap w1 hn
  have hW2 := fun w1 => lwide_any q a2 n2 cap2 w1 hn2
  have h1 : decide (n ≤ 403) = true := by simpa using hn4
  simp only [h1] at hW
  have h2 : decide (n2 ≤ 403) = true := by simpa using hn5
  simp only [h2] at hW2
  have hG1 := fun w1 (h : BdsAt w1 a n cap bs) => gGreatest_any p a n cap bs x y w1 h
  have hG2 := fun w1 (h : BdsAt w1 a2 n2 cap2 T) => gGreatest_any q a2 n2 cap2 T c 0 w1 h
  have hA := fun w1 (h : BdsAt w1 a n cap bs) (k : BdsAt w1 a2 n2 cap2 T) => gBeside_any p a n cap bs q a2 n2 cap2 T w1 h k
  have l1 := bsdL_small (p := p) (q := q) (bs := bs) (T := T)
  clear hn4 hn hn5 hn2
  by_cases g1 : askE p bs x y = 0
  · by_cases g2 : askE q T c 0 = 0
    · by_cases g3 : bsdE p bs q T = 0
      · obtain ⟨hc1, hxy, hok1⟩ := askE_zero g1
        obtain ⟨hc2, hc0, hok2⟩ := askE_zero g2
        have hcU : chk (p + q) (bs ++ shf p T) = 0 := by unfold bsdE at g3; rw [if_pos hc1, if_pos hc2] at g3; exact g3
        have hL1 : bsdL p bs q T = bs ++ shf p T := by unfold bsdL; rw [if_pos g3]
        obtain ⟨⟨k1, k2, k3⟩, ⟨k4, k5, k6⟩, k7, k8⟩ := beside_gr g1 g2 hcU
        obtain ⟨⟨c0, c1⟩, _⟩ := both_in hc0
        have p1 := (Sys.of_chk hc1).p1
        have p2 := (Sys.of_chk hc1).p2
        have q2 := (Sys.of_chk hc2).p2
        rw [hL1] at hA l1
        have hU1 := fun w1 b d (h : BdsAt w1 b (bs ++ shf p T).length d (bs ++ shf p T)) => gGreatest_any (p + q) b _ d _ x y w1 h
        have hU2 := fun w1 b d (h : BdsAt w1 b (bs ++ shf p T).length d (bs ++ shf p T)) => gGreatest_any (p + q) b _ d _ (p + c) p w1 h
        have hU3 := fun w1 b d (h : BdsAt w1 b (bs ++ shf p T).length d (bs ++ shf p T)) => gGreatest_any (p + q) b _ d _ x (p + c) w1 h
        simp only [k1, k2, k3] at hU1
        simp only [k4, k5, k6] at hU2
        simp only [k7, k8] at hU3
        simp only [g3, if_true] at hA
        simp only [g1] at hG1
        simp only [g2] at hG2
        obtain ⟨R1, hR1⟩ : ∃ R1, p + q = R1 := ⟨_, rfl⟩
        rw [hR1] at hA hU1 hU2 hU3
        have HR1 := Lib.hid hR1
        obtain ⟨N3, hN3⟩ : ∃ N3, grN R1 (bs ++ shf p T) x (p + c) = N3 := ⟨_, rfl⟩
        rw [hN3] at hU3
        clear hR1 hN3 k1 k2 k3 k4 k5 k6 k7 k8 hL1 hcU g1 g2 g3 hc1 hc2 hok1 hok2 hc0 hxy
        generalize bs ++ shf p T = L1 at *
        generalize grN p bs x y = N1 at *
        generalize grB p bs x y = B1 at *
        generalize grN q T c 0 = N2 at *
        generalize grB q T c 0 = B2 at *
        have n1 : (N1 != N1) = false := by simp
        have n2' : (N2 != N2) = false := by simp
        have n3 : (B1 != B1) = false := by simp
        have n4 : (B2 != B2) = false := by simp
        go_enter Try.func16, Try.ntmps16
        go_wp2_with (first
          | (go_at_call 20; have hg := hb0; clear hg; refine (hW2 _).mono ?_; rintro e w1 ⟨rfl, hb1⟩; obtain ⟨hc1, hf1⟩ := bcell hb1; have s1a := lt_size hb1 (b := w.heap.size) (by first | assumption | omega | (simp; done) | (simp; omega)); have s1b := lt_size hb1 (b := w.heap.size + 1) (by first | assumption | omega | (simp; done) | (simp; omega)))
          | (go_at_call 20; refine (hW _).mono ?_; rintro e w0 ⟨rfl, hb0⟩; obtain ⟨hc0, hf0⟩ := bcell hb0; have hz0a := lt_size hb0 (b := w.heap.size) (by first | assumption | omega | (simp; done) | (simp; omega)); have hz0b := lt_size hb0 (b := w.heap.size+1) (by first | assumption | omega | (simp; done) | (simp; omega)))
          | (go_at_call 36; have hg := hb6; clear hg; refine (hU3 _ _ _ ((hbu4.below hb5).below hb6)).mono ?_; rintro e w7 ⟨rfl, hb7⟩; obtain ⟨hc7, hf7⟩ := bcell hb7; have s7a := lt_size hb7 (b := w.heap.size) (by first | assumption | omega | (simp; done) | (simp; omega)); have hbs7 := ((hbs5.below hb5).below hb6).below hb7; have z5 := hb5.size; have z6 := hb6.size; have z7 := hb7.size; simp only [World.size_alloc] at z5
             have q7 : Below w.heap.size w w7 := (((q4.alloc (by omega) _).trans (hb5.mono (by simp; omega))).trans (hb6.mono (by omega))).trans (hb7.mono (by omega)))
          | (go_at_call 36; have hg := hb5; clear hg; refine (hU2 _ _ _ (hbu4.below hb5)).mono ?_; rintro e w6 ⟨rfl, hb6⟩; obtain ⟨hc6, hf6⟩ := bcell hb6; have s6a := lt_size hb6 (b := w.heap.size) (by first | assumption | omega | (simp; done) | (simp; omega)); have s6b := lt_size hb6 (b := w4.heap.size) (by first | assumption | omega | (simp; done) | (simp; omega)))
          | (go_at_call 36; have hg := hb4; clear hg; refine (hU1 _ _ _ hbu4).mono ?_; rintro e w5 ⟨rfl, hb5⟩; obtain ⟨hc5, hf5⟩ := bcell hb5; have s5a := lt_size hb5 (b := w.heap.size) (by first | assumption | omega | (simp; done) | (simp; omega)); have s5b := lt_size hb5 (b := w4.heap.size) (by first | assumption | omega | (simp; done) | (simp; omega)))
          | (go_at_call 36; have hg := hb2'; clear hg; refine (hG2 _ (((hbx2.below hb0).below hb1).below hb2')).mono ?_; rintro e w3 ⟨rfl, hb3⟩; obtain ⟨hc3, hf3⟩ := bcell hb3; have s3a := lt_size hb3 (b := w.heap.size) (by first | assumption | omega | (simp; done) | (simp; omega)); have s3b := lt_size hb3 (b := w.heap.size + 1) (by first | assumption | omega | (simp; done) | (simp; omega)))
          | (go_at_call 36; refine (hG1 _ ((hbx.below hb0).below hb1)).mono ?_; rintro e w2 ⟨rfl, hb2'⟩; obtain ⟨hc2, hf2⟩ := bcell hb2'; have s2a := lt_size hb2' (b := w.heap.size) (by first | assumption | omega | (simp; done) | (simp; omega)); have s2b := lt_size hb2' (b := w.heap.size + 1) (by first | assumption | omega | (simp; done) | (simp; omega)))
          | (go_at_call 44; refine (hA _ ((((hbx.below hb0).below hb1).below hb2').below hb3) ((((hbx2.below hb0).below hb1).below hb2').below hb3)).mono ?_; rintro e w4 ⟨v4, rfl, hb4, ho4⟩; obtain ⟨a4, c4, rfl, _⟩ := owns_slice ho4; obtain ⟨hc4, hf4⟩ := bcell hb4; have s4a := lt_size hb4 (b := w.heap.size) (by first | assumption | omega | (simp; done) | (simp; omega))
             have hbs4 := ((((hbx.below hb0).below hb1).below hb2').below hb3).below hb4
             have hbu4 := (BdsAt.of_owns ho4 (by omega)).below ((Below.refl _ _).alloc (Nat.le_refl _) (Obj.cells #[.int .i64 R1, .slice a4 L1.length c4] 24))
             have hbs5 := hbs4.below ((Below.refl _ _).alloc (Nat.le_refl _) (Obj.cells #[.int .i64 R1, .slice a4 L1.length c4] 24))
             have z0 := hb0.size
             have z1 := hb1.size
             have z2 := hb2'.size
             have z3 := hb3.size
             have z4 := hb4.size
             simp only [World.size_alloc] at z0
             have q4 : Below w.heap.size w w4 := ((((hB2.trans (hb0.mono (by simp; omega))).trans (hb1.mono (by omega))).trans (hb2'.mono (by omega))).trans (hb3.mono (by omega))).trans (hb4.mono (by omega)))
          | (go_at_call 50; refine (hT _ hbs7).mono ?_; rintro e w8 ⟨v8, rfl, hb8, ho8⟩; obtain ⟨a8, c8, rfl, _⟩ := owns_slice ho8; obtain ⟨hc8, hf8⟩ := bcell hb8; have z8 := hb8.size
             have hbv8 := (BdsAt.of_owns ho8 (by omega)).below ((Below.refl _ _).alloc (Nat.le_refl _) (Obj.cells #[.int .i64 R2, .slice a8 L2.length c8] 24)))
          | (go_at_call 40; refine (hF _ _ _ hbv8).mono ?_; rintro e w9 ⟨rfl, hb9⟩; obtain ⟨hc9, hf9⟩ := bcell hb9; have s9 := lt_size hb9 (b := w8.heap.size) (by first | assumption | omega | (simp; done) | (simp; omega)))
          | (go_at_call 22; refine (hS _ _ _ (hbv8.below hb9)).mono ?_; rintro e w10 ⟨v10, rfl, hb10⟩)
          | (go_at_call 21; refine (lalive_any _).mono ?_; rintro e w11 ⟨rfl, hb11⟩))
        go_ret
        try simp only [World.size_alloc] at z8
        have z9 := hb9.size
        have z10 := hb10.size
        simp only [World.size_alloc] at z9
        have q8 : Below w.heap.size w w8 := (q7.mono (Nat.le_refl _)).trans (hb8.mono (by first | omega | (simp; omega)))
        exact ⟨rfl, (((q8.alloc (by omega) _).trans (hb9.mono (by simp; omega))).trans (hb10.mono (by omega))).trans (hb11.mono (by omega))⟩
      · have g3' : (bsdE p bs q T == 0) = false := by simpa using g3
        simp only [g1] at hG1
        simp only [g2] at hG2
        generalize (if bsdE p bs q T = 0 then p + q else 0) = R1 at *
        generalize bsdL p bs q T = L1 at *
        generalize bsdE p bs q T = E3 at *
        generalize grN p bs x y = N1 at *
        generalize grB p bs x y = B1 at *
        generalize grN q T c 0 = N2 at *
        generalize grB q T c 0 = B2 at *
        clear g1 g2 g3
        go_enter Try.func16, Try.ntmps16
        go_wp2_with (first
          | (go_at_call 20; have hg := hb0; clear hg; refine (hW2 _).mono ?_; rintro e w1 ⟨rfl, hb1⟩; obtain ⟨hc1, hf1⟩ := bcell hb1; have s1a := lt_size hb1 (b := w.heap.size) (by first | assumption | omega | (simp; done) | (simp; omega)); have s1b := lt_size hb1 (b := w.heap.size + 1) (by first | assumption | omega | (simp; done) | (simp; omega)))
          | (go_at_call 20; refine (hW _).mono ?_; rintro e w0 ⟨rfl, hb0⟩; obtain ⟨hc0, hf0⟩ := bcell hb0; have hz0a := lt_size hb0 (b := w.heap.size) (by first | assumption | omega | (simp; done) | (simp; omega)); have hz0b := lt_size hb0 (b := w.heap.size+1) (by first | assumption | omega | (simp; done) | (simp; omega)))
          | (go_at_call 36; have hg := hb6; clear hg; refine (hU3 _ _ _ ((hbu4.below hb5).below hb6)).mono ?_; rintro e w7 ⟨rfl, hb7⟩; obtain ⟨hc7, hf7⟩ := bcell hb7; have s7a := lt_size hb7 (b := w.heap.size) (by first | assumption | omega | (simp; done) | (simp; omega)); have hbs7 := ((hbs5.below hb5).below hb6).below hb7; have z5 := hb5.size; have z6 := hb6.size; have z7 := hb7.size; simp only [World.size_alloc] at z5
             have q7 : Below w.heap.size w w7 := (((q4.alloc (by omega) _).trans (hb5.mono (by simp; omega))).trans (hb6.mono (by omega))).trans (hb7.mono (by omega)))
          | (go_at_call 36; have hg := hb5; clear hg; refine (hU2 _ _ _ (hbu4.below hb5)).mono ?_; rintro e w6 ⟨rfl, hb6⟩; obtain ⟨hc6, hf6⟩ := bcell hb6; have s6a := lt_size hb6 (b := w.heap.size) (by first | assumption | omega | (simp; done) | (simp; omega)); have s6b := lt_size hb6 (b := w4.heap.size) (by first | assumption | omega | (simp; done) | (simp; omega)))
          | (go_at_call 36; have hg := hb4; clear hg; refine (hU1 _ _ _ hbu4).mono ?_; rintro e w5 ⟨rfl, hb5⟩; obtain ⟨hc5, hf5⟩ := bcell hb5; have s5a := lt_size hb5 (b := w.heap.size) (by first | assumption | omega | (simp; done) | (simp; omega)); have s5b := lt_size hb5 (b := w4.heap.size) (by first | assumption | omega | (simp; done) | (simp; omega)))
          | (go_at_call 36; have hg := hb2'; clear hg; refine (hG2 _ (((hbx2.below hb0).below hb1).below hb2')).mono ?_; rintro e w3 ⟨rfl, hb3⟩; obtain ⟨hc3, hf3⟩ := bcell hb3; have s3a := lt_size hb3 (b := w.heap.size) (by first | assumption | omega | (simp; done) | (simp; omega)); have s3b := lt_size hb3 (b := w.heap.size + 1) (by first | assumption | omega | (simp; done) | (simp; omega)))
          | (go_at_call 36; refine (hG1 _ ((hbx.below hb0).below hb1)).mono ?_; rintro e w2 ⟨rfl, hb2'⟩; obtain ⟨hc2, hf2⟩ := bcell hb2'; have s2a := lt_size hb2' (b := w.heap.size) (by first | assumption | omega | (simp; done) | (simp; omega)); have s2b := lt_size hb2' (b := w.heap.size + 1) (by first | assumption | omega | (simp; done) | (simp; omega)))
          | (go_at_call 44; refine (hA _ ((((hbx.below hb0).below hb1).below hb2').below hb3) ((((hbx2.below hb0).below hb1).below hb2').below hb3)).mono ?_; rintro e w4 ⟨v4, rfl, hb4, ho4⟩; obtain ⟨a4, c4, rfl, _⟩ := owns_slice ho4; obtain ⟨hc4, hf4⟩ := bcell hb4; have s4a := lt_size hb4 (b := w.heap.size) (by first | assumption | omega | (simp; done) | (simp; omega))
             have hbs4 := ((((hbx.below hb0).below hb1).below hb2').below hb3).below hb4
             have hbu4 := (BdsAt.of_owns ho4 (by omega)).below ((Below.refl _ _).alloc (Nat.le_refl _) (Obj.cells #[.int .i64 R1, .slice a4 L1.length c4] 24))
             have hbs5 := hbs4.below ((Below.refl _ _).alloc (Nat.le_refl _) (Obj.cells #[.int .i64 R1, .slice a4 L1.length c4] 24))
             have z0 := hb0.size
             have z1 := hb1.size
             have z2 := hb2'.size
             have z3 := hb3.size
             have z4 := hb4.size
             simp only [World.size_alloc] at z0
             have q4 : Below w.heap.size w w4 := ((((hB2.trans (hb0.mono (by simp; omega))).trans (hb1.mono (by omega))).trans (hb2'.mono (by omega))).trans (hb3.mono (by omega))).trans (hb4.mono (by omega)))
          | (go_at_call 50; refine (hT _ hbs5).mono ?_; rintro e w8 ⟨v8, rfl, hb8, ho8⟩; obtain ⟨a8, c8, rfl, _⟩ := owns_slice ho8; obtain ⟨hc8, hf8⟩ := bcell hb8; have z8 := hb8.size
             have hbv8 := (BdsAt.of_owns ho8 (by omega)).below ((Below.refl _ _).alloc (Nat.le_refl _) (Obj.cells #[.int .i64 R2, .slice a8 L2.length c8] 24)))
          | (go_at_call 40; refine (hF _ _ _ hbv8).mono ?_; rintro e w9 ⟨rfl, hb9⟩; obtain ⟨hc9, hf9⟩ := bcell hb9; have s9 := lt_size hb9 (b := w8.heap.size) (by first | assumption | omega | (simp; done) | (simp; omega)))
          | (go_at_call 22; refine (hS _ _ _ (hbv8.below hb9)).mono ?_; rintro e w10 ⟨v10, rfl, hb10⟩)
          | (go_at_call 21; refine (lalive_any _).mono ?_; rintro e w11 ⟨rfl, hb11⟩))
        go_ret
        try simp only [World.size_alloc] at z8
        have z9 := hb9.size
        have z10 := hb10.size
        simp only [World.size_alloc] at z9
        have q8 : Below w.heap.size w w8 := (q4.alloc (by omega) _).trans (hb8.mono (by first | omega | (simp; omega)))
        exact ⟨rfl, (((q8.alloc (by omega) _).trans (hb9.mono (by simp; omega))).trans (hb10.mono (by omega))).trans (hb11.mono (by omega))⟩
    · have g2' : (askE q T c 0 == 0) = false := by simpa using g2
      simp only [g1] at hG1
      generalize (if bsdE p bs q T = 0 then p + q else 0) = R1 at *
      generalize bsdL p bs q T = L1 at *
      generalize bsdE p bs q T = E3 at *
      generalize askE q T c 0 = E2 at *
      generalize grN p bs x y = N1 at *
      generalize grB p bs x y = B1 at *
      generalize grN q T c 0 = N2 at *
      generalize grB q T c 0 = B2 at *
      clear g1 g2
      go_enter Try.func16, Try.ntmps16
      go_wp2_with (first
        | (go_at_call 20; have hg := hb0; clear hg; refine (hW2 _).mono ?_; rintro e w1 ⟨rfl, hb1⟩; obtain ⟨hc1, hf1⟩ := bcell hb1; have s1a := lt_size hb1 (b := w.heap.size) (by first | assumption | omega | (simp; done) | (simp; omega)); have s1b := lt_size hb1 (b := w.heap.size + 1) (by first | assumption | omega | (simp; done) | (simp; omega)))
        | (go_at_call 20; refine (hW _).mono ?_; rintro e w0 ⟨rfl, hb0⟩; obtain ⟨hc0, hf0⟩ := bcell hb0; have hz0a := lt_size hb0 (b := w.heap.size) (by first | assumption | omega | (simp; done) | (simp; omega)); have hz0b := lt_size hb0 (b := w.heap.size+1) (by first | assumption | omega | (simp; done) | (simp; omega)))
        | (go_at_call 36; have hg := hb6; clear hg; refine (hU3 _ _ _ ((hbu4.below hb5).below hb6)).mono ?_; rintro e w7 ⟨rfl, hb7⟩; obtain ⟨hc7, hf7⟩ := bcell hb7; have s7a := lt_size hb7 (b := w.heap.size) (by first | assumption | omega | (simp; done) | (simp; omega)); have hbs7 := ((hbs5.below hb5).below hb6).below hb7; have z5 := hb5.size; have z6 := hb6.size; have z7 := hb7.size; simp only [World.size_alloc] at z5
           have q7 : Below w.heap.size w w7 := (((q4.alloc (by omega) _).trans (hb5.mono (by simp; omega))).trans (hb6.mono (by omega))).trans (hb7.mono (by omega)))
        | (go_at_call 36; have hg := hb5; clear hg; refine (hU2 _ _ _ (hbu4.below hb5)).mono ?_; rintro e w6 ⟨rfl, hb6⟩; obtain ⟨hc6, hf6⟩ := bcell hb6; have s6a := lt_size hb6 (b := w.heap.size) (by first | assumption | omega | (simp; done) | (simp; omega)); have s6b := lt_size hb6 (b := w4.heap.size) (by first | assumption | omega | (simp; done) | (simp; omega)))
        | (go_at_call 36; have hg := hb4; clear hg; refine (hU1 _ _ _ hbu4).mono ?_; rintro e w5 ⟨rfl, hb5⟩; obtain ⟨hc5, hf5⟩ := bcell hb5; have s5a := lt_size hb5 (b := w.heap.size) (by first | assumption | omega | (simp; done) | (simp; omega)); have s5b := lt_size hb5 (b := w4.heap.size) (by first | assumption | omega | (simp; done) | (simp; omega)))
        | (go_at_call 36; have hg := hb2'; clear hg; refine (hG2 _ (((hbx2.below hb0).below hb1).below hb2')).mono ?_; rintro e w3 ⟨rfl, hb3⟩; obtain ⟨hc3, hf3⟩ := bcell hb3; have s3a := lt_size hb3 (b := w.heap.size) (by first | assumption | omega | (simp; done) | (simp; omega)); have s3b := lt_size hb3 (b := w.heap.size + 1) (by first | assumption | omega | (simp; done) | (simp; omega)))
        | (go_at_call 36; refine (hG1 _ ((hbx.below hb0).below hb1)).mono ?_; rintro e w2 ⟨rfl, hb2'⟩; obtain ⟨hc2, hf2⟩ := bcell hb2'; have s2a := lt_size hb2' (b := w.heap.size) (by first | assumption | omega | (simp; done) | (simp; omega)); have s2b := lt_size hb2' (b := w.heap.size + 1) (by first | assumption | omega | (simp; done) | (simp; omega)))
        | (go_at_call 44; refine (hA _ ((((hbx.below hb0).below hb1).below hb2').below hb3) ((((hbx2.below hb0).below hb1).below hb2').below hb3)).mono ?_; rintro e w4 ⟨v4, rfl, hb4, ho4⟩; obtain ⟨a4, c4, rfl, _⟩ := owns_slice ho4; obtain ⟨hc4, hf4⟩ := bcell hb4; have s4a := lt_size hb4 (b := w.heap.size) (by first | assumption | omega | (simp; done) | (simp; omega))
           have hbs4 := ((((hbx.below hb0).below hb1).below hb2').below hb3).below hb4
           have hbu4 := (BdsAt.of_owns ho4 (by omega)).below ((Below.refl _ _).alloc (Nat.le_refl _) (Obj.cells #[.int .i64 R1, .slice a4 L1.length c4] 24))
           have hbs5 := hbs4.below ((Below.refl _ _).alloc (Nat.le_refl _) (Obj.cells #[.int .i64 R1, .slice a4 L1.length c4] 24))
           have z0 := hb0.size
           have z1 := hb1.size
           have z2 := hb2'.size
           have z3 := hb3.size
           have z4 := hb4.size
           simp only [World.size_alloc] at z0
           have q4 : Below w.heap.size w w4 := ((((hB2.trans (hb0.mono (by simp; omega))).trans (hb1.mono (by omega))).trans (hb2'.mono (by omega))).trans (hb3.mono (by omega))).trans (hb4.mono (by omega)))
        | (go_at_call 50; refine (hT _ hbs5).mono ?_; rintro e w8 ⟨v8, rfl, hb8, ho8⟩; obtain ⟨a8, c8, rfl, _⟩ := owns_slice ho8; obtain ⟨hc8, hf8⟩ := bcell hb8; have z8 := hb8.size
           have hbv8 := (BdsAt.of_owns ho8 (by omega)).below ((Below.refl _ _).alloc (Nat.le_refl _) (Obj.cells #[.int .i64 R2, .slice a8 L2.length c8] 24)))
        | (go_at_call 40; refine (hF _ _ _ hbv8).mono ?_; rintro e w9 ⟨rfl, hb9⟩; obtain ⟨hc9, hf9⟩ := bcell hb9; have s9 := lt_size hb9 (b := w8.heap.size) (by first | assumption | omega | (simp; done) | (simp; omega)))
        | (go_at_call 22; refine (hS _ _ _ (hbv8.below hb9)).mono ?_; rintro e w10 ⟨v10, rfl, hb10⟩)
        | (go_at_call 21; refine (lalive_any _).mono ?_; rintro e w11 ⟨rfl, hb11⟩))
      go_ret
      try simp only [World.size_alloc] at z8
      have z9 := hb9.size
      have z10 := hb10.size
      simp only [World.size_alloc] at z9
      have q8 : Below w.heap.size w w8 := (q4.alloc (by omega) _).trans (hb8.mono (by first | omega | (simp; omega)))
      exact ⟨rfl, (((q8.alloc (by omega) _).trans (hb9.mono (by simp; omega))).trans (hb10.mono (by omega))).trans (hb11.mono (by omega))⟩
  · have g1' : (askE p bs x y == 0) = false := by simpa using g1
    generalize (if bsdE p bs q T = 0 then p + q else 0) = R1 at *
    generalize bsdL p bs q T = L1 at *
    generalize bsdE p bs q T = E3 at *
    generalize askE q T c 0 = E2 at *
    generalize askE p bs x y = E1 at *
    generalize grN p bs x y = N1 at *
    generalize grB p bs x y = B1 at *
    generalize grN q T c 0 = N2 at *
    generalize grB q T c 0 = B2 at *
    clear g1
    go_enter Try.func16, Try.ntmps16
    go_wp2_with (first
      | (go_at_call 20; have hg := hb0; clear hg; refine (hW2 _).mono ?_; rintro e w1 ⟨rfl, hb1⟩; obtain ⟨hc1, hf1⟩ := bcell hb1; have s1a := lt_size hb1 (b := w.heap.size) (by first | assumption | omega | (simp; done) | (simp; omega)); have s1b := lt_size hb1 (b := w.heap.size + 1) (by first | assumption | omega | (simp; done) | (simp; omega)))
      | (go_at_call 20; refine (hW _).mono ?_; rintro e w0 ⟨rfl, hb0⟩; obtain ⟨hc0, hf0⟩ := bcell hb0; have hz0a := lt_size hb0 (b := w.heap.size) (by first | assumption | omega | (simp; done) | (simp; omega)); have hz0b := lt_size hb0 (b := w.heap.size+1) (by first | assumption | omega | (simp; done) | (simp; omega)))
      | (go_at_call 36; have hg := hb6; clear hg; refine (hU3 _ _ _ ((hbu4.below hb5).below hb6)).mono ?_; rintro e w7 ⟨rfl, hb7⟩; obtain ⟨hc7, hf7⟩ := bcell hb7; have s7a := lt_size hb7 (b := w.heap.size) (by first | assumption | omega | (simp; done) | (simp; omega)); have hbs7 := ((hbs5.below hb5).below hb6).below hb7; have z5 := hb5.size; have z6 := hb6.size; have z7 := hb7.size; simp only [World.size_alloc] at z5
         have q7 : Below w.heap.size w w7 := (((q4.alloc (by omega) _).trans (hb5.mono (by simp; omega))).trans (hb6.mono (by omega))).trans (hb7.mono (by omega)))
      | (go_at_call 36; have hg := hb5; clear hg; refine (hU2 _ _ _ (hbu4.below hb5)).mono ?_; rintro e w6 ⟨rfl, hb6⟩; obtain ⟨hc6, hf6⟩ := bcell hb6; have s6a := lt_size hb6 (b := w.heap.size) (by first | assumption | omega | (simp; done) | (simp; omega)); have s6b := lt_size hb6 (b := w4.heap.size) (by first | assumption | omega | (simp; done) | (simp; omega)))
      | (go_at_call 36; have hg := hb4; clear hg; refine (hU1 _ _ _ hbu4).mono ?_; rintro e w5 ⟨rfl, hb5⟩; obtain ⟨hc5, hf5⟩ := bcell hb5; have s5a := lt_size hb5 (b := w.heap.size) (by first | assumption | omega | (simp; done) | (simp; omega)); have s5b := lt_size hb5 (b := w4.heap.size) (by first | assumption | omega | (simp; done) | (simp; omega)))
      | (go_at_call 36; have hg := hb2'; clear hg; refine (hG2 _ (((hbx2.below hb0).below hb1).below hb2')).mono ?_; rintro e w3 ⟨rfl, hb3⟩; obtain ⟨hc3, hf3⟩ := bcell hb3; have s3a := lt_size hb3 (b := w.heap.size) (by first | assumption | omega | (simp; done) | (simp; omega)); have s3b := lt_size hb3 (b := w.heap.size + 1) (by first | assumption | omega | (simp; done) | (simp; omega)))
      | (go_at_call 36; refine (hG1 _ ((hbx.below hb0).below hb1)).mono ?_; rintro e w2 ⟨rfl, hb2'⟩; obtain ⟨hc2, hf2⟩ := bcell hb2'; have s2a := lt_size hb2' (b := w.heap.size) (by first | assumption | omega | (simp; done) | (simp; omega)); have s2b := lt_size hb2' (b := w.heap.size + 1) (by first | assumption | omega | (simp; done) | (simp; omega)))
      | (go_at_call 44; refine (hA _ ((((hbx.below hb0).below hb1).below hb2').below hb3) ((((hbx2.below hb0).below hb1).below hb2').below hb3)).mono ?_; rintro e w4 ⟨v4, rfl, hb4, ho4⟩; obtain ⟨a4, c4, rfl, _⟩ := owns_slice ho4; obtain ⟨hc4, hf4⟩ := bcell hb4; have s4a := lt_size hb4 (b := w.heap.size) (by first | assumption | omega | (simp; done) | (simp; omega))
         have hbs4 := ((((hbx.below hb0).below hb1).below hb2').below hb3).below hb4
         have hbu4 := (BdsAt.of_owns ho4 (by omega)).below ((Below.refl _ _).alloc (Nat.le_refl _) (Obj.cells #[.int .i64 R1, .slice a4 L1.length c4] 24))
         have hbs5 := hbs4.below ((Below.refl _ _).alloc (Nat.le_refl _) (Obj.cells #[.int .i64 R1, .slice a4 L1.length c4] 24))
         have z0 := hb0.size
         have z1 := hb1.size
         have z2 := hb2'.size
         have z3 := hb3.size
         have z4 := hb4.size
         simp only [World.size_alloc] at z0
         have q4 : Below w.heap.size w w4 := ((((hB2.trans (hb0.mono (by simp; omega))).trans (hb1.mono (by omega))).trans (hb2'.mono (by omega))).trans (hb3.mono (by omega))).trans (hb4.mono (by omega)))
      | (go_at_call 50; refine (hT _ hbs5).mono ?_; rintro e w8 ⟨v8, rfl, hb8, ho8⟩; obtain ⟨a8, c8, rfl, _⟩ := owns_slice ho8; obtain ⟨hc8, hf8⟩ := bcell hb8; have z8 := hb8.size
         have hbv8 := (BdsAt.of_owns ho8 (by omega)).below ((Below.refl _ _).alloc (Nat.le_refl _) (Obj.cells #[.int .i64 R2, .slice a8 L2.length c8] 24)))
      | (go_at_call 40; refine (hF _ _ _ hbv8).mono ?_; rintro e w9 ⟨rfl, hb9⟩; obtain ⟨hc9, hf9⟩ := bcell hb9; have s9 := lt_size hb9 (b := w8.heap.size) (by first | assumption | omega | (simp; done) | (simp; omega)))
      | (go_at_call 22; refine (hS _ _ _ (hbv8.below hb9)).mono ?_; rintro e w10 ⟨v10, rfl, hb10⟩)
      | (go_at_call 21; refine (lalive_any _).mono ?_; rintro e w11 ⟨rfl, hb11⟩))
    go_ret
    try simp only [World.size_alloc] at z8
    have z9 := hb9.size
    have z10 := hb10.size
    simp only [World.size_alloc] at z9
    have q8 : Below w.heap.size w w8 := (q4.alloc (by omega) _).trans (hb8.mono (by first | omega | (simp; omega)))
    exact ⟨rfl, (((q8.alloc (by omega) _).trans (hb9.mono (by simp; omega))).trans (hb10.mono (by omega))).trans (hb11.mono (by omega))⟩

theorem law_beside2 (p : Int) (a : Option Addr) (n cap : Nat) (bs : List Bd) (q : Int) (a2 : Option Addr) (n2 cap2 : Nat) (T : List Bd) (x y c m : Int) (w : World) (hb : BdsAt w a n cap bs) (hn : n ≤ 140737488351232) (hb2 : BdsAt w a2 n2 cap2 T) (hn2 : n2 ≤ 140737488351232) (hn4 : n ≤ 403) (hn5 : n2 ≤ 403)
    (R2 : Int) (L2 : List Bd) (l2 : L2.length ≤ 1000) (N5 : Int)
    (hT : ∀ w1, BdsAt w1 a n cap bs → Calls Try.prog 50 #[.agg #[.int .i64 p, .slice a n cap], .int .i64 x, .int .i64 y, .int .i64 m] w1 fun e w' => ∃ v, e = .returned (.tuple #[.agg #[.int .i64 R2, v], .int .i64 0]) ∧ Below w1.heap.size w1 w' ∧ w'.ownsRow w1.heap.size 39 4 v L2.length (bcs L2))
    (hF : ∀ w1 b d, BdsAt w1 b L2.length d L2 → Calls Try.prog 40 #[.agg #[.int .i64 R2, .slice b L2.length d], .int .i64 x, .int .i64 y] w1 fun e w' => e = .returned (.tuple #[.int .i64 N5, .bool false, .int .i64 10]) ∧ Below w1.heap.size w1 w')
    (hS : ∀ w1 b d, BdsAt w1 b L2.length d L2 → Calls Try.prog 22 #[.agg #[.int .i64 R2, .slice b L2.length d]] w1 fun e w' => ∃ v, e = .returned (.tuple #[v, .bool false, .int .i64 0]) ∧ Below w1.heap.size w1 w') :
    Calls Try.prog 16 #[.agg #[.int .i64 p, .slice a n cap], .agg #[.int .i64 q, .slice a2 n2 cap2], .int .i64 x, .int .i64 y, .int .i64 c, .int .i64 m] w fun e w' => e = .returned (.bool true) ∧ Below w.heap.size w w' := by
  have hB2 : Below w.heap.size w ((w.alloc (Obj.cells #[.int .i64 p, .slice a n cap] 24)).alloc (Obj.cells #[.int .i64 q, .slice a2 n2 cap2] 24)) := by ((repeat (first | assumption | exact Below.refl _ _ | refine Below.alloc ?_ ?_ _ | refine Below.setCell ?_ ?_ _ | refine Below.drew ?_ | refine belowN ?_ | refine Below.up ?_ (by assumption) ?_)) <;> (first | assumption | omega | (simp; done) | (simp; omega)))
  have hbx := hb.below hB2
  have hbx2 := hb2.below hB2
  have hW := fun w1 => lwide_any p a n cap w1 hn
  have hW2 := fun w1 => lwide_any q a2 n2 cap2 w1 hn2
  have h1 : decide (n ≤ 403) = true := by simpa using hn4
  simp only [h1] at hW
  have h2 : decide (n2 ≤ 403) = true := by simpa using hn5
  simp only [h2] at hW2
  have hG1 := fun w1 (h : BdsAt w1 a n cap bs) => gGreatest_any p a n cap bs x y w1 h
  have hG2 := fun w1 (h : BdsAt w1 a2 n2 cap2 T) => gGreatest_any q a2 n2 cap2 T c 0 w1 h
  have hA := fun w1 (h : BdsAt w1 a n cap bs) (k : BdsAt w1 a2 n2 cap2 T) => gBeside_any p a n cap bs q a2 n2 cap2 T w1 h k
  have l1 := bsdL_small (p := p) (q := q) (bs := bs) (T := T)
  clear hn4 hn hn5 hn2
  by_cases g1 : askE p bs x y = 0
  · by_cases g2 : askE q T c 0 = 0
    · by_cases g3 : bsdE p bs q T = 0
      · obtain ⟨hc1, hxy, hok1⟩ := askE_zero g1
        obtain ⟨hc2, hc0, hok2⟩ := askE_zero g2
        have hcU : chk (p + q) (bs ++ shf p T) = 0 := by unfold bsdE at g3; rw [if_pos hc1, if_pos hc2] at g3; exact g3
        have hL1 : bsdL p bs q T = bs ++ shf p T := by unfold bsdL; rw [if_pos g3]
        obtain ⟨⟨k1, k2, k3⟩, ⟨k4, k5, k6⟩, k7, k8⟩ := beside_gr g1 g2 hcU
        obtain ⟨⟨c0, c1⟩, _⟩ := both_in hc0
        have p1 := (Sys.of_chk hc1).p1
        have p2 := (Sys.of_chk hc1).p2
        have q2 := (Sys.of_chk hc2).p2
        rw [hL1] at hA l1
        have hU1 := fun w1 b d (h : BdsAt w1 b (bs ++ shf p T).length d (bs ++ shf p T)) => gGreatest_any (p + q) b _ d _ x y w1 h
        have hU2 := fun w1 b d (h : BdsAt w1 b (bs ++ shf p T).length d (bs ++ shf p T)) => gGreatest_any (p + q) b _ d _ (p + c) p w1 h
        have hU3 := fun w1 b d (h : BdsAt w1 b (bs ++ shf p T).length d (bs ++ shf p T)) => gGreatest_any (p + q) b _ d _ x (p + c) w1 h
        simp only [k1, k2, k3] at hU1
        simp only [k4, k5, k6] at hU2
        simp only [k7, k8] at hU3
        simp only [g3, if_true] at hA
        simp only [g1] at hG1
        simp only [g2] at hG2
        obtain ⟨R1, hR1⟩ : ∃ R1, p + q = R1 := ⟨_, rfl⟩
        rw [hR1] at hA hU1 hU2 hU3
        have HR1 := Lib.hid hR1
        obtain ⟨N3, hN3⟩ : ∃ N3, grN R1 (bs ++ shf p T) x (p + c) = N3 := ⟨_, rfl⟩
        rw [hN3] at hU3
        clear hR1 hN3 k1 k2 k3 k4 k5 k6 k7 k8 hL1 hcU g1 g2 g3 hc1 hc2 hok1 hok2 hc0 hxy
        generalize bs ++ shf p T = L1 at *
        generalize grN p bs x y = N1 at *
        generalize grB p bs x y = B1 at *
        generalize grN q T c 0 = N2 at *
        generalize grB q T c 0 = B2 at *
        have n1 : (N1 != N1) = false := by simp
        have n2' : (N2 != N2) = false := by simp
        have n3 : (B1 != B1) = false := by simp
        have n4 : (B2 != B2) = false := by simp
        go_enter Try.func16, Try.ntmps16
        go_wp2_with (first
          | (go_at_call 20; have hg := hb0; clear hg; refine (hW2 _).mono ?_; rintro e w1 ⟨rfl, hb1⟩; obtain ⟨hc1, hf1⟩ := bcell hb1; have s1a := lt_size hb1 (b := w.heap.size) (by first | assumption | omega | (simp; done) | (simp; omega)); have s1b := lt_size hb1 (b := w.heap.size + 1) (by first | assumption | omega | (simp; done) | (simp; omega)))
          | (go_at_call 20; refine (hW _).mono ?_; rintro e w0 ⟨rfl, hb0⟩; obtain ⟨hc0, hf0⟩ := bcell hb0; have hz0a := lt_size hb0 (b := w.heap.size) (by first | assumption | omega | (simp; done) | (simp; omega)); have hz0b := lt_size hb0 (b := w.heap.size+1) (by first | assumption | omega | (simp; done) | (simp; omega)))
          | (go_at_call 36; have hg := hb6; clear hg; refine (hU3 _ _ _ ((hbu4.below hb5).below hb6)).mono ?_; rintro e w7 ⟨rfl, hb7⟩; obtain ⟨hc7, hf7⟩ := bcell hb7; have s7a := lt_size hb7 (b := w.heap.size) (by first | assumption | omega | (simp; done) | (simp; omega)); have hbs7 := ((hbs5.below hb5).below hb6).below hb7; have z5 := hb5.size; have z6 := hb6.size; have z7 := hb7.size; simp only [World.size_alloc] at z5
             have q7 : Below w.heap.size w w7 := (((q4.alloc (by omega) _).trans (hb5.mono (by simp; omega))).trans (hb6.mono (by omega))).trans (hb7.mono (by omega)))
          | (go_at_call 36; have hg := hb5; clear hg; refine (hU2 _ _ _ (hbu4.below hb5)).mono ?_; rintro e w6 ⟨rfl, hb6⟩; obtain ⟨hc6, hf6⟩ := bcell hb6; have s6a := lt_size hb6 (b := w.heap.size) (by first | assumption | omega | (simp; done) | (simp; omega)); have s6b := lt_size hb6 (b := w4.heap.size) (by first | assumption | omega | (simp; done) | (simp; omega)))
          | (go_at_call 36; have hg := hb4; clear hg; refine (hU1 _ _ _ hbu4).mono ?_; rintro e w5 ⟨rfl, hb5⟩; obtain ⟨hc5, hf5⟩ := bcell hb5; have s5a := lt_size hb5 (b := w.heap.size) (by first | assumption | omega | (simp; done) | (simp; omega)); have s5b := lt_size hb5 (b := w4.heap.size) (by first | assumption | omega | (simp; done) | (simp; omega)))
          | (go_at_call 36; have hg := hb2'; clear hg; refine (hG2 _ (((hbx2.below hb0).below hb1).below hb2')).mono ?_; rintro e w3 ⟨rfl, hb3⟩; obtain ⟨hc3, hf3⟩ := bcell hb3; have s3a := lt_size hb3 (b := w.heap.size) (by first | assumption | omega | (simp; done) | (simp; omega)); have s3b := lt_size hb3 (b := w.heap.size + 1) (by first | assumption | omega | (simp; done) | (simp; omega)))
          | (go_at_call 36; refine (hG1 _ ((hbx.below hb0).below hb1)).mono ?_; rintro e w2 ⟨rfl, hb2'⟩; obtain ⟨hc2, hf2⟩ := bcell hb2'; have s2a := lt_size hb2' (b := w.heap.size) (by first | assumption | omega | (simp; done) | (simp; omega)); have s2b := lt_size hb2' (b := w.heap.size + 1) (by first | assumption | omega | (simp; done) | (simp; omega)))
          | (go_at_call 44; refine (hA _ ((((hbx.below hb0).below hb1).below hb2').below hb3) ((((hbx2.below hb0).below hb1).below hb2').below hb3)).mono ?_; rintro e w4 ⟨v4, rfl, hb4, ho4⟩; obtain ⟨a4, c4, rfl, _⟩ := owns_slice ho4; obtain ⟨hc4, hf4⟩ := bcell hb4; have s4a := lt_size hb4 (b := w.heap.size) (by first | assumption | omega | (simp; done) | (simp; omega))
             have hbs4 := ((((hbx.below hb0).below hb1).below hb2').below hb3).below hb4
             have hbu4 := (BdsAt.of_owns ho4 (by omega)).below ((Below.refl _ _).alloc (Nat.le_refl _) (Obj.cells #[.int .i64 R1, .slice a4 L1.length c4] 24))
             have hbs5 := hbs4.below ((Below.refl _ _).alloc (Nat.le_refl _) (Obj.cells #[.int .i64 R1, .slice a4 L1.length c4] 24))
             have z0 := hb0.size
             have z1 := hb1.size
             have z2 := hb2'.size
             have z3 := hb3.size
             have z4 := hb4.size
             simp only [World.size_alloc] at z0
             have q4 : Below w.heap.size w w4 := ((((hB2.trans (hb0.mono (by simp; omega))).trans (hb1.mono (by omega))).trans (hb2'.mono (by omega))).trans (hb3.mono (by omega))).trans (hb4.mono (by omega)))
          | (go_at_call 50; refine (hT _ hbs7).mono ?_; rintro e w8 ⟨v8, rfl, hb8, ho8⟩; obtain ⟨a8, c8, rfl, _⟩ := owns_slice ho8; obtain ⟨hc8, hf8⟩ := bcell hb8; have z8 := hb8.size
             have hbv8 := (BdsAt.of_owns ho8 (by omega)).below ((Below.refl _ _).alloc (Nat.le_refl _) (Obj.cells #[.int .i64 R2, .slice a8 L2.length c8] 24)))
          | (go_at_call 40; refine (hF _ _ _ hbv8).mono ?_; rintro e w9 ⟨rfl, hb9⟩; obtain ⟨hc9, hf9⟩ := bcell hb9; have s9 := lt_size hb9 (b := w8.heap.size) (by first | assumption | omega | (simp; done) | (simp; omega)))
          | (go_at_call 22; refine (hS _ _ _ (hbv8.below hb9)).mono ?_; rintro e w10 ⟨v10, rfl, hb10⟩)
          | (go_at_call 21; refine (lalive_any _).mono ?_; rintro e w11 ⟨rfl, hb11⟩))
        go_ret
        try simp only [World.size_alloc] at z8
        have z9 := hb9.size
        have z10 := hb10.size
        simp only [World.size_alloc] at z9
        have q8 : Below w.heap.size w w8 := (q7.mono (Nat.le_refl _)).trans (hb8.mono (by first | omega | (simp; omega)))
        exact ⟨rfl, (((q8.alloc (by omega) _).trans (hb9.mono (by simp; omega))).trans (hb10.mono (by omega))).trans (hb11.mono (by omega))⟩
      · have g3' : (bsdE p bs q T == 0) = false := by simpa using g3
        simp only [g1] at hG1
        simp only [g2] at hG2
        generalize (if bsdE p bs q T = 0 then p + q else 0) = R1 at *
        generalize bsdL p bs q T = L1 at *
        generalize bsdE p bs q T = E3 at *
        generalize grN p bs x y = N1 at *
        generalize grB p bs x y = B1 at *
        generalize grN q T c 0 = N2 at *
        generalize grB q T c 0 = B2 at *
        clear g1 g2 g3
        go_enter Try.func16, Try.ntmps16
        go_wp2_with (first
          | (go_at_call 20; have hg := hb0; clear hg; refine (hW2 _).mono ?_; rintro e w1 ⟨rfl, hb1⟩; obtain ⟨hc1, hf1⟩ := bcell hb1; have s1a := lt_size hb1 (b := w.heap.size) (by first | assumption | omega | (simp; done) | (simp; omega)); have s1b := lt_size hb1 (b := w.heap.size + 1) (by first | assumption | omega | (simp; done) | (simp; omega)))
          | (go_at_call 20; refine (hW _).mono ?_; rintro e w0 ⟨rfl, hb0⟩; obtain ⟨hc0, hf0⟩ := bcell hb0; have hz0a := lt_size hb0 (b := w.heap.size) (by first | assumption | omega | (simp; done) | (simp; omega)); have hz0b := lt_size hb0 (b := w.heap.size+1) (by first | assumption | omega | (simp; done) | (simp; omega)))
          | (go_at_call 36; have hg := hb6; clear hg; refine (hU3 _ _ _ ((hbu4.below hb5).below hb6)).mono ?_; rintro e w7 ⟨rfl, hb7⟩; obtain ⟨hc7, hf7⟩ := bcell hb7; have s7a := lt_size hb7 (b := w.heap.size) (by first | assumption | omega | (simp; done) | (simp; omega)); have hbs7 := ((hbs5.below hb5).below hb6).below hb7; have z5 := hb5.size; have z6 := hb6.size; have z7 := hb7.size; simp only [World.size_alloc] at z5
             have q7 : Below w.heap.size w w7 := (((q4.alloc (by omega) _).trans (hb5.mono (by simp; omega))).trans (hb6.mono (by omega))).trans (hb7.mono (by omega)))
          | (go_at_call 36; have hg := hb5; clear hg; refine (hU2 _ _ _ (hbu4.below hb5)).mono ?_; rintro e w6 ⟨rfl, hb6⟩; obtain ⟨hc6, hf6⟩ := bcell hb6; have s6a := lt_size hb6 (b := w.heap.size) (by first | assumption | omega | (simp; done) | (simp; omega)); have s6b := lt_size hb6 (b := w4.heap.size) (by first | assumption | omega | (simp; done) | (simp; omega)))
          | (go_at_call 36; have hg := hb4; clear hg; refine (hU1 _ _ _ hbu4).mono ?_; rintro e w5 ⟨rfl, hb5⟩; obtain ⟨hc5, hf5⟩ := bcell hb5; have s5a := lt_size hb5 (b := w.heap.size) (by first | assumption | omega | (simp; done) | (simp; omega)); have s5b := lt_size hb5 (b := w4.heap.size) (by first | assumption | omega | (simp; done) | (simp; omega)))
          | (go_at_call 36; have hg := hb2'; clear hg; refine (hG2 _ (((hbx2.below hb0).below hb1).below hb2')).mono ?_; rintro e w3 ⟨rfl, hb3⟩; obtain ⟨hc3, hf3⟩ := bcell hb3; have s3a := lt_size hb3 (b := w.heap.size) (by first | assumption | omega | (simp; done) | (simp; omega)); have s3b := lt_size hb3 (b := w.heap.size + 1) (by first | assumption | omega | (simp; done) | (simp; omega)))
          | (go_at_call 36; refine (hG1 _ ((hbx.below hb0).below hb1)).mono ?_; rintro e w2 ⟨rfl, hb2'⟩; obtain ⟨hc2, hf2⟩ := bcell hb2'; have s2a := lt_size hb2' (b := w.heap.size) (by first | assumption | omega | (simp; done) | (simp; omega)); have s2b := lt_size hb2' (b := w.heap.size + 1) (by first | assumption | omega | (simp; done) | (simp; omega)))
          | (go_at_call 44; refine (hA _ ((((hbx.below hb0).below hb1).below hb2').below hb3) ((((hbx2.below hb0).below hb1).below hb2').below hb3)).mono ?_; rintro e w4 ⟨v4, rfl, hb4, ho4⟩; obtain ⟨a4, c4, rfl, _⟩ := owns_slice ho4; obtain ⟨hc4, hf4⟩ := bcell hb4; have s4a := lt_size hb4 (b := w.heap.size) (by first | assumption | omega | (simp; done) | (simp; omega))
             have hbs4 := ((((hbx.below hb0).below hb1).below hb2').below hb3).below hb4
             have hbu4 := (BdsAt.of_owns ho4 (by omega)).below ((Below.refl _ _).alloc (Nat.le_refl _) (Obj.cells #[.int .i64 R1, .slice a4 L1.length c4] 24))
             have hbs5 := hbs4.below ((Below.refl _ _).alloc (Nat.le_refl _) (Obj.cells #[.int .i64 R1, .slice a4 L1.length c4] 24))
             have z0 := hb0.size
             have z1 := hb1.size
             have z2 := hb2'.size
             have z3 := hb3.size
             have z4 := hb4.size
             simp only [World.size_alloc] at z0
             have q4 : Below w.heap.size w w4 := ((((hB2.trans (hb0.mono (by simp; omega))).trans (hb1.mono (by omega))).trans (hb2'.mono (by omega))).trans (hb3.mono (by omega))).trans (hb4.mono (by omega)))
          | (go_at_call 50; refine (hT _ hbs5).mono ?_; rintro e w8 ⟨v8, rfl, hb8, ho8⟩; obtain ⟨a8, c8, rfl, _⟩ := owns_slice ho8; obtain ⟨hc8, hf8⟩ := bcell hb8; have z8 := hb8.size
             have hbv8 := (BdsAt.of_owns ho8 (by omega)).below ((Below.refl _ _).alloc (Nat.le_refl _) (Obj.cells #[.int .i64 R2, .slice a8 L2.length c8] 24)))
          | (go_at_call 40; refine (hF _ _ _ hbv8).mono ?_; rintro e w9 ⟨rfl, hb9⟩; obtain ⟨hc9, hf9⟩ := bcell hb9; have s9 := lt_size hb9 (b := w8.heap.size) (by first | assumption | omega | (simp; done) | (simp; omega)))
          | (go_at_call 22; refine (hS _ _ _ (hbv8.below hb9)).mono ?_; rintro e w10 ⟨v10, rfl, hb10⟩)
          | (go_at_call 21; refine (lalive_any _).mono ?_; rintro e w11 ⟨rfl, hb11⟩))
        go_ret
        try simp only [World.size_alloc] at z8
        have z9 := hb9.size
        have z10 := hb10.size
        simp only [World.size_alloc] at z9
        have q8 : Below w.heap.size w w8 := (q4.alloc (by omega) _).trans (hb8.mono (by first | omega | (simp; omega)))
        exact ⟨rfl, (((q8.alloc (by omega) _).trans (hb9.mono (by simp; omega))).trans (hb10.mono (by omega))).trans (hb11.mono (by omega))⟩
    · have g2' : (askE q T c 0 == 0) = false := by simpa using g2
      simp only [g1] at hG1
      generalize (if bsdE p bs q T = 0 then p + q else 0) = R1 at *
      generalize bsdL p bs q T = L1 at *
      generalize bsdE p bs q T = E3 at *
      generalize askE q T c 0 = E2 at *
      generalize grN p bs x y = N1 at *
      generalize grB p bs x y = B1 at *
      generalize grN q T c 0 = N2 at *
      generalize grB q T c 0 = B2 at *
      clear g1 g2
      go_enter Try.func16, Try.ntmps16
      go_wp2_with (first
        | (go_at_call 20; have hg := hb0; clear hg; refine (hW2 _).mono ?_; rintro e w1 ⟨rfl, hb1⟩; obtain ⟨hc1, hf1⟩ := bcell hb1; have s1a := lt_size hb1 (b := w.heap.size) (by first | assumption | omega | (simp; done) | (simp; omega)); have s1b := lt_size hb1 (b := w.heap.size + 1) (by first | assumption | omega | (simp; done) | (simp; omega)))
        | (go_at_call 20; refine (hW _).mono ?_; rintro e w0 ⟨rfl, hb0⟩; obtain ⟨hc0, hf0⟩ := bcell hb0; have hz0a := lt_size hb0 (b := w.heap.size) (by first | assumption | omega | (simp; done) | (simp; omega)); have hz0b := lt_size hb0 (b := w.heap.size+1) (by first | assumption | omega | (simp; done) | (simp; omega)))
        | (go_at_call 36; have hg := hb6; clear hg; refine (hU3 _ _ _ ((hbu4.below hb5).below hb6)).mono ?_; rintro e w7 ⟨rfl, hb7⟩; obtain ⟨hc7, hf7⟩ := bcell hb7; have s7a := lt_size hb7 (b := w.heap.size) (by first | assumption | omega | (simp; done) | (simp; omega)); have hbs7 := ((hbs5.below hb5).below hb6).below hb7; have z5 := hb5.size; have z6 := hb6.size; have z7 := hb7.size; simp only [World.size_alloc] at z5
           have q7 : Below w.heap.size w w7 := (((q4.alloc (by omega) _).trans (hb5.mono (by simp; omega))).trans (hb6.mono (by omega))).trans (hb7.mono (by omega)))
        | (go_at_call 36; have hg := hb5; clear hg; refine (hU2 _ _ _ (hbu4.below hb5)).mono ?_; rintro e w6 ⟨rfl, hb6⟩; obtain ⟨hc6, hf6⟩ := bcell hb6; have s6a := lt_size hb6 (b := w.heap.size) (by first | assumption | omega | (simp; done) | (simp; omega)); have s6b := lt_size hb6 (b := w4.heap.size) (by first | assumption | omega | (simp; done) | (simp; omega)))
        | (go_at_call 36; have hg := hb4; clear hg; refine (hU1 _ _ _ hbu4).mono ?_; rintro e w5 ⟨rfl, hb5⟩; obtain ⟨hc5, hf5⟩ := bcell hb5; have s5a := lt_size hb5 (b := w.heap.size) (by first | assumption | omega | (simp; done) | (simp; omega)); have s5b := lt_size hb5 (b := w4.heap.size) (by first | assumption | omega | (simp; done) | (simp; omega)))
        | (go_at_call 36; have hg := hb2'; clear hg; refine (hG2 _ (((hbx2.below hb0).below hb1).below hb2')).mono ?_; rintro e w3 ⟨rfl, hb3⟩; obtain ⟨hc3, hf3⟩ := bcell hb3; have s3a := lt_size hb3 (b := w.heap.size) (by first | assumption | omega | (simp; done) | (simp; omega)); have s3b := lt_size hb3 (b := w.heap.size + 1) (by first | assumption | omega | (simp; done) | (simp; omega)))
        | (go_at_call 36; refine (hG1 _ ((hbx.below hb0).below hb1)).mono ?_; rintro e w2 ⟨rfl, hb2'⟩; obtain ⟨hc2, hf2⟩ := bcell hb2'; have s2a := lt_size hb2' (b := w.heap.size) (by first | assumption | omega | (simp; done) | (simp; omega)); have s2b := lt_size hb2' (b := w.heap.size + 1) (by first | assumption | omega | (simp; done) | (simp; omega)))
        | (go_at_call 44; refine (hA _ ((((hbx.below hb0).below hb1).below hb2').below hb3) ((((hbx2.below hb0).below hb1).below hb2').below hb3)).mono ?_; rintro e w4 ⟨v4, rfl, hb4, ho4⟩; obtain ⟨a4, c4, rfl, _⟩ := owns_slice ho4; obtain ⟨hc4, hf4⟩ := bcell hb4; have s4a := lt_size hb4 (b := w.heap.size) (by first | assumption | omega | (simp; done) | (simp; omega))
           have hbs4 := ((((hbx.below hb0).below hb1).below hb2').below hb3).below hb4
           have hbu4 := (BdsAt.of_owns ho4 (by omega)).below ((Below.refl _ _).alloc (Nat.le_refl _) (Obj.cells #[.int .i64 R1, .slice a4 L1.length c4] 24))
           have hbs5 := hbs4.below ((Below.refl _ _).alloc (Nat.le_refl _) (Obj.cells #[.int .i64 R1, .slice a4 L1.length c4] 24))
           have z0 := hb0.size
           have z1 := hb1.size
           have z2 := hb2'.size
           have z3 := hb3.size
           have z4 := hb4.size
           simp only [World.size_alloc] at z0
           have q4 : Below w.heap.size w w4 := ((((hB2.trans (hb0.mono (by simp; omega))).trans (hb1.mono (by omega))).trans (hb2'.mono (by omega))).trans (hb3.mono (by omega))).trans (hb4.mono (by omega)))
        | (go_at_call 50; refine (hT _ hbs5).mono ?_; rintro e w8 ⟨v8, rfl, hb8, ho8⟩; obtain ⟨a8, c8, rfl, _⟩ := owns_slice ho8; obtain ⟨hc8, hf8⟩ := bcell hb8; have z8 := hb8.size
           have hbv8 := (BdsAt.of_owns ho8 (by omega)).below ((Below.refl _ _).alloc (Nat.le_refl _) (Obj.cells #[.int .i64 R2, .slice a8 L2.length c8] 24)))
        | (go_at_call 40; refine (hF _ _ _ hbv8).mono ?_; rintro e w9 ⟨rfl, hb9⟩; obtain ⟨hc9, hf9⟩ := bcell hb9; have s9 := lt_size hb9 (b := w8.heap.size) (by first | assumption | omega | (simp; done) | (simp; omega)))
        | (go_at_call 22; refine (hS _ _ _ (hbv8.below hb9)).mono ?_; rintro e w10 ⟨v10, rfl, hb10⟩)
        | (go_at_call 21; refine (lalive_any _).mono ?_; rintro e w11 ⟨rfl, hb11⟩))
      go_ret
      try simp only [World.size_alloc] at z8
      have z9 := hb9.size
      have z10 := hb10.size
      simp only [World.size_alloc] at z9
      have q8 : Below w.heap.size w w8 := (q4.alloc (by omega) _).trans (hb8.mono (by first | omega | (simp; omega)))
      exact ⟨rfl, (((q8.alloc (by omega) _).trans (hb9.mono (by simp; omega))).trans (hb10.mono (by omega))).trans (hb11.mono (by omega))⟩
  · have g1' : (askE p bs x y == 0) = false := by simpa using g1
    generalize (if bsdE p bs q T = 0 then p + q else 0) = R1 at *
    generalize bsdL p bs q T = L1 at *
    generalize bsdE p bs q T = E3 at *
    generalize askE q T c 0 = E2 at *
    generalize askE p bs x y = E1 at *
    generalize grN p bs x y = N1 at *
    generalize grB p bs x y = B1 at *
    generalize grN q T c 0 = N2 at *
    generalize grB q T c 0 = B2 at *
    clear g1
    go_enter Try.func16, Try.ntmps16
    go_wp2_with (first
      | (go_at_call 20; have hg := hb0; clear hg; refine (hW2 _).mono ?_; rintro e w1 ⟨rfl, hb1⟩; obtain ⟨hc1, hf1⟩ := bcell hb1; have s1a := lt_size hb1 (b := w.heap.size) (by first | assumption | omega | (simp; done) | (simp; omega)); have s1b := lt_size hb1 (b := w.heap.size + 1) (by first | assumption | omega | (simp; done) | (simp; omega)))
      | (go_at_call 20; refine (hW _).mono ?_; rintro e w0 ⟨rfl, hb0⟩; obtain ⟨hc0, hf0⟩ := bcell hb0; have hz0a := lt_size hb0 (b := w.heap.size) (by first | assumption | omega | (simp; done) | (simp; omega)); have hz0b := lt_size hb0 (b := w.heap.size+1) (by first | assumption | omega | (simp; done) | (simp; omega)))
      | (go_at_call 36; have hg := hb6; clear hg; refine (hU3 _ _ _ ((hbu4.below hb5).below hb6)).mono ?_; rintro e w7 ⟨rfl, hb7⟩; obtain ⟨hc7, hf7⟩ := bcell hb7; have s7a := lt_size hb7 (b := w.heap.size) (by first | assumption | omega | (simp; done) | (simp; omega)); have hbs7 := ((hbs5.below hb5).below hb6).below hb7; have z5 := hb5.size; have z6 := hb6.size; have z7 := hb7.size; simp only [World.size_alloc] at z5
         have q7 : Below w.heap.size w w7 := (((q4.alloc (by omega) _).trans (hb5.mono (by simp; omega))).trans (hb6.mono (by omega))).trans (hb7.mono (by omega)))
      | (go_at_call 36; have hg := hb5; clear hg; refine (hU2 _ _ _ (hbu4.below hb5)).mono ?_; rintro e w6 ⟨rfl, hb6⟩; obtain ⟨hc6, hf6⟩ := bcell hb6; have s6a := lt_size hb6 (b := w.heap.size) (by first | assumption | omega | (simp; done) | (simp; omega)); have s6b := lt_size hb6 (b := w4.heap.size) (by first | assumption | omega | (simp; done) | (simp; omega)))
      | (go_at_call 36; have hg := hb4; clear hg; refine (hU1 _ _ _ hbu4).mono ?_; rintro e w5 ⟨rfl, hb5⟩; obtain ⟨hc5, hf5⟩ := bcell hb5; have s5a := lt_size hb5 (b := w.heap.size) (by first | assumption | omega | (simp; done) | (simp; omega)); have s5b := lt_size hb5 (b := w4.heap.size) (by first | assumption | omega | (simp; done) | (simp; omega)))
      | (go_at_call 36; have hg := hb2'; clear hg; refine (hG2 _ (((hbx2.below hb0).below hb1).below hb2')).mono ?_; rintro e w3 ⟨rfl, hb3⟩; obtain ⟨hc3, hf3⟩ := bcell hb3; have s3a := lt_size hb3 (b := w.heap.size) (by first | assumption | omega | (simp; done) | (simp; omega)); have s3b := lt_size hb3 (b := w.heap.size + 1) (by first | assumption | omega | (simp; done) | (simp; omega)))
      | (go_at_call 36; refine (hG1 _ ((hbx.below hb0).below hb1)).mono ?_; rintro e w2 ⟨rfl, hb2'⟩; obtain ⟨hc2, hf2⟩ := bcell hb2'; have s2a := lt_size hb2' (b := w.heap.size) (by first | assumption | omega | (simp; done) | (simp; omega)); have s2b := lt_size hb2' (b := w.heap.size + 1) (by first | assumption | omega | (simp; done) | (simp; omega)))
      | (go_at_call 44; refine (hA _ ((((hbx.below hb0).below hb1).below hb2').below hb3) ((((hbx2.below hb0).below hb1).below hb2').below hb3)).mono ?_; rintro e w4 ⟨v4, rfl, hb4, ho4⟩; obtain ⟨a4, c4, rfl, _⟩ := owns_slice ho4; obtain ⟨hc4, hf4⟩ := bcell hb4; have s4a := lt_size hb4 (b := w.heap.size) (by first | assumption | omega | (simp; done) | (simp; omega))
         have hbs4 := ((((hbx.below hb0).below hb1).below hb2').below hb3).below hb4
         have hbu4 := (BdsAt.of_owns ho4 (by omega)).below ((Below.refl _ _).alloc (Nat.le_refl _) (Obj.cells #[.int .i64 R1, .slice a4 L1.length c4] 24))
         have hbs5 := hbs4.below ((Below.refl _ _).alloc (Nat.le_refl _) (Obj.cells #[.int .i64 R1, .slice a4 L1.length c4] 24))
         have z0 := hb0.size
         have z1 := hb1.size
         have z2 := hb2'.size
         have z3 := hb3.size
         have z4 := hb4.size
         simp only [World.size_alloc] at z0
         have q4 : Below w.heap.size w w4 := ((((hB2.trans (hb0.mono (by simp; omega))).trans (hb1.mono (by omega))).trans (hb2'.mono (by omega))).trans (hb3.mono (by omega))).trans (hb4.mono (by omega)))
      | (go_at_call 50; refine (hT _ hbs5).mono ?_; rintro e w8 ⟨v8, rfl, hb8, ho8⟩; obtain ⟨a8, c8, rfl, _⟩ := owns_slice ho8; obtain ⟨hc8, hf8⟩ := bcell hb8; have z8 := hb8.size
         have hbv8 := (BdsAt.of_owns ho8 (by omega)).below ((Below.refl _ _).alloc (Nat.le_refl _) (Obj.cells #[.int .i64 R2, .slice a8 L2.length c8] 24)))
      | (go_at_call 40; refine (hF _ _ _ hbv8).mono ?_; rintro e w9 ⟨rfl, hb9⟩; obtain ⟨hc9, hf9⟩ := bcell hb9; have s9 := lt_size hb9 (b := w8.heap.size) (by first | assumption | omega | (simp; done) | (simp; omega)))
      | (go_at_call 22; refine (hS _ _ _ (hbv8.below hb9)).mono ?_; rintro e w10 ⟨v10, rfl, hb10⟩)
      | (go_at_call 21; refine (lalive_any _).mono ?_; rintro e w11 ⟨rfl, hb11⟩))
    go_ret
    try simp only [World.size_alloc] at z8
    have z9 := hb9.size
    have z10 := hb10.size
    simp only [World.size_alloc] at z9
    have q8 : Below w.heap.size w w8 := (q4.alloc (by omega) _).trans (hb8.mono (by first | omega | (simp; omega)))
    exact ⟨rfl, (((q8.alloc (by omega) _).trans (hb9.mono (by simp; omega))).trans (hb10.mono (by omega))).trans (hb11.mono (by omega))⟩

theorem law_beside (p : Int) (a : Option Addr) (n cap : Nat) (bs : List Bd) (q : Int) (a2 : Option Addr) (n2 cap2 : Nat) (T : List Bd) (x y c m : Int) (w : World) (hb : BdsAt w a n cap bs) (hn : n ≤ 140737488351232) (hb2 : BdsAt w a2 n2 cap2 T) (hn2 : n2 ≤ 140737488351232) :
    Calls Try.prog 16 #[.agg #[.int .i64 p, .slice a n cap], .agg #[.int .i64 q, .slice a2 n2 cap2], .int .i64 x, .int .i64 y, .int .i64 c, .int .i64 m] w fun e w' => e = .returned (.bool true) ∧ Below w.heap.size w w' := by
  by_cases hn4 : n ≤ 403
  · by_cases hn5 : n2 ≤ 403
    · have hT := fun w1 (h : BdsAt w1 a n cap bs) => gTie_any p a n cap bs x y m w1 h
      have l2 := tieL_small (p := p) (x := x) (y := y) (n := m) (bs := bs)
      by_cases g4 : tieE p bs x y m = 0
      · have hL : tieL p bs x y m = bs ++ [⟨x, y, m, 0⟩, ⟨y, x, -m, 0⟩] := by unfold tieL; rw [if_pos g4]
        simp only [g4, if_true] at hT
        rw [hL] at hT l2
        have hcV : chk p (bs ++ [⟨x, y, m, 0⟩, ⟨y, x, -m, 0⟩]) = 0 ∧ both p x y = true := by
          unfold tieE at g4
          by_cases h0 : chk p bs = 0
          · rw [if_pos h0] at g4
            by_cases h1 : tieOk p x y m = true
            · rw [if_pos h1] at g4
              unfold tieOk at h1
              simp only [Bool.and_eq_true] at h1
              exact ⟨g4, h1.1.1⟩
            · rw [if_neg h1] at g4; omega
          · rw [if_neg h0] at g4; exact absurd g4 h0
        obtain ⟨f1, f2⟩ := tie_fixed hcV.1 hcV.2
        have hF := fun w1 b d (h : BdsAt w1 b (bs ++ [⟨x, y, m, 0⟩, ⟨y, x, -m, 0⟩] : List Bd).length d (bs ++ [⟨x, y, m, 0⟩, ⟨y, x, -m, 0⟩])) => gFixed_any p b _ d _ x y w1 h
        have hS : ∀ w1 b d, BdsAt w1 b (bs ++ [⟨x, y, m, 0⟩, ⟨y, x, -m, 0⟩] : List Bd).length d (bs ++ [⟨x, y, m, 0⟩, ⟨y, x, -m, 0⟩]) → Calls Try.prog 22 #[.agg #[.int .i64 p, .slice b (bs ++ [⟨x, y, m, 0⟩, ⟨y, x, -m, 0⟩] : List Bd).length d]] w1 fun e w' => ∃ v, e = .returned (.tuple #[v, .bool (okB p (bs ++ [⟨x, y, m, 0⟩, ⟨y, x, -m, 0⟩])), .int .i64 0]) ∧ Below w1.heap.size w1 w' := fun w1 b d h => by
          refine (gSolve_any p b _ d _ w1 h).mono ?_
          rintro e w' ⟨v, rfl, hB, _⟩
          exact ⟨v, by simp [hcV.1], hB⟩
        cases hok : okB p (bs ++ [⟨x, y, m, 0⟩, ⟨y, x, -m, 0⟩]) with
        | true =>
          obtain ⟨k1, k2, k3⟩ := f1 hok
          simp only [k1, k2, k3] at hF
          simp only [hok] at hS
          exact law_beside1 p a n cap bs q a2 n2 cap2 T x y c m w hb hn hb2 hn2 hn4 hn5 p _ l2 hT hF hS
        | false =>
          obtain ⟨k1, k2⟩ := f2 hok
          simp only [k1, k2] at hF
          simp only [hok] at hS
          exact law_beside2 p a n cap bs q a2 n2 cap2 T x y c m w hb hn hb2 hn2 hn4 hn5 p _ l2 _ hT hF hS
      · exact law_beside0 p a n cap bs q a2 n2 cap2 T x y c m w hb hn hb2 hn2 hn4 hn5 _ _ l2 _ (by simpa using g4) hT
    · have hB2 : Below w.heap.size w ((w.alloc (Obj.cells #[.int .i64 p, .slice a n cap] 24)).alloc (Obj.cells #[.int .i64 q, .slice a2 n2 cap2] 24)) := by ((repeat (first | assumption | exact Below.refl _ _ | refine Below.alloc ?_ ?_ _ | refine Below.setCell ?_ ?_ _ | refine Below.drew ?_ | refine belowN ?_ | refine Below.up ?_ (by assumption) ?_)) <;> (first | assumption | omega | (simp; done) | (simp; omega)))
      have hW := fun w1 => lwide_any p a n cap w1 hn
      have hW2 := fun w1 => lwide_any q a2 n2 cap2 w1 hn2
      have h1 : decide (n ≤ 403) = true := by simpa using hn4
      simp only [h1] at hW
      have h2 : decide (n2 ≤ 403) = false := by simpa using hn5
      simp only [h2] at hW2
      go_enter Try.func16, Try.ntmps16
      go_wp2_with (first
        | (go_at_call 20; have hg := hb0; clear hg; refine (hW2 _).mono ?_; rintro e w1 ⟨rfl, hb1⟩; obtain ⟨hc1, hf1⟩ := bcell hb1)
        | (go_at_call 20; refine (hW _).mono ?_; rintro e w0 ⟨rfl, hb0⟩; obtain ⟨hc0, hf0⟩ := bcell hb0; have hz0a := lt_size hb0 (b := w.heap.size) (by first | assumption | omega | (simp; done) | (simp; omega)); have hz0b := lt_size hb0 (b := w.heap.size+1) (by first | assumption | omega | (simp; done) | (simp; omega)))
        | (go_at_call 21; refine (lalive_any _).mono ?_; rintro e w3 ⟨rfl, hb3⟩; obtain ⟨hc3, hf3⟩ := bcell hb3))
      go_ret
      have z0 := hb0.size
      have z1 := hb1.size
      simp only [World.size_alloc] at z0
      exact ⟨rfl, ((hB2.trans (hb0.mono (by simp; omega))).trans (hb1.mono (by omega))).trans (hb3.mono (by omega))⟩
  · have hB2 : Below w.heap.size w ((w.alloc (Obj.cells #[.int .i64 p, .slice a n cap] 24)).alloc (Obj.cells #[.int .i64 q, .slice a2 n2 cap2] 24)) := by ((repeat (first | assumption | exact Below.refl _ _ | refine Below.alloc ?_ ?_ _ | refine Below.setCell ?_ ?_ _ | refine Below.drew ?_ | refine belowN ?_ | refine Below.up ?_ (by assumption) ?_)) <;> (first | assumption | omega | (simp; done) | (simp; omega)))
    have hW := fun w1 => lwide_any p a n cap w1 hn
    have h1 : decide (n ≤ 403) = false := by simpa using hn4
    simp only [h1] at hW
    go_enter Try.func16, Try.ntmps16
    go_wp2_with (first
      | (go_at_call 20; refine (hW _).mono ?_; rintro e w0 ⟨rfl, hb0⟩; obtain ⟨hc0, hf0⟩ := bcell hb0; have hz0a := lt_size hb0 (b := w.heap.size) (by first | assumption | omega | (simp; done) | (simp; omega)))
      | (go_at_call 21; refine (lalive_any _).mono ?_; rintro e w3 ⟨rfl, hb3⟩; obtain ⟨hc3, hf3⟩ := bcell hb3))
    go_ret
    have z0 := hb0.size
    simp only [World.size_alloc] at z0
    exact ⟨rfl, (hB2.trans (hb0.mono (by simp; omega))).trans (hb3.mono (by omega))⟩
end Go.Proofs.Ytlkcfohmoeadbaa
