/-
  The law GaugeSharp, walked: it returns true.
-/
import Derived.Test.YtlkcfohmoeadbaaPk36
import Derived.Test.YtlkcfohmoeadbaaPk23
set_option linter.unusedSimpArgs false
set_option linter.unusedVariables false
set_option linter.unnecessarySimpa false
namespace Go.Proofs.Ytlkcfohmoeadbaa
open Go.RowKit Go.Shelf
set_option maxHeartbeats 8000000
set_option maxRecDepth 100000

theorem law_sharp (p : Int) (a : Option Addr) (n cap : Nat) (bs : List Bd) (x y m most : Int) (a1 : Option Addr) (n1 c1 : Nat) (xs : List Int) (a2 : Option Addr) (n2 c2 : Nat) (ls : List Int) (w : World) (hb : BdsAt w a n cap bs) (hn : n ≤ 140737488351232) (hx : IntsAt w a1 n1 c1 xs) (hl : IntsAt w a2 n2 c2 ls) :
    Calls Try.prog 18 #[.agg #[.int .i64 p, .slice a n cap], .int .i64 x, .int .i64 y, .int .i64 m, .int .i64 most, .slice a1 n1 c1, .slice a2 n2 c2] w fun e w' => e = .returned (.bool true) ∧ Below w.heap.size w w' := by
  have hW := fun w1 => lwide_any p a n cap w1 hn
  have s1 : n1 ≤ 140737488351232 := by have := hx.len; have := hx.small; omega
  have s2 : n2 ≤ 140737488351232 := by have := hl.len; have := hl.small; omega
  by_cases hn4 : n ≤ 403
  · have h1 : decide (n ≤ 403) = true := by simpa using hn4
    simp only [h1] at hW
    by_cases k1 : (n1 : Int) ≤ 70
    · by_cases k2 : (n2 : Int) ≤ 70
      · by_cases k3 : -100000000 ≤ m
        · by_cases k4 : m ≤ 100000000
          · have hls : ls.length ≤ 1000 := by have := hl.len; omega
            have hG := fun w1 (h : Below w.heap.size w w1) => gGreatest_any p a n cap bs x y w1 (hb.below h)
            have hL := fun w1 (h : Below w.heap.size w w1) => gLeast_any p a n cap bs x y w1 (hb.below h)
            have HT := Lib.hid (show askE p bs y x = askE p bs x y from askE_turn)
            by_cases hE : askE p bs x y = 0
            · have hE2 : askE p bs y x = 0 := by rw [HT.out]; exact hE
              have hnr : nearB m = true := nearB_iff.2 ⟨k3, k4⟩
              have hsp := fun h => sharp_path (most := most) (l := ls) hE h
              have hsl := fun h => sharp_list (xs := xs) hE h
              have hAt := fun w1 (h : Below w.heap.size w w1) => gAttain_out p a n cap bs x y m w1 (hb.below h)
              have hAF := attF_iff hE hnr
              have hak := fun h => att_kept hE hnr h
              have hAE : attE p bs x y m = 0 := by obtain ⟨q0, q1, q2⟩ := askE_zero hE; unfold attE; rw [if_pos q0, if_pos q1, if_pos hnr, if_pos q2]
              obtain ⟨q0, q1, q2⟩ := askE_zero hE
              obtain ⟨⟨x0, x1⟩, y0, y1⟩ := both_in q1
              have hbe := brE_cases (xs := xs) q0
              have hcp := fun w1 (h : Below w.heap.size w w1) => gCheckPath_any p a n cap bs x y most a2 n2 c2 ls w1 (hb.below h) (hl.below h) hls
              simp only [rask_of_askE hE, decide_true, Bool.true_and] at hcp
              have hkx := fun w1 (h : Below w.heap.size w w1) => gKeeps_any p a n cap bs a1 n1 c1 xs w1 (hb.below h) (hx.below h)
              have hky := fun w1 (h : Below w.heap.size w w1) b d (h2 : IntsAt w1 b (attOutL p bs x y m).length d (attOutL p bs x y m)) => gKeeps_any p a n cap bs b _ d (attOutL p bs x y m) w1 (hb.below h) h2
              simp only [hE] at hG
              simp only [hE2] at hL
              simp only [hAE, decide_true, Bool.true_and] at hAt
              have hla := attOutL_small p bs x y m
              have hg1 := grN_range p bs x y
              have hg2 := grN_range p bs y x
              generalize hK : (decide (brE p bs xs = 0) && !brH p bs xs) = K at *
              generalize cpB bs x y most ls = SH at *
              generalize attOutL p bs x y m = Y at *
              generalize brE p bs xs = EX at *
              have HK0 : EX = 1 → K = false := fun h => by rw [← hK, h]; rfl
              clear hK
              generalize grB p bs x y = AB at *
              generalize grB p bs y x = BB at *
              generalize grN p bs x y = H at *
              generalize grN p bs y x = L at *
              generalize attF p bs x y m = Is at *
              obtain ⟨hg3, hg4⟩ := hg1
              obtain ⟨hg5, hg6⟩ := hg2
              unfold FAR at hg4 hg6
              have Hsp := Lib.hid hsp
              have Hsl := Lib.hid hsl
              have HAF := Lib.hid hAF
              have Hak := Lib.hid hak
              have HK := Lib.hid HK0
              have Hbe := Lib.hid hbe
              clear hn4 hn h1 hE hE2 HT hAE hnr q0 q1 q2 hsp hsl hAF hak HK0 hbe
              go_enter Try.func18, Try.ntmps18
              go_upto_region 8 with (first
                | (go_at_call 20; refine (hW _).mono ?_; rintro e w0 ⟨rfl, hb0⟩; obtain ⟨hc0, hf0⟩ := bcell hb0; have hz0a := lt_size hb0 (b := w.heap.size) (by first | assumption | omega | (simp; done) | (simp; omega)))
                | (go_at_call 36; refine (hG _ (by ((repeat (first | exact Below.refl _ _ | assumption | refine Below.al ?_ _ | refine Below.ch ?_ (by assumption) | refine belowN ?_))))).mono ?_; rintro e w1 ⟨rfl, hb1⟩; obtain ⟨hc1, hf1⟩ := bcell hb1; have hz1a := lt_size hb1 (b := w.heap.size) (by first | assumption | omega | (simp; done) | (simp; omega)))
                | (go_at_call 37; refine (hL _ (by ((repeat (first | exact Below.refl _ _ | assumption | refine Below.al ?_ _ | refine Below.ch ?_ (by assumption) | refine belowN ?_))))).mono ?_; rintro e w2 ⟨rfl, hb2⟩; obtain ⟨hc2, hf2⟩ := bcell hb2; have hz2a := lt_size hb2 (b := w.heap.size) (by first | assumption | omega | (simp; done) | (simp; omega)))
                | (go_at_call 25; refine (hAt _ (by ((repeat (first | exact Below.refl _ _ | assumption | refine Below.al ?_ _ | refine Below.ch ?_ (by assumption) | refine belowN ?_))))).mono ?_; rintro e w3 ⟨v3, rfl, hb3, ho3⟩; obtain ⟨hc3, hf3⟩ := bcell hb3; have s3 := lt_size hb3 (b := w.heap.size) (by first | assumption | omega | (simp; done) | (simp; omega)); obtain ⟨ya, yc, rfl, _⟩ := owns_slice ho3))
              go_cut [118] (fun t wx => t = .bool false ∧ wx = w3)
              case first =>
               as_aux_lemma =>
                have hI := HAF.out
                clear HAF Hsp Hsl Hak HK Hbe
                have hc1 : (AB = false ∨ (AB = true ∧ (m ≤ H ∨ ¬ m ≤ H))) := by cases AB <;> simp <;> omega
                have hc2 : (BB = false ∨ (BB = true ∧ (-L ≤ m ∨ ¬ -L ≤ m))) := by cases BB <;> simp <;> omega
                rcases hc1 with rfl | ⟨rfl, j1 | j1⟩
                all_goals rcases hc2 with rfl | ⟨rfl, j2 | j2⟩
                all_goals
                  simp only [*, decide_true, decide_false, Bool.not_true, Bool.not_false, Bool.or_true, Bool.or_false, Bool.true_or, Bool.false_or, Bool.and_true, Bool.and_false] at hI
                  subst hI
                  go_wp2_with fail
                  go_meet
                  exact ⟨rfl, rfl⟩
              case rest =>
                obtain ⟨rfl, rfl⟩ := hcut
                obtain ⟨w3, rfl⟩ : ∃ w3, w3 = wc := ⟨_, rfl⟩
                go_upto_if 119 with fail
                go_cut [24, 25] (fun _ _ wx => Below w3.heap.size w3 wx)
                case first =>
                 as_aux_lemma =>
                  cases Is with
                  | false =>
                    go_wp2_with fail
                    go_meet
                    exact Below.refl _ _
                  | true =>
                    obtain ⟨_, r2, r3, r4, r5, ⟨r6, r7⟩, r8, r9⟩ := Hak.out rfl
                    rw [r3] at hky
                    simp only [r2, decide_true, Bool.not_false, Bool.and_self] at hky
                    have hwr : IntKind.i64.wrap (gi Y y - gi Y x) = gi Y y - gi Y x := IntWalk.i64_in _ (by omega)
                    have hne : (gi Y y - gi Y x != m) = false := by simp; omega
                    have HY := Lib.hid (fun w1 (h : Below w3.heap.size w3 w1) => (IntsAt.of_owns ho3 (by omega)).below h)
                    clear HAF Hsp Hsl Hak HK Hbe r2 r3 r4
                    go_wp2_with (go_at_call 49; refine (hky _ (by ((repeat (first | exact Below.refl _ _ | assumption | refine Below.al ?_ _ | refine Below.ch ?_ (by assumption) | refine belowN ?_)))) _ _ (HY.out _ (Below.refl _ _))).mono ?_; rintro e w4 ⟨rfl, hb4⟩)
                    have hY4 := HY.out _ hb4
                    obtain ⟨yb, yo, rfl, yl, g1⟩ := hY4.get (i := y.toNat) (by omega)
                    obtain ⟨yb', yo', he, _, g2⟩ := hY4.get (i := x.toNat) (by omega)
                    simp at he
                    obtain ⟨rfl, rfl⟩ := he
                    have r5' : (Y.length : Int) = p := r5
                    have x1' : x < (Y.length : Int) := by omega
                    have y1' : y < (Y.length : Int) := by omega
                    rw [show Y.getD y.toNat 0 = gi Y y from rfl] at g1
                    rw [show Y.getD x.toNat 0 = gi Y x from rfl] at g2
                    clear r5 r5' hY4
                    generalize gi Y y = Yy at *
                    generalize gi Y x = Yx at *
                    go_quiet (fail)
                    go_wp2_with fail
                    go_meet
                    exact belowN hb4
                case rest =>
                 as_aux_lemma =>
                  obtain ⟨w4, rfl⟩ : ∃ w4, w4 = wc := ⟨_, rfl⟩
                  obtain ⟨hc4, hf4⟩ := bcell hcut
                  have s5 := lt_size hcut (b := w.heap.size) (by first | assumption | omega | (simp; done) | (simp; omega))
                  clear HAF Hak hky hAt hG hL
                  go_upto_region 18 with (first
                    | (go_at_call 49; refine (hkx _ (by ((repeat (first | exact Below.refl _ _ | assumption | refine Below.al ?_ _ | refine Below.ch ?_ (by assumption) | refine belowN ?_))))).mono ?_; rintro e w5 ⟨rfl, hb5⟩; obtain ⟨hc5, hf5⟩ := bcell hb5; have hz5a := lt_size hb5 (b := w.heap.size) (by first | assumption | omega | (simp; done) | (simp; omega)))
                    | (go_at_call 59; refine (hcp _ (by ((repeat (first | exact Below.refl _ _ | assumption | refine Below.al ?_ _ | refine Below.ch ?_ (by assumption) | refine belowN ?_))))).mono ?_; rintro e w6 ⟨rfl, hb6⟩))
                  have hSH : SH = false ∨ (SH = true ∧ AB = true ∧ H ≤ most) := by
                    cases SH with
                    | false => exact .inl rfl
                    | true => exact .inr ⟨rfl, Hsp.out rfl⟩
                  cases K with
                  | false =>
                    have hex := Hbe.out
                    clear Hsp Hsl HK Hbe
                    rcases hex with rfl | rfl
                    all_goals rcases hSH with rfl | ⟨rfl, rfl, hle⟩
                    all_goals
                      go_quiet (fail)
                      go_wp2_with (go_at_call 21; refine (lalive_any _).mono ?_; rintro e w9 ⟨rfl, hb9⟩; obtain ⟨hc9, hf9⟩ := bcell hb9)
                      go_ret
                      exact ⟨rfl, by ((repeat (first | exact Below.refl _ _ | assumption | refine Below.al ?_ _ | refine Below.ch ?_ (by assumption) | refine belowN ?_)))⟩
                  | true =>
                    obtain ⟨r1, ⟨r2, r3⟩, ⟨r4, r5⟩, r6, r7, r8⟩ := Hsl.out rfl
                    have hEX : EX = 0 := by
                      rcases Hbe.out with h | h
                      · exact h
                      · have := HK.out h; cases this
                    subst hEX
                    clear Hsp Hsl HK Hbe
                    have hwr : IntKind.i64.wrap (gi xs y - gi xs x) = gi xs y - gi xs x := IntWalk.i64_in _ (by omega)
                    have hX6 := hx.below (show Below w.heap.size w w6 by ((repeat (first | exact Below.refl _ _ | assumption | refine Below.al ?_ _ | refine Below.ch ?_ (by assumption) | refine belowN ?_))))
                    have hxl := hX6.len
                    obtain ⟨xb, xo, rfl, xl, g1⟩ := hX6.get (i := y.toNat) (by omega)
                    obtain ⟨xb', xo', he, _, g2⟩ := hX6.get (i := x.toNat) (by omega)
                    simp at he
                    obtain ⟨rfl, rfl⟩ := he
                    rw [show xs.getD y.toNat 0 = gi xs y from rfl] at g1
                    rw [show xs.getD x.toNat 0 = gi xs x from rfl] at g2
                    have x1' : x < (n1 : Int) := by omega
                    have y1' : y < (n1 : Int) := by omega
                    have hAB : AB = false ∨ (AB = true ∧ decide (H < gi xs y - gi xs x) = false) := by
                      cases AB with
                      | false => exact .inl rfl
                      | true => exact .inr ⟨rfl, decide_eq_false (by have := r6 rfl; omega)⟩
                    have hBB : BB = false ∨ (BB = true ∧ decide (gi xs y - gi xs x < -L) = false) := by
                      cases BB with
                      | false => exact .inl rfl
                      | true => exact .inr ⟨rfl, decide_eq_false (by have := r7 rfl; omega)⟩
                    have hSS : SH = false ∨ (SH = true ∧ AB = true ∧ H ≤ most ∧ decide (most < gi xs y - gi xs x) = false) := by
                      rcases hSH with h | ⟨h, h2, h3⟩
                      · exact .inl h
                      · subst h2; exact .inr ⟨h, rfl, h3, decide_eq_false (by have := r6 rfl; omega)⟩
                    clear r1 r2 r3 r4 r5 r6 r7 r8 hxl hX6 hSH
                    generalize gi xs y = Xy at *
                    generalize gi xs x = Xx at *
                    rcases hSS with rfl | ⟨rfl, rfl, hle, hm⟩
                    · rcases hAB with rfl | ⟨rfl, t1⟩
                      all_goals rcases hBB with rfl | ⟨rfl, t2⟩
                      all_goals
                        go_quiet (fail)
                        go_wp2_with (go_at_call 21; refine (lalive_any _).mono ?_; rintro e w9 ⟨rfl, hb9⟩; obtain ⟨hc9, hf9⟩ := bcell hb9)
                        go_ret
                        exact ⟨rfl, by ((repeat (first | exact Below.refl _ _ | assumption | refine Below.al ?_ _ | refine Below.ch ?_ (by assumption) | refine belowN ?_)))⟩
                    · rcases hAB with h | ⟨_, t1⟩
                      · cases h
                      · rcases hBB with rfl | ⟨rfl, t2⟩
                        all_goals
                          go_quiet (fail)
                          go_wp2_with (go_at_call 21; refine (lalive_any _).mono ?_; rintro e w9 ⟨rfl, hb9⟩; obtain ⟨hc9, hf9⟩ := bcell hb9)
                          go_ret
                          exact ⟨rfl, by ((repeat (first | exact Below.refl _ _ | assumption | refine Below.al ?_ _ | refine Below.ch ?_ (by assumption) | refine belowN ?_)))⟩
            · have e1 : (askE p bs x y != 0) = true := by simpa using hE
              have b1 : grB p bs x y = false := by rw [grB_far, decide_eq_false hE]; rfl
              have b2 : grB p bs y x = false := by rw [grB_far, HT.out, decide_eq_false hE]; rfl
              have e2 : (askE p bs x y == askE p bs x y) = true := by simp
              simp only [b1] at hG
              simp only [HT.out, b2] at hL
              generalize grN p bs x y = N1 at *
              generalize grN p bs y x = N2 at *
              generalize askE p bs x y = E1 at *
              clear hn4 hn h1 hE HT
              go_enter Try.func18, Try.ntmps18
              go_wp2_with (first
                | (go_at_call 20; refine (hW _).mono ?_; rintro e w0 ⟨rfl, hb0⟩; obtain ⟨hc0, hf0⟩ := bcell hb0; have hz0a := lt_size hb0 (b := w.heap.size) (by first | assumption | omega | (simp; done) | (simp; omega)))
                | (go_at_call 36; refine (hG _ (by ((repeat (first | exact Below.refl _ _ | assumption | refine Below.al ?_ _ | refine Below.ch ?_ (by assumption) | refine belowN ?_))))).mono ?_; rintro e w1 ⟨rfl, hb1⟩; obtain ⟨hc1, hf1⟩ := bcell hb1; have hz1a := lt_size hb1 (b := w.heap.size) (by first | assumption | omega | (simp; done) | (simp; omega)))
                | (go_at_call 37; refine (hL _ (by ((repeat (first | exact Below.refl _ _ | assumption | refine Below.al ?_ _ | refine Below.ch ?_ (by assumption) | refine belowN ?_))))).mono ?_; rintro e w2 ⟨rfl, hb2⟩; obtain ⟨hc2, hf2⟩ := bcell hb2; have hz2a := lt_size hb2 (b := w.heap.size) (by first | assumption | omega | (simp; done) | (simp; omega)))
                | (go_at_call 21; refine (lalive_any _).mono ?_; rintro e w9 ⟨rfl, hb9⟩; obtain ⟨hc9, hf9⟩ := bcell hb9))
              go_ret
              exact ⟨rfl, by ((repeat (first | exact Below.refl _ _ | assumption | refine Below.al ?_ _ | refine Below.ch ?_ (by assumption) | refine belowN ?_)))⟩
          · go_enter Try.func18, Try.ntmps18
            go_wp2_with (first
              | (go_at_call 20; refine (hW _).mono ?_; rintro e w0 ⟨rfl, hb0⟩; obtain ⟨hc0, hf0⟩ := bcell hb0; have hz0a := lt_size hb0 (b := w.heap.size) (by first | assumption | omega | (simp; done) | (simp; omega)))
              | (go_at_call 21; refine (lalive_any _).mono ?_; rintro e w9 ⟨rfl, hb9⟩; obtain ⟨hc9, hf9⟩ := bcell hb9))
            go_ret
            exact ⟨rfl, by ((repeat (first | exact Below.refl _ _ | assumption | refine Below.al ?_ _ | refine Below.ch ?_ (by assumption) | refine belowN ?_)))⟩
        · go_enter Try.func18, Try.ntmps18
          go_wp2_with (first
            | (go_at_call 20; refine (hW _).mono ?_; rintro e w0 ⟨rfl, hb0⟩; obtain ⟨hc0, hf0⟩ := bcell hb0; have hz0a := lt_size hb0 (b := w.heap.size) (by first | assumption | omega | (simp; done) | (simp; omega)))
            | (go_at_call 21; refine (lalive_any _).mono ?_; rintro e w9 ⟨rfl, hb9⟩; obtain ⟨hc9, hf9⟩ := bcell hb9))
          go_ret
          exact ⟨rfl, by ((repeat (first | exact Below.refl _ _ | assumption | refine Below.al ?_ _ | refine Below.ch ?_ (by assumption) | refine belowN ?_)))⟩
      · go_enter Try.func18, Try.ntmps18
        go_wp2_with (first
          | (go_at_call 20; refine (hW _).mono ?_; rintro e w0 ⟨rfl, hb0⟩; obtain ⟨hc0, hf0⟩ := bcell hb0; have hz0a := lt_size hb0 (b := w.heap.size) (by first | assumption | omega | (simp; done) | (simp; omega)))
          | (go_at_call 21; refine (lalive_any _).mono ?_; rintro e w9 ⟨rfl, hb9⟩; obtain ⟨hc9, hf9⟩ := bcell hb9))
        go_ret
        exact ⟨rfl, by ((repeat (first | exact Below.refl _ _ | assumption | refine Below.al ?_ _ | refine Below.ch ?_ (by assumption) | refine belowN ?_)))⟩
    · go_enter Try.func18, Try.ntmps18
      go_wp2_with (first
        | (go_at_call 20; refine (hW _).mono ?_; rintro e w0 ⟨rfl, hb0⟩; obtain ⟨hc0, hf0⟩ := bcell hb0; have hz0a := lt_size hb0 (b := w.heap.size) (by first | assumption | omega | (simp; done) | (simp; omega)))
        | (go_at_call 21; refine (lalive_any _).mono ?_; rintro e w9 ⟨rfl, hb9⟩; obtain ⟨hc9, hf9⟩ := bcell hb9))
      go_ret
      exact ⟨rfl, by ((repeat (first | exact Below.refl _ _ | assumption | refine Below.al ?_ _ | refine Below.ch ?_ (by assumption) | refine belowN ?_)))⟩
  · have h1 : decide (n ≤ 403) = false := by simpa using hn4
    simp only [h1] at hW
    go_enter Try.func18, Try.ntmps18
    go_wp2_with (first
      | (go_at_call 20; refine (hW _).mono ?_; rintro e w0 ⟨rfl, hb0⟩; obtain ⟨hc0, hf0⟩ := bcell hb0; have hz0a := lt_size hb0 (b := w.heap.size) (by first | assumption | omega | (simp; done) | (simp; omega)))
      | (go_at_call 21; refine (lalive_any _).mono ?_; rintro e w9 ⟨rfl, hb9⟩; obtain ⟨hc9, hf9⟩ := bcell hb9))
    go_ret
    exact ⟨rfl, by ((repeat (first | exact Below.refl _ _ | assumption | refine Below.al ?_ _ | refine Below.ch ?_ (by assumption) | refine belowN ?_)))⟩
end Go.Proofs.Ytlkcfohmoeadbaa
