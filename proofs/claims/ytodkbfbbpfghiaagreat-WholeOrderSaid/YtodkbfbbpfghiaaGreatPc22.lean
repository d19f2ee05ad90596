/-
  Lemmas and walks for the laws on roads and boards: what each function of the program answers, for every input.
-/
import Derived.Test.YtodkbfbbpfghiaaGreatPc21
import Derived.Test.YtodkbfbbpfghiaaGreatPc08
import Derived.Test.YtodkbfbbpfghiaaGreatPc14
import Derived.Test.YtodkbfbbpfghiaaGreatPc10
import Derived.Test.YtodkbfbbpfghiaaGreatPc07
set_option linter.unusedSimpArgs false
set_option linter.unusedVariables false
set_option linter.unnecessarySimpa false
namespace Go.Proofs.YtodkbfbbpfghiaaGreat
open Go.RowKit Go.Shelf
set_option maxHeartbeats 4000000
set_option maxRecDepth 100000
def Cs.barB (c : Cs) (x y : Int) : Bool := decide (c.two x y = 0) && !c.joiN x.toNat y.toNat
/-- The bar that is returned. -/
def Cs.barO (c : Cs) (x y : Int) : List Int := if c.barB x y = true ∧ clB c.s x.toNat y.toNat = false then (witS (merS c.s (min x.toNat y.toNat) (max x.toNat y.toNat))).take (c.lim.toNat + 1) else []
theorem witS_many {s : List Pn} (hs : OkS s) : (witS s).length = leastN s := by
  unfold witS
  rw [sort_len, intL_len]
  exact (witU_ok hs).2
theorem wBar (c : Cs) (x y : Int) (w : World) (hc : CsAt w c) :
    Calls Tryz.prog 36 #[c.v, .int .i64 x, .int .i64 y] w (IntBPost w (c.barO x y) (c.barB x y) (c.two x y)) := by
  have hC := fun w1 (h : CsAt w1 c) => wpair c x y w1 h
  unfold PairPost at hC
  have hz := @Cs.two_nat c x y
  have hz2 := @Cs.two_zero c x y
  have hb : c.barB x y = (decide (c.two x y = 0) && !c.joiN x.toNat y.toNat) := rfl
  have ho : c.barO x y = if c.barB x y = true ∧ clB c.s x.toNat y.toNat = false then (witS (merS c.s (min x.toNat y.toNat) (max x.toNat y.toNat))).take (c.lim.toNat + 1) else [] := rfl
  have hP := Lib.hid (show ∀ a k e w', e = .returned (.tuple #[.slice a (c.barO x y).length k, .bool (c.barB x y), .int .i64 (c.two x y)]) → Below w.heap.size w w' → IntsAt w' a (c.barO x y).length k (c.barO x y) → (c.barO x y).length ≤ k → IntBPost w (c.barO x y) (c.barB x y) (c.two x y) e w' from fun a k e w' h1 h2 h3 h4 => ⟨a, k, h1, h2, h3, h4⟩)
  generalize IntBPost w (c.barO x y) (c.barB x y) (c.two x y) = Post at *
  generalize c.barO x y = O at *
  generalize c.barB x y = JB at *
  generalize c.two x y = E at *
  by_cases h0 : E = 0
  · subst h0
    obtain ⟨X, Y, rfl, rfl, hAB, hBn, eA, eB⟩ := hz rfl
    obtain ⟨hm, hok, hsl⟩ := (hz2 rfl).1.many'
    have hlim := (hz2 rfl).1.lim
    rw [Cs.joiN_tog] at hb
    simp only [Int.toNat_natCast, decide_true, Bool.true_and] at hb ho
    rw [← clB_minmax] at ho
    rw [eA, eB] at hC
    clear hz hz2 eA eB
    generalize min X Y = A at *
    generalize max X Y = B at *
    simp only [ne_eq, not_true, false_implies, true_and, true_implies] at hC
    have hTo := fun W N a ca f cf (h : TabAt W N c a ca f cf) => wtogether c N a ca f cf A B W h hAB hBn hok (by omega)
    unfold TogPost at hTo
    have hml := merS_len (s := c.s) (a := A) (b := B) (by omega)
    have hokM := fun (hT : clB c.s A B = false) => hok.merS hAB (by omega) hT
    cases hT : clB c.s A B with
    | true =>
      rw [hT] at hb ho
      simp only [Bool.not_true, Bool.false_and, Bool.not_false] at hb
      subst hb
      simp only [Bool.true_eq_false, and_false, if_false] at ho
      subst ho
      simp only [hT, true_implies, Bool.true_eq_false, false_implies, and_true] at hTo
      have HP := Lib.hid hP.out
      clear hP hokM hT hok hlim
      obtain ⟨ware, lim, byr, a, cap, ps⟩ := c
      simp only [Cs.v] at *
      have hB0 := one_alloc w (Obj.cells #[.string ware, .int .i64 lim, .int .i64 byr, .slice a ps.length cap] 24)
      have hbx := hc.below hB0
      go_enter Tryz.func36, Tryz.ntmps36
      go_wp2_with (first
        | (go_at_call 67; (with_reducible refine (hC _ hbx).mono ?_); rintro e w1 ⟨N, a1, ca, f1, cf, rfl, hb1, hN, hT⟩)
        | (go_at_call 87; (with_reducible refine (hTo _ _ _ _ _ _ hT).mono ?_); rintro e w2 ⟨rfl, hb2⟩))
      have hBE := (hB0.ch2 hb1).ch2 hb2
      have hzE := hBE.size
      refine bodyPost_ret (v := .tuple #[.slice none 0 0, .bool true, .int .i64 0]) (by simp [results, Tryz.results36, go_sem, *]) rfl (HP.out none 0 _ _ rfl ?_ (IntsAt.nilAt _) (Nat.le_refl _))
      (repeat (first | (with_reducible exact hBE) | ((with_reducible refine Below.setCell ?_ ?_ _); rotate_left; focus (first | omega | (simp; done) | (simp; omega))) | ((with_reducible refine Below.alloc ?_ ?_ _); rotate_left; focus (first | omega | (simp; done) | (simp; omega)))))
    | false =>
      rw [hT] at hb ho
      simp only [Bool.not_false, Bool.true_and] at hb
      simp only [hT, Bool.false_eq_true, false_implies, true_and, true_implies] at hTo
      cases hTB : c.togB A B with
      | true =>
        rw [hTB] at hb hTo
        simp only [Bool.not_true] at hb
        subst hb
        simp only [Bool.false_eq_true, false_and, if_false] at ho
        subst ho
        have HP := Lib.hid hP.out
        clear hP hokM hT hok hTB hlim
        obtain ⟨ware, lim, byr, a, cap, ps⟩ := c
        simp only [Cs.v] at *
        have hB0 := one_alloc w (Obj.cells #[.string ware, .int .i64 lim, .int .i64 byr, .slice a ps.length cap] 24)
        have hbx := hc.below hB0
        go_enter Tryz.func36, Tryz.ntmps36
        go_wp2_with (first
          | (go_at_call 67; (with_reducible refine (hC _ hbx).mono ?_); rintro e w1 ⟨N, a1, ca, f1, cf, rfl, hb1, hN, hT⟩)
          | (go_at_call 87; (with_reducible refine (hTo _ _ _ _ _ _ hT).mono ?_); rintro e w2 ⟨a2, c2, f2, g2, rfl, hb2, ho2⟩; clear ho2))
        have hBE := (hB0.ch2 hb1).ch2 hb2
        have hzE := hBE.size
        refine bodyPost_ret (v := .tuple #[.slice none 0 0, .bool false, .int .i64 0]) (by simp [results, Tryz.results36, go_sem, *]) rfl (HP.out none 0 _ _ rfl ?_ (IntsAt.nilAt _) (Nat.le_refl _))
        (repeat (first | (with_reducible exact hBE) | ((with_reducible refine Below.setCell ?_ ?_ _); rotate_left; focus (first | omega | (simp; done) | (simp; omega))) | ((with_reducible refine Below.alloc ?_ ?_ _); rotate_left; focus (first | omega | (simp; done) | (simp; omega)))))
      | false =>
        rw [hTB] at hb hTo
        simp only [Bool.not_false] at hb
        subst hb
        simp only [true_and, if_true] at ho
        obtain ⟨M, hM⟩ : ∃ M : Nat, c.lim = M := ⟨c.lim.toNat, by omega⟩
        have htg : ¬ c.lim = 0 ∧ ¬ (leastN (merS c.s A B) : Int) ≤ c.lim := by
          unfold Cs.togB at hTB
          simpa using hTB
        have hwl := witS_many (hokM hT)
        have hMw : M + 1 ≤ (witS (merS c.s A B)).length := by omega
        have hMM : c.lim.toNat + 1 = M + 1 := by omega
        rw [hMM] at ho
        have hWi := fun w1 a ca f cf (h : SpansAt w1 a ca f cf (merS c.s A B).length (merS c.s A B)) => wwitness a ca f cf _ (merS c.s A B) w1 h (by omega) (hokM hT)
        have hSm : (merS c.s A B).length ≤ 100000 := by omega
        have hM40 : M ≤ 40 := by omega
        have hwS : (witS (merS c.s A B)).length ≤ 1000 := by have := witS_len (hokM hT); omega
        generalize merS c.s A B = S at *
        generalize witS S = WS at *
        have hK1 : S.length = c.ps.length - 1 := by omega
        have hps : c.ps.length ≤ 40 := by omega
        have hps2 : 0 < c.ps.length - 1 := by omega
        rw [hK1] at hTo hWi
        unfold RowPost spV at hWi
        subst ho
        have hOl : (WS.take (M + 1)).length = M + 1 := by rw [List.length_take]; omega
        have HP := Lib.hid (show ∀ a e w', e = .returned (.tuple #[.slice a (M + 1) (M + 1), .bool true, .int .i64 0]) → Below w.heap.size w w' → RowAt w' a (M + 1) ((WS.map (.int .i64)).take (M + 1)) → Post e w' from fun a e w' h1 h2 h3 => hP.out a (M + 1) e w' (by rw [hOl]; exact h1) h2 ⟨rfl, by omega, by rw [List.map_take]; exact h3⟩ (by omega))
        have HSm := Lib.hid hSm
        have HK1 := Lib.hid hK1
        have HwS := Lib.hid hwS
        have HMw := Lib.hid hMw
        obtain ⟨KW, hKW⟩ : ∃ KW, WS.length = KW := ⟨_, rfl⟩
        rw [hKW] at hWi hMw
        have HKW := Lib.hid hKW
        obtain ⟨WV, hWV⟩ : ∃ WV, WS.map (Value.int .i64) = WV := ⟨_, rfl⟩
        have hWVl : WV.length = KW := by rw [← hWV, List.length_map, hKW]
        rw [hWV] at hWi HP
        have HWVl := Lib.hid hWVl
        clear hP hokM hT hok hTB hsl hml hm hK1 hSm hlim htg hwl hMM hOl hKW hWV hWVl hwS
        obtain ⟨ware, lim, byr, a, cap, ps⟩ := c
        simp only at hM
        subst hM
        simp only [Cs.v] at *
        have hB0 := one_alloc w (Obj.cells #[.string ware, .int .i64 M, .int .i64 byr, .slice a ps.length cap] 24)
        have hbx := hc.below hB0
        have b0 : (((ps.length - 1 : Nat) : Int) == 0) = false := by simp; omega
        have hpn : ¬ ps.length - 1 = 0 := by omega
        go_enter Tryz.func36, Tryz.ntmps36
        go_wp2_with (first
          | (go_at_call 67; (with_reducible refine (hC _ hbx).mono ?_); rintro e w1 ⟨N, a1, ca, f1, cf, rfl, hb1, hN, hT⟩)
          | (go_at_call 87; (with_reducible refine (hTo _ _ _ _ _ _ hT).mono ?_); rintro e w2 ⟨a2, c2, f2, g2, rfl, hb2, ho2⟩; have HO2 := Lib.hid ho2; clear ho2))
        obtain ⟨w3, hw3⟩ : ∃ w3, w3 = w2.alloc (Obj.cells #[.slice a2 (ps.length - 1) c2, .slice f2 (ps.length - 1) g2] 83) := ⟨_, rfl⟩
        rw [← hw3]
        have hB12 : Below w.heap.size w w2 := (hB0.ch2 hb1).ch2 hb2
        have hBW : Below w.heap.size w w3 := by rw [hw3]; exact hB12.ch2 (one_alloc _ _)
        have hbox : w3.heap[w2.heap.size]? = some (.cells #[.slice a2 (ps.length - 1) c2, .slice f2 (ps.length - 1) g2] 83 (0, 0)) := by rw [hw3]; exact World.alloc_heap_new _ _
        obtain ⟨p0, p1, pf, pl⟩ := cell2w hbox
        have hT3 : TabAt w3 N ⟨ware, M, byr, a, cap, ps⟩ a1 ca f1 cf := by rw [hw3]; exact (hT.below hb2).below (one_alloc _ _)
        obtain ⟨r0, r1, r2, r3, r4, r5⟩ := hT3.get
        have hNl := hT3.lt
        have HSp := Lib.hid (show ∀ W, Below w3.heap.size w3 W → SpansAt W a2 c2 f2 g2 (ps.length - 1) S from fun W h => by
          have h2 := (HO2.out.up (one_alloc w2 (Obj.cells #[.slice a2 (ps.length - 1) c2, .slice f2 (ps.length - 1) g2] 83))).spans HSm.out
          rw [HK1.out, ← hw3] at h2
          exact h2.below h)
        simp only at r1
        generalize w2.heap.size = BX at *
        have x3 : (0 : Int) ≤ (M : Int) + 1 := by omega
        have x4 : IntKind.i64.wrap ((M : Int) + 1) = (M : Int) + 1 := IntWalk.i64_in _ (by omega)
        have x7 : ((M : Int) + 1).toNat = M + 1 := by omega
        clear hw3 hT3 hT hb1 hb2 hB12 hbox hc hC hTo HO2 b0 hpn hB0 hbx r0 r2 r3 r4 r5
        apply SLG.rule0 ?hm1 [] [39, 40, 41, 42, 43, 44, 45, 46, 47, 48, 49, 50, 51, 52, 53, 6, 7, 8] [SLF.pq 39 [] _, SL.aw 40 [0] [] (fun x => .row w3.heap.size 3 1 x KW WV), SLF.pq 41 [] _, SLF.pq 42 [2] _, SLF.pq 43 [3] _, SLF.pq 44 [4] _, SLF.pq 45 [5] _, SLF.pq 46 [6] _, SLF.pq 47 [] _, SLF.pq 48 [8] _, SLF.pq 49 [9] _, SLF.pq 50 [10] _, SLF.pq 51 [11] _, SLF.pq 52 [12] _, SL.aw 53 [1, 7, 13] [1] (fun x => .ex fun a5 : Option Addr => .sep (.pure (x = .slice a5 (M + 1) (M + 1))) (.lies a5 (M + 1) (WV.take (M + 1)))), SL.aw 6 [14] [14] (fun x => .ex fun a5 : Option Addr => .sep (.pure (x = .slice a5 (M + 1) (M + 1))) (.lies a5 (M + 1) (WV.take (M + 1)))), SLF.pq 7 [] _, SLF.pq 8 [] _] [15, 16, 17] ?hck1 ?hkp1 (fun _ => []) ?hin1 ?hdj1 ?hfr1 ?ob1 ?en1
        case hm1 => kernel_rfl
        case hin1 => exact SL.none_held rfl
        case hdj1 => simp
        case hfr1 => intro us; simp only [SL.frame, SL.put']; simp; exact rfl
        case ob1 =>
          refine ⟨?_, ?_, ?_, ?_, ?_, ?_, ?_, ?_, ?_, ?_, ?_, ?_, ?_, ?_, ?_, ?_, ?_, ?_, trivial⟩
          all_goals first
            | (intro us w' Fe hG hu hd hv Kx hK
               try dsimp only
               simp [SL.Used, SL.pu, SL.row, SL.box, SL.rowIn, SL.boxIn, SL.boxAt, SL.boxAtIn, SLF.pq, Act.put, SL.aw_sub, SL.aw_use, SL.aw_eat, SL.aw_V, SL.aw_quiet] at hu hK
               have hB5 : Below w3.heap.size w3 w' := hG.below'
               obtain ⟨hc5, hf5⟩ := bcell hB5
               have hs5 := hB5.size
               clear hv hG
               refine SLF.wpo_do (SLF.wanted_free rfl) ?hd1 ?_
               case hd1 => intro c h; cases h
               clear hd
               first
                 | (go_step; exact hK _ _ _ (SL.Chg.refl _ _) (by first | exact rfl | (simp only [hu]; exact rfl)) rfl (by simp) rfl)
                 | exact hK _ _ _ (SL.Chg.refl _ _) rfl rfl (by simp) rfl)
            | skip
          · refine SLG.ob_sp rfl rfl rfl fun us w' Fe hG hu hd Kx hK => ?_
            try dsimp only
            simp [SL.Used, SL.pu, SL.row, SL.box, SL.rowIn, SL.boxIn, SL.boxAt, SL.boxAtIn, SLF.pq, Act.put, SL.aw_sub, SL.aw_use, SL.aw_eat, SL.aw_V, SL.aw_quiet] at hu
            have hB5 : Below w3.heap.size w3 w' := hG.below'
            obtain ⟨hc5, hf5⟩ := bcell hB5
            have hs5 := hB5.size
            refine SLF.wpo_do (SLF.wanted_free rfl) ?hd1 ?_
            case hd1 => intro c h; cases h
            go_step
            refine (hWi _ _ _ _ _ (HSp.out _ hB5)).mono ?_
            rintro e w6 ⟨v, rfl, hb6, ho6⟩
            exact hK _ v w6 _ (by simp [Act.put]; done) (.of_below hb6) (SL.aw_in ⟨SL.row_base ho6 hs5, rfl⟩) (fun k hk => .inr (SL.row_bounds ho6 k hk))
          · refine SLG.ob_sp rfl rfl rfl fun us w' Fe hG hu hd Kx hK => ?_
            try dsimp only
            simp [SL.Used, SL.pu, SL.row, SL.box, SL.rowIn, SL.boxIn, SL.boxAt, SL.boxAtIn, SLF.pq, Act.put, SL.aw_sub, SL.aw_use, SL.aw_eat, SL.aw_V, SL.aw_quiet] at hu
            have hB5 : Below w3.heap.size w3 w' := hG.below'
            obtain ⟨hc5, hf5⟩ := bcell hB5
            have hs5 := hB5.size
            refine SLF.wpo_do (SLF.wanted_free rfl) ?hd1 ?_
            case hd1 => intro c h; cases h
            obtain ⟨h1, ⟨e7, _⟩, e13, _⟩ := hu
            obtain ⟨hro, e1⟩ := SL.aw_out h1
            obtain ⟨a5, c5, e2, _⟩ := owns_slice hro
            rw [e2] at hro e1
            obtain ⟨G, rfl, _, _, hc5⟩ := owns_some hro (by omega)
            have y1 : (M : Int) + 1 ≤ (c5 : Int) := by omega
            have y2 : (M : Int) + 1 ≤ (KW : Int) := by omega
            have hrl := rowTake (RowAt.of_owns hro) (M + 1) (M + 1) (fun h => by cases h)
            go_step
            exact hK _ _ _ _ (by simp [Act.put]; done) (SL.Chg.refl _ _) (SL.aw_in ⟨_, _, _, ⟨rfl, rfl⟩, ⟨hrl, rfl⟩, rfl⟩) (fun k hk => .inl (by simpa [SL.aw_eat, e1, Value.ownBlock] using hk))
          · refine SLG.ob_sp rfl rfl rfl fun us w' Fe hG hu hd Kx hK => ?_
            try dsimp only
            simp [SL.Used, SL.pu, SL.row, SL.box, SL.rowIn, SL.boxIn, SL.boxAt, SL.boxAtIn, SLF.pq, Act.put, SL.aw_sub, SL.aw_use, SL.aw_eat, SL.aw_V, SL.aw_quiet] at hu
            have hB5 : Below w3.heap.size w3 w' := hG.below'
            obtain ⟨hc5, hf5⟩ := bcell hB5
            have hs5 := hB5.size
            refine SLF.wpo_do (SLF.wanted_free rfl) ?hd1 ?_
            case hd1 => intro c h; cases h
            obtain ⟨a5, F1, F2, ⟨hx, rfl⟩, ⟨hl, rfl⟩, hF⟩ := SL.aw_out hu
            go_step
            exact hK _ _ _ _ (by simp [Act.put]; done) (SL.Chg.refl _ _) (SL.aw_in ⟨a5, _, _, ⟨hx, rfl⟩, ⟨hl, rfl⟩, rfl⟩) (fun k hk => .inl (by simpa [SL.aw_eat, hF, Value.ownBlock] using hk))
        case hck1 => kernel_rfl
        case hkp1 => kernel_rfl
        intro us w5 Fs hG hu hbd hd
        simp [SL.Used, SL.aw_sub, SLF.pq] at hu
        obtain ⟨h15, ⟨e7, _⟩, e8, _⟩ := hu
        obtain ⟨a5, F1, F2, ⟨hx, rfl⟩, ⟨hl, rfl⟩, hF⟩ := SL.aw_out h15
        have hB5 : Below w.heap.size w w5 := hBW.ch2 hG.below'
        have hFin := Lib.hid (HP.out a5 _ _ rfl hB5 hl)
        clear h15 hbd hd hG hl hF
        go_wp2_with fail
        refine bodyPost_ret (v := .tuple #[.slice a5 (M + 1) (M + 1), .bool true, .int .i64 0]) (by simp [results, Tryz.results36, go_sem, *]) rfl hFin.out
  · have h2 : (E != 0) = true := by simpa using h0
    have hC2 := fun w1 h => (hC w1 h).mono fun e w' hh => hh.1 h0
    have hJ : JB = false := by rw [hb]; simp [h0]
    subst hJ
    simp only [Bool.false_eq_true, false_and, if_false] at ho
    subst ho
    have HP := Lib.hid hP.out
    obtain ⟨ware, lim, byr, a, cap, ps⟩ := c
    simp only [Cs.v] at *
    have hB0 := one_alloc w (Obj.cells #[.string ware, .int .i64 lim, .int .i64 byr, .slice a ps.length cap] 24)
    have hbx := hc.below hB0
    clear h0 hz hz2 hC hP hb
    go_enter Tryz.func36, Tryz.ntmps36
    go_wp2_with (go_at_call 67; (with_reducible refine (hC2 _ hbx).mono ?_); rintro e w1 ⟨t, rfl, hb1⟩)
    have hBE := hB0.ch2 hb1
    refine bodyPost_ret (v := .tuple #[.slice none 0 0, .bool false, .int .i64 E]) (by simp [results, Tryz.results36, go_sem, *]) rfl (HP.out none 0 _ _ rfl ?_ (IntsAt.nilAt _) (Nat.le_refl _))
    (repeat (first | (with_reducible exact hBE) | ((with_reducible refine Below.setCell ?_ ?_ _); rotate_left; focus (first | omega | (simp; done) | (simp; omega))) | ((with_reducible refine Below.alloc ?_ ?_ _); rotate_left; focus (first | omega | (simp; done) | (simp; omega)))))
open Go.Lib
theorem SamePs.case {c : Cs} {qs ps : List Pt} (h : SamePs qs ps) (a : Option Addr) (cap : Nat) (b : Option Addr) (cap' : Nat) : SameC ⟨c.ware, c.lim, c.byr, a, cap, qs⟩ ⟨c.ware, c.lim, c.byr, b, cap', ps⟩ :=
  ⟨rfl, rfl, rfl, h.len, fun i hi => h.each i (by have := h.len; simp only at hi; omega)⟩
theorem heap_put3 {w : World} {N : Nat} {a b c d : Value} {t : TypeId} (h : w.heap[N]? = some (.cells #[a, b, c, d] t (0, 0))) (v : Value) : (w.setCell ⟨N, 3, none⟩ v).heap[N]? = some (.cells #[a, b, c, v] t (0, 0)) := by
  have := SL.heap_set h v (i := 3)
  simpa using this
end Go.Proofs.YtodkbfbbpfghiaaGreat
