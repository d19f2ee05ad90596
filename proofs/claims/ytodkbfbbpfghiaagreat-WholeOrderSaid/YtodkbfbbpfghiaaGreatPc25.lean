/-
  Lemmas and walks for the laws on roads and boards: what each function of the program answers, for every input.
-/
import Derived.Test.YtodkbfbbpfghiaaGreatPc18
import Derived.Test.YtodkbfbbpfghiaaGreatPc14
import Derived.Test.YtodkbfbbpfghiaaGreatPc22
import Derived.Test.YtodkbfbbpfghiaaGreatPc23
import Derived.Test.YtodkbfbbpfghiaaGreatPc24
import Derived.Test.YtodkbfbbpfghiaaGreatPc20
import Derived.Test.YtodkbfbbpfghiaaGreatPc19
set_option linter.unusedSimpArgs false
set_option linter.unusedVariables false
set_option linter.unnecessarySimpa false
namespace Go.Proofs.YtodkbfbbpfghiaaGreat
open Go.RowKit Go.Shelf
set_option maxHeartbeats 4000000
set_option maxRecDepth 100000
theorem wCheckShow (c : Cs) (al : Option Addr) (m cl : Nat) (l : List (Int × Int)) (n : Int) (w : World) (hc : CsAt w c) (hl : RngsAt w al m cl l) (hsm : l.length ≤ 1000000) :
    Calls Tryz.prog 25 #[c.v, .slice al m cl, .int .i64 n] w fun e w' => e = .returned (.tuple #[.bool (c.shw l n), .int .i64 c.chk]) ∧ Below w.heap.size w w' := by
  have hC := fun w1 (h : CsAt w1 c) => wlaid0 c w1 h
  have hok := @Cs.chk_zero c
  have hr : c.shw l n = (decide (c.chk = 0) && (shwN l l.length && decide (n ≤ (sumD c.s l : Int)))) := by unfold Cs.shw; rw [shwB_N]
  obtain rfl := hl.len
  generalize c.shw l n = R at *
  by_cases h0 : c.chk = 0
  · obtain ⟨hm, hos, hsl⟩ := (hok.1 h0).many'
    simp only [h0, decide_true, Bool.true_and, ne_eq, not_true, false_implies, true_and, true_implies] at hr hC ⊢
    have hD' := fun (lo hi : Int) w1 a ca f cf (h : SpansAt w1 a ca f cf c.s.length c.s) => wdemand a ca f cf c.s.length c.s lo hi w1 h (by omega)
    obtain ⟨ware, lim, byr, a, cap, ps⟩ := c
    generalize hsS : Cs.s ⟨ware, lim, byr, a, cap, ps⟩ = s at *
    simp only [Cs.v] at *
    have hB0 := one_alloc w (Obj.cells #[.string ware, .int .i64 lim, .int .i64 byr, .slice a ps.length cap] 24)
    have hbx := hc.below hB0
    have hlx := hl.below hB0
    have HR : Hid (∀ k, k ≤ l.length → shwN l k = false → R = false) := Lib.hid (fun k hk h => by rw [hr, shwN_pre hk h]; rfl)
    have HR2 : Hid (shwN l l.length = true → R = decide (n ≤ (sumD s l : Int))) := Lib.hid (fun h => by rw [hr, h]; rfl)
    have hsb : ∀ k, k ≤ l.length → sumD s (l.take k) ≤ 40000000 := fun k hk => by
      have h1 := sumD_bound s (l.take k)
      rw [List.length_take] at h1
      have h2 : min k l.length * s.length ≤ 1000000 * 40 := Nat.mul_le_mul (by omega) hm
      omega
    have Hsb := Lib.hid hsb
    clear hr hsb
    go_enter Tryz.func25, Tryz.ntmps25
    go_wp2_with (go_at_call 75; (with_reducible refine (hC _ hbx).mono ?_); rintro e w1 ⟨N, a1, ca, f1, cf, rfl, hb1, hN, hT⟩; obtain ⟨t0, t1, t2, t3, t4, t5⟩ := hT.get; have hz1 := hT.lt; have hTs := hT.sp; rw [hsS] at hTs; simp only at t4 t5 hTs hz1; rw [← hsl] at t4 t5 hTs; have hly := hlx.below hb1)
    have hD := fun lo hi w1 h => hD' lo hi w1 a1 ca f1 cf h
    unfold spV at hD
    clear hsl hD' hT t0 t1 t2 t3
    have hBW : Below w.heap.size w w1 := hB0.ch2 hb1
    clear hb1 hC hB0 hbx hlx hos hsS hok h0
    go_loopw [10, 23] (fun sm i wr => ∃ k : Nat, k ≤ l.length ∧ sm = .int .i64 (sumD s (l.take k)) ∧ i = .int .i64 k ∧ Below w1.heap.size w1 wr ∧ shwN l k = true) (fun _ i _ => l.length - (RowKit.intOf i).toNat)
    case atStart => exact ⟨0, Nat.zero_le _, rfl, rfl, Below.refl _ _, rfl⟩
    case round =>
      obtain ⟨k, hk', rfl, rfl, hB, hall⟩ := hrel
      have Hall := Lib.hid hall
      clear hall
      have hnn : (0 : Int) ≤ k := by omega
      have hzr : N < wr.heap.size := lt_size hB hz1
      by_cases hlt : k < l.length
      · have i1 : (k : Int) < (l.length : Int) := by omega
        obtain ⟨b, o, rfl, hbl, d0, d1⟩ := (hly.below hB).get hlt
        have Hsu := Lib.hid (shwN_succ l k)
        have Hs1 := Lib.hid (Hsb.out k hk')
        have HF' : Hid (shwOk l k = false → R = false) := Lib.hid (fun h => HR.out (k + 1) (by omega) (by rw [Hsu.out, h]; simp))
        have hokd : shwOk l k = (decide (0 ≤ (l.getD k default).1) && decide ((l.getD k default).1 ≤ (l.getD k default).2) && decide ((l.getD k default).2 ≤ 1000) && (decide (k = 0) || decide ((l.getD (k - 1) default).2 < (l.getD k default).1))) := rfl
        have d2' : ∀ (_ : 0 < k), wr.cell? ⟨b, o + (k - 1) * 2 + 1, none⟩ = some (.int .i64 (l.getD (k - 1) default).2) := fun h0 => by
          obtain ⟨b', o', e, _, _, d⟩ := (hly.below hB).get (i := k - 1) (by omega)
          simp at e
          obtain ⟨rfl, rfl⟩ := e
          exact d
        obtain ⟨x, hx⟩ : ∃ x, (l.getD k default).1 = x := ⟨_, rfl⟩
        obtain ⟨y, hy⟩ : ∃ y, (l.getD k default).2 = y := ⟨_, rfl⟩
        obtain ⟨q, hq⟩ : ∃ q, (l.getD (k - 1) default).2 = q := ⟨_, rfl⟩
        rw [hx] at d0
        rw [hy] at d1
        rw [hq] at d2'
        rw [hx, hy, hq] at hokd
        have Hx := Lib.hid hx
        have Hy := Lib.hid hy
        clear hx hy hq
        generalize shwOk l k = OK at *
        have hal := one_alloc wr (Obj.cells #[.int .i64 x, .int .i64 y] 33)
        have hBA := hB.ch2 hal
        have Hokd := Lib.hid hokd
        clear hokd
        have hg0 : decide ((0 : Int) < k) = decide (0 < k) := by congr 1; simp
        have Hg0 := Lib.hid hg0
        clear hg0
        by_cases a1 : x < 0
        · have HF := Lib.hid (HF'.out (by rw [Hokd.out, decide_eq_false (show ¬ (0 : Int) ≤ x by omega)]; simp))
          clear d2'
          go_wp2_with fail
          go_quiet (fail)
          go_wp2
          go_ret2
          rw [HF.out]
          exact ⟨rfl, hBW.ch2 (belowN hBA)⟩
        by_cases a2 : y < x
        · have HF := Lib.hid (HF'.out (by rw [Hokd.out, decide_eq_false (show ¬ x ≤ y by omega)]; simp))
          have a1' : decide (x < 0) = false := decide_eq_false a1
          have a2' : decide (y < x) = true := decide_eq_true a2
          clear d2'
          go_wp2_with fail
          go_quiet (fail)
          go_wp2
          go_ret2
          rw [HF.out]
          exact ⟨rfl, hBW.ch2 (belowN hBA)⟩
        by_cases a3 : 1000 < y
        · have HF := Lib.hid (HF'.out (by rw [Hokd.out, decide_eq_false (show ¬ y ≤ 1000 by omega)]; simp))
          have a1' : decide (x < 0) = false := decide_eq_false a1
          have a2' : decide (y < x) = false := decide_eq_false a2
          have a3' : decide (1000 < y) = true := decide_eq_true a3
          clear d2'
          go_wp2_with fail
          go_quiet (fail)
          go_wp2
          go_ret2
          rw [HF.out]
          exact ⟨rfl, hBW.ch2 (belowN hBA)⟩
        have a1' : decide (x < 0) = false := decide_eq_false a1
        have a2' : decide (y < x) = false := decide_eq_false a2
        have a3' : decide (1000 < y) = false := decide_eq_false a3
        have Hpart := Lib.hid (show (decide (0 ≤ x) && decide (x ≤ y) && decide (y ≤ 1000)) = true by simp; omega)
        by_cases hk0 : k = 0
        · have HG : Hid (OK = true) := Lib.hid (by rw [Hokd.out, Hpart.out, decide_eq_true hk0]; rfl)
          have hgt2 : decide (0 < k) = false := by simp; omega
          have hgt : decide ((0 : Int) < k) = false := by rw [Hg0.out, hgt2]
          have Hk0 := Lib.hid hk0
          clear d2' hk0 a1 a2 a3
          have hB1' := fun n => belowN (n := n) hBA
          have hA1' := fun n => belowN (n := n) hal
          go_wp2_with fail
          go_quiet (fail)
          go_wp2_with fail
          have hB1 := hB1' nq
          have g0 : ((wr.alloc (Obj.cells #[.int .i64 x, .int .i64 y] 33)).drewN nq).cell? ⟨wr.heap.size, 0, none⟩ = some (.int .i64 x) := by simp [go_sem]
          have g1 : ((wr.alloc (Obj.cells #[.int .i64 x, .int .i64 y] 33)).drewN nq).cell? ⟨wr.heap.size, 1, none⟩ = some (.int .i64 y) := by simp [go_sem]
          have bl3 : wr.heap.size < ((wr.alloc (Obj.cells #[.int .i64 x, .int .i64 y] 33)).drewN nq).heap.size := by simp [go_sem]
          generalize (wr.alloc (Obj.cells #[.int .i64 x, .int .i64 y] 33)).drewN nq = wr1 at *
          clear hB1' hB hBA hal d0 d1
          have c4 := ((bcell hB1).1 _ 4 hz1).trans t4
          have c5 := ((bcell hB1).1 _ 5 hz1).trans t5
          have hzr1 : N < wr1.heap.size := lt_size hB1 hz1
          have hDD := fun w2 (h : Below wr1.heap.size wr1 w2) => hD x y w2 ((hTs.below hB1).below h)
          have Hst := Lib.hid (@sumD_take s l k hlt)
          have hDle := dem_le (s := s) x y
          rw [Hx.out, Hy.out] at Hst
          generalize dem s x y = D at *
          generalize sumD s (l.take k) = S at *
          have hS1 := Hs1.out
          have hwr : IntKind.i64.wrap ((S : Int) + (D : Int)) = (S : Int) + D := IntWalk.i64_in _ (by omega)
          apply SLG.rule0 ?hm1 [] [58, 59, 60, 61, 62, 63, 64, 65, 10] [SL.pu 58 [9] (.int .i64 S), SLF.pq 59 [] _, SLF.pq 60 [1] _, SLF.pq 61 [2] _, SLF.pq 62 [3] _, SLF.pq 63 [] _, SL.pu 64 [4, 5] (.int .i64 D), SLF.pq 65 [0, 6] _, { SL.pu 10 [7, 9] (.int .i64 ((S : Int) + D)) with eat := [9] }, SL.pu 10 [] (.int .i64 S)] [8] ?hck1 ?hkp1 (fun _ => []) ?hin1 ?hdj1 ?hfr1 ?ob1 ?en1
          case hm1 => kernel_rfl
          case hin1 => exact (SL.pu_held rfl rfl ⟨rfl, rfl⟩)
          case hdj1 => simp
          case hfr1 => intro us; simp only [SL.frame, SL.put']; simp; exact rfl
          case ob1 =>
            refine ⟨?_, ?_, ?_, ?_, ?_, ?_, ?_, ?_, ?_, trivial⟩
            all_goals first
              | (intro us w' Fe hG hu hd hv Kx hK
                 try dsimp only
                 simp [SL.Used, SL.pu, SL.row, SL.box, SL.rowIn, SL.boxIn, SL.boxAt, SL.boxAtIn, SLF.pq, Act.put, SL.aw_sub, SL.aw_use, SL.aw_eat, SL.aw_V, SL.aw_quiet] at hu hK
                 have hB5 : Below wr1.heap.size wr1 w' := hG.below'
                 obtain ⟨hc5, hf5⟩ := bcell hB5
                 have hs5 := hB5.size
                 clear hv hG
                 refine SLF.wpo_do (SLF.wanted_free rfl) ?hd1 ?_
                 case hd1 => intro c h; cases h
                 clear hd
                 first
                   | (go_step; exact hK _ _ _ (SL.Chg.refl _ _) (by first | exact rfl | (simp only [hu]; exact rfl)) rfl (by simp) rfl)
                   | exact hK _ _ _ (SL.Chg.refl _ _) rfl rfl (by simp) rfl)
              | skip
            · refine SLG.ob_sp rfl rfl rfl fun us w' Fe hG hu hd Kx hK => ?_
              try dsimp only
              simp [SL.Used, SL.pu, SL.row, SL.box, SL.rowIn, SL.boxIn, SL.boxAt, SL.boxAtIn, SLF.pq, Act.put, SL.aw_sub, SL.aw_use, SL.aw_eat, SL.aw_V, SL.aw_quiet] at hu
              have hB5 : Below wr1.heap.size wr1 w' := hG.below'
              obtain ⟨hc5, hf5⟩ := bcell hB5
              have hs5 := hB5.size
              refine SLF.wpo_do (SLF.wanted_free rfl) ?hd1 ?_
              case hd1 => intro c h; cases h
              obtain ⟨e10, _⟩ := hu
              go_step
              exact hK _ _ _ [] (by simp [Act.put, e10]; done) (SL.Chg.refl _ _) ⟨rfl, rfl⟩ (fun j hj => by cases hj)
            · refine SLG.ob_sp rfl rfl rfl fun us w' Fe hG hu hd Kx hK => ?_
              try dsimp only
              simp [SL.Used, SL.pu, SL.row, SL.box, SL.rowIn, SL.boxIn, SL.boxAt, SL.boxAtIn, SLF.pq, Act.put, SL.aw_sub, SL.aw_use, SL.aw_eat, SL.aw_V, SL.aw_quiet] at hu
              have hB5 : Below wr1.heap.size wr1 w' := hG.below'
              obtain ⟨hc5, hf5⟩ := bcell hB5
              have hs5 := hB5.size
              refine SLF.wpo_do (SLF.wanted_free rfl) ?hd1 ?_
              case hd1 => intro c h; cases h
              go_step
              refine (hDD _ hB5).mono ?_
              rintro e w6 ⟨rfl, hb6⟩
              exact hK _ _ w6 [] (by simp [Act.put]; done) (.of_below hb6) ⟨rfl, rfl⟩ (fun j hj => by cases hj)
            · refine SLG.ob_sp rfl rfl rfl fun us w' Fe hG hu hd Kx hK => ?_
              try dsimp only
              simp [SL.Used, SL.pu, SL.row, SL.box, SL.rowIn, SL.boxIn, SL.boxAt, SL.boxAtIn, SLF.pq, Act.put, SL.aw_sub, SL.aw_use, SL.aw_eat, SL.aw_V, SL.aw_quiet] at hu
              have hB5 : Below wr1.heap.size wr1 w' := hG.below'
              obtain ⟨hc5, hf5⟩ := bcell hB5
              have hs5 := hB5.size
              refine SLF.wpo_do (SLF.wanted_free rfl) ?hd1 ?_
              case hd1 => intro c h; cases h
              obtain ⟨⟨e65, _⟩, _⟩ := hu
              go_step
              exact hK _ _ _ [] (by simp [Act.put, e65]; done) (SL.Chg.refl _ _) ⟨rfl, rfl⟩ (fun j hj => by cases hj)
          case hck1 => kernel_rfl
          case hkp1 => kernel_rfl
          intro us w5 Fs hG hu hbd hd
          simp [SL.Used, SLF.pq] at hu
          obtain ⟨u36', _⟩ := hu
          have u36 : us 10 = Value.int .i64 ((S : Int) + (D : Int)) := u36'
          clear u36'
          have hB5 : Below wr1.heap.size wr1 w5 := hG.below'
          simp only [u36]
          clear hbd hd hG g0 g1 c4 c5 hwr
          go_wp2_with fail
          go_roundw
          case rel => exact ⟨k + 1, by omega, by rw [Hst.out]; simp, by go_num, hB1.ch2 hB5, by rw [Hsu.out, Hall.out, HG.out]; rfl⟩
          case measure => simp [RowKit.intOf]; omega
        have d2 := d2' (by omega)
        have hgt2 : decide (0 < k) = true := by simp; omega
        have hgt : decide ((0 : Int) < k) = true := by rw [Hg0.out, hgt2]
        have e1 : (k : Int) - 1 = ((k - 1 : Nat) : Int) := by omega
        have i2 : (k : Int) - 1 < (l.length : Int) := by omega
        have i3 : (0 : Int) ≤ (k : Int) - 1 := by omega
        have e2 : ((k : Int) - 1).toNat = k - 1 := by omega
        clear d2'
        by_cases a4 : q < x
        · have HG : Hid (OK = true) := Lib.hid (by rw [Hokd.out, Hpart.out, decide_eq_true a4]; simp)
          have a4' : decide (x ≤ q) = false := by simp only [decide_eq_false_iff_not]; omega
          clear a1 a2 a3 a4 hk0
          have hB1' := fun n => belowN (n := n) hBA
          have hA1' := fun n => belowN (n := n) hal
          go_wp2_with fail
          go_quiet (fail)
          go_wp2_with fail
          have hB1 := hB1' nq
          have g0 : ((wr.alloc (Obj.cells #[.int .i64 x, .int .i64 y] 33)).drewN nq).cell? ⟨wr.heap.size, 0, none⟩ = some (.int .i64 x) := by simp [go_sem]
          have g1 : ((wr.alloc (Obj.cells #[.int .i64 x, .int .i64 y] 33)).drewN nq).cell? ⟨wr.heap.size, 1, none⟩ = some (.int .i64 y) := by simp [go_sem]
          have bl3 : wr.heap.size < ((wr.alloc (Obj.cells #[.int .i64 x, .int .i64 y] 33)).drewN nq).heap.size := by simp [go_sem]
          generalize (wr.alloc (Obj.cells #[.int .i64 x, .int .i64 y] 33)).drewN nq = wr1 at *
          clear hB1' hB hBA hal d0 d1
          have c4 := ((bcell hB1).1 _ 4 hz1).trans t4
          have c5 := ((bcell hB1).1 _ 5 hz1).trans t5
          have hzr1 : N < wr1.heap.size := lt_size hB1 hz1
          have hDD := fun w2 (h : Below wr1.heap.size wr1 w2) => hD x y w2 ((hTs.below hB1).below h)
          have Hst := Lib.hid (@sumD_take s l k hlt)
          have hDle := dem_le (s := s) x y
          rw [Hx.out, Hy.out] at Hst
          generalize dem s x y = D at *
          generalize sumD s (l.take k) = S at *
          have hS1 := Hs1.out
          have hwr : IntKind.i64.wrap ((S : Int) + (D : Int)) = (S : Int) + D := IntWalk.i64_in _ (by omega)
          apply SLG.rule0 ?hm2 [] [58, 59, 60, 61, 62, 63, 64, 65, 10] [SL.pu 58 [9] (.int .i64 S), SLF.pq 59 [] _, SLF.pq 60 [1] _, SLF.pq 61 [2] _, SLF.pq 62 [3] _, SLF.pq 63 [] _, SL.pu 64 [4, 5] (.int .i64 D), SLF.pq 65 [0, 6] _, { SL.pu 10 [7, 9] (.int .i64 ((S : Int) + D)) with eat := [9] }, SL.pu 10 [] (.int .i64 S)] [8] ?hck2 ?hkp2 (fun _ => []) ?hin2 ?hdj2 ?hfr2 ?ob2 ?en2
          case hm2 => kernel_rfl
          case hin2 => exact (SL.pu_held rfl rfl ⟨rfl, rfl⟩)
          case hdj2 => simp
          case hfr2 => intro us; simp only [SL.frame, SL.put']; simp; exact rfl
          case ob2 =>
            refine ⟨?_, ?_, ?_, ?_, ?_, ?_, ?_, ?_, ?_, trivial⟩
            all_goals first
              | (intro us w' Fe hG hu hd hv Kx hK
                 try dsimp only
                 simp [SL.Used, SL.pu, SL.row, SL.box, SL.rowIn, SL.boxIn, SL.boxAt, SL.boxAtIn, SLF.pq, Act.put, SL.aw_sub, SL.aw_use, SL.aw_eat, SL.aw_V, SL.aw_quiet] at hu hK
                 have hB5 : Below wr1.heap.size wr1 w' := hG.below'
                 obtain ⟨hc5, hf5⟩ := bcell hB5
                 have hs5 := hB5.size
                 clear hv hG
                 refine SLF.wpo_do (SLF.wanted_free rfl) ?hd2 ?_
                 case hd2 => intro c h; cases h
                 clear hd
                 first
                   | (go_step; exact hK _ _ _ (SL.Chg.refl _ _) (by first | exact rfl | (simp only [hu]; exact rfl)) rfl (by simp) rfl)
                   | exact hK _ _ _ (SL.Chg.refl _ _) rfl rfl (by simp) rfl)
              | skip
            · refine SLG.ob_sp rfl rfl rfl fun us w' Fe hG hu hd Kx hK => ?_
              try dsimp only
              simp [SL.Used, SL.pu, SL.row, SL.box, SL.rowIn, SL.boxIn, SL.boxAt, SL.boxAtIn, SLF.pq, Act.put, SL.aw_sub, SL.aw_use, SL.aw_eat, SL.aw_V, SL.aw_quiet] at hu
              have hB5 : Below wr1.heap.size wr1 w' := hG.below'
              obtain ⟨hc5, hf5⟩ := bcell hB5
              have hs5 := hB5.size
              refine SLF.wpo_do (SLF.wanted_free rfl) ?hd2 ?_
              case hd2 => intro c h; cases h
              obtain ⟨e10, _⟩ := hu
              go_step
              exact hK _ _ _ [] (by simp [Act.put, e10]; done) (SL.Chg.refl _ _) ⟨rfl, rfl⟩ (fun j hj => by cases hj)
            · refine SLG.ob_sp rfl rfl rfl fun us w' Fe hG hu hd Kx hK => ?_
              try dsimp only
              simp [SL.Used, SL.pu, SL.row, SL.box, SL.rowIn, SL.boxIn, SL.boxAt, SL.boxAtIn, SLF.pq, Act.put, SL.aw_sub, SL.aw_use, SL.aw_eat, SL.aw_V, SL.aw_quiet] at hu
              have hB5 : Below wr1.heap.size wr1 w' := hG.below'
              obtain ⟨hc5, hf5⟩ := bcell hB5
              have hs5 := hB5.size
              refine SLF.wpo_do (SLF.wanted_free rfl) ?hd2 ?_
              case hd2 => intro c h; cases h
              go_step
              refine (hDD _ hB5).mono ?_
              rintro e w6 ⟨rfl, hb6⟩
              exact hK _ _ w6 [] (by simp [Act.put]; done) (.of_below hb6) ⟨rfl, rfl⟩ (fun j hj => by cases hj)
            · refine SLG.ob_sp rfl rfl rfl fun us w' Fe hG hu hd Kx hK => ?_
              try dsimp only
              simp [SL.Used, SL.pu, SL.row, SL.box, SL.rowIn, SL.boxIn, SL.boxAt, SL.boxAtIn, SLF.pq, Act.put, SL.aw_sub, SL.aw_use, SL.aw_eat, SL.aw_V, SL.aw_quiet] at hu
              have hB5 : Below wr1.heap.size wr1 w' := hG.below'
              obtain ⟨hc5, hf5⟩ := bcell hB5
              have hs5 := hB5.size
              refine SLF.wpo_do (SLF.wanted_free rfl) ?hd2 ?_
              case hd2 => intro c h; cases h
              obtain ⟨⟨e65, _⟩, _⟩ := hu
              go_step
              exact hK _ _ _ [] (by simp [Act.put, e65]; done) (SL.Chg.refl _ _) ⟨rfl, rfl⟩ (fun j hj => by cases hj)
          case hck2 => kernel_rfl
          case hkp2 => kernel_rfl
          intro us w5 Fs hG hu hbd hd
          simp [SL.Used, SLF.pq] at hu
          obtain ⟨u36', _⟩ := hu
          have u36 : us 10 = Value.int .i64 ((S : Int) + (D : Int)) := u36'
          clear u36'
          have hB5 : Below wr1.heap.size wr1 w5 := hG.below'
          simp only [u36]
          clear hbd hd hG g0 g1 c4 c5 hwr
          go_wp2_with fail
          go_roundw
          case rel => exact ⟨k + 1, by omega, by rw [Hst.out]; simp, by go_num, hB1.ch2 hB5, by rw [Hsu.out, Hall.out, HG.out]; rfl⟩
          case measure => simp [RowKit.intOf]; omega
        · have HF := Lib.hid (HF'.out (by rw [Hokd.out, decide_eq_false hk0, decide_eq_false a4]; simp))
          have a4' : decide (x ≤ q) = true := by simp only [decide_eq_true_eq]; omega
          clear a1 a2 a3 a4 hk0
          go_wp2_with fail
          go_quiet (fail)
          go_wp2
          go_ret2
          rw [HF.out]
          exact ⟨rfl, hBW.ch2 (belowN hBA)⟩
      · have hk2 : k = l.length := by omega
        subst hk2
        have HF := Lib.hid (HR2.out Hall.out)
        rw [List.take_length]
        generalize sumD s l = S at *
        go_wp2_with fail
        go_ret2
        rw [HF.out]
        exact ⟨rfl, hBW.ch2 hB⟩
  · have h2 : (c.chk != 0) = true := by simpa using h0
    have hd : decide (c.chk = 0) = false := by simpa using h0
    rw [hd] at hr
    simp only [Bool.false_and] at hr
    subst hr
    have hC2 := fun w1 h => (hC w1 h).mono fun e w' hh => hh.1 h0
    clear h0 hd hok hC
    generalize c.chk = E at *
    obtain ⟨ware, lim, byr, a, cap, ps⟩ := c
    simp only [Cs.v] at *
    have hB0 := one_alloc w (Obj.cells #[.string ware, .int .i64 lim, .int .i64 byr, .slice a ps.length cap] 24)
    have hbx := hc.below hB0
    go_enter Tryz.func25, Tryz.ntmps25
    go_wp2_with (go_at_call 75; (with_reducible refine (hC2 _ hbx).mono ?_); rintro e w1 ⟨rfl, hb1⟩)
    go_ret2
    exact ⟨rfl, hB0.ch2 hb1⟩
open Go.Lib
theorem Bell.s {c : Cs} (h : Bell c) : c.s = bellS := by
  unfold Cs.s
  rw [← pns_bare, h.ps]
  rfl
theorem More.s {c : Cs} (h : More c) : c.s = moreS := by
  unfold Cs.s
  rw [← pns_bare, h.ps]
  rfl
theorem Bell.len {c : Cs} (h : Bell c) : c.ps.length = 4 := by have := congrArg List.length h.ps; simpa [bellB] using this
theorem More.len {c : Cs} (h : More c) : c.ps.length = 5 := by have := congrArg List.length h.ps; simpa [moreB, bellB] using this
theorem Bell.chk {c : Cs} (h : Bell c) : c.chk = 0 := by
  unfold Cs.chk
  rw [← cchk_bare, h.ps, h.ware, h.lim, h.byr]
  decide +kernel
theorem More.chk {c : Cs} (h : More c) : c.chk = 0 := by
  unfold Cs.chk
  rw [← cchk_bare, h.ps, h.ware, h.lim, h.byr]
  decide +kernel
theorem Cs.ask_of {c : Cs} (h : c.chk = 0) {l : List Int} (hl : ∀ x ∈ l, 0 ≤ x ∧ x < c.ps.length) : c.ask l = 0 := by
  have h' : cchk c.ware.data.toList c.lim c.byr c.ps = 0 := h
  unfold Cs.ask askE
  rw [if_pos h', if_pos]
  rw [List.all_eq_true]
  exact fun x hx => by have := hl x hx; simp [this]
theorem Cs.two_of {c : Cs} (h : c.chk = 0) {x y : Int} (hx : 0 ≤ x ∧ x < c.ps.length) (hy : 0 ≤ y ∧ y < c.ps.length) (hxy : x ≠ y) : c.two x y = 0 := by
  have ha : c.ask [x, y] = 0 := c.ask_of h (fun z hz => by simp at hz; rcases hz with rfl | rfl <;> assumption)
  rw [c.two_eq, if_neg (fun h => hxy h.2), ha]
theorem Bell.least {c : Cs} (h : Bell c) : c.leastI = 2 := by unfold Cs.leastI; rw [if_pos h.chk, h.s, bell_least]; rfl
theorem More.least {c : Cs} (h : More c) : c.leastI = 3 := by unfold Cs.leastI; rw [if_pos h.chk, h.s, more_least]; rfl
theorem More.crit {c : Cs} (h : More c) : c.critL = [0, 2, 4] := by
  have k0 : critF moreS 0 = true := by unfold critF; rw [more_e0, more_least]; rfl
  have k1 : critF moreS 1 = false := by unfold critF; rw [more_e1, more_least]; rfl
  have k2 : critF moreS 2 = true := by unfold critF; rw [more_e2, more_least]; rfl
  have k3 : critF moreS 3 = false := by unfold critF; rw [more_e3, more_least]; rfl
  have k4 : critF moreS 4 = true := by unfold critF; rw [more_e4, more_least]; rfl
  unfold Cs.critL
  rw [if_pos h.chk, h.s, h.len]
  unfold pickL
  rw [show List.range 5 = [0, 1, 2, 3, 4] from rfl]
  simp only [List.filter_cons, List.filter_nil, k0, k1, k2, k3, k4, if_true, Bool.false_eq_true, if_false]
  rfl
theorem More.wit {c : Cs} (h : More c) : c.wit [0, 2, 4] = true := by unfold Cs.wit; rw [h.s, h.chk]; decide
theorem More.shw {c : Cs} (h : More c) : c.shw [(10, 20), (25, 40)] 3 = true := by unfold Cs.shw; rw [h.s, h.chk]; decide
theorem Bell.two {c : Cs} (h : Bell c) {x y : Int} (hx : 0 ≤ x ∧ x < 4) (hy : 0 ≤ y ∧ y < 4) (hxy : x ≠ y) : c.two x y = 0 := c.two_of h.chk (by rw [h.len]; exact hx) (by rw [h.len]; exact hy) hxy
theorem Bell.jntB {c : Cs} (h : Bell c) : c.jntB 0 3 = true := by
  unfold Cs.jntB Cs.joiN
  rw [h.two (by decide) (by decide) (by decide), h.s, h.lim, show min (Int.toNat 0) (Int.toNat 3) = 0 from rfl, show max (Int.toNat 0) (Int.toNat 3) = 3 from rfl, bell_l03]
  decide
theorem Bell.jntO {c : Cs} (h : Bell c) : c.jntO 0 3 = [0, 1, 1, 0] := by
  unfold Cs.jntO
  rw [if_pos h.jntB, h.s]
  exact bell_joint
theorem witS_wit {s : List Pn} (hs : OkS s) : witB s [] (witS s) = true := by
  exact witB_of (witU_ok hs).1 (perm_sort _) (pw_sort _)
theorem bell_wit : witS (merS bellS 0 1) = [0, 1, 2] := by
  have hok : OkS (merS bellS 0 1) := by rw [bell_m01]; unfold OkS; decide
  have h1 := (witB_iff.1 (witS_wit hok))
  have h2 : (witS (merS bellS 0 1)).length = 3 := (witS_many hok).trans bell_l01
  rw [show (merS bellS 0 1).length = 3 by rw [bell_m01]; rfl] at h1
  generalize witS (merS bellS 0 1) = l at *
  match l, h2 with
  | [a, b, c], _ =>
    obtain ⟨k1, k2⟩ := h1
    have a1 := k1 a (by simp)
    have a2 := k1 b (by simp)
    have a3 := k1 c (by simp)
    simp only [List.pairwise_cons, List.mem_cons, List.not_mem_nil, or_false, forall_eq_or_imp, forall_eq] at k2
    have b1 := k2.1.1.1
    have b2 := k2.2.1.1
    obtain rfl : a = 0 := by omega
    obtain rfl : b = 1 := by omega
    obtain rfl : c = 2 := by omega
    rfl
theorem Bell.barB {c : Cs} (h : Bell c) : c.barB 0 1 = true := by
  unfold Cs.barB Cs.joiN
  rw [h.two (by decide) (by decide) (by decide), h.s, h.lim, show min (Int.toNat 0) (Int.toNat 1) = 0 from rfl, show max (Int.toNat 0) (Int.toNat 1) = 1 from rfl, bell_l01]
  decide
theorem Bell.barO {c : Cs} (h : Bell c) : c.barO 0 1 = [0, 1, 2] := by
  unfold Cs.barO
  rw [if_pos ⟨h.barB, by rw [h.s]; decide⟩, h.s, h.lim, show min (Int.toNat 0) (Int.toNat 1) = 0 from rfl, show max (Int.toNat 0) (Int.toNat 1) = 1 from rfl, bell_wit]
  rfl
theorem Bell.colE {c : Cs} (h : Bell c) : c.colE [0, 1, 1, 0] = 0 := by
  unfold Cs.colE Cs.asg
  rw [h.chk, h.s, h.lim]
  decide
theorem Bell.colL {c : Cs} (h : Bell c) : c.colL [0, 1, 1, 0] (vesL [0, 1, 1, 0]).toNat = [(12, 14), (25, 30)] := by
  unfold Cs.colL
  rw [if_pos h.colE, h.s]
  decide
theorem More.dem {c : Cs} (h : More c) : c.dem 10 40 = 3 := by
  unfold Cs.dem
  rw [if_pos h.chk, h.s, bell_dem]
  rfl
theorem Bell.num {c : Cs} (h : Bell c) : c.num = ((2, 2), true) := by
  have hm : c.most = 2 := by unfold Cs.most; rw [h.lim, h.len]; rfl
  unfold Cs.num
  rw [h.chk, h.s, bell_least, hm]
  rfl
theorem Bell.mrgE {c : Cs} (h : Bell c) : c.mrgE 3 0 = 0 := by
  unfold Cs.mrgE
  rw [if_pos (h.two (by decide) (by decide) (by decide))]
  unfold Cs.mergeE
  rw [h.s]
  have hb := h.ps
  obtain ⟨p1, p2, p3, p4, e⟩ := len4 h.len
  rw [e] at hb ⊢
  simp only [List.map_cons, List.map_nil, bellB, List.cons.injEq, and_true, Pt.bare, Pt.mk.injEq] at hb
  obtain ⟨b1, b2, b3, b4⟩ := hb
  show (if clB bellS 3 0 = true then 60 else if 40 < (ascOf (p1.sh ++ p4.sh)).length ∨ 200 < (ascOf (p1.re ++ p4.re)).length then 2 else 0) = (0 : Int)
  rw [b1.2.2.1, b4.2.2.1, b1.2.2.2.2.2.2.2.2.2.2.2, b4.2.2.2.2.2.2.2.2.2.2.2]
  decide
/-- The first part of the merged case. -/
theorem Bell.mrg {c x : Cs} (h : Bell c) (hx : SameC x (resC 0 (c.mrg (Int.toNat 3) (Int.toNat 0)))) : x.ps.length = 3 ∧ (x.ps.getD 0 default).lo = 12 ∧ (x.ps.getD 0 default).hi = 14 ∧ (x.ps.getD 0 default).lob = 7 ∧ (x.ps.getD 0 default).hib = 8 ∧ (x.ps.getD 0 default).fby = 11 := by
  unfold resC at hx
  rw [if_pos rfl] at hx
  have hb := h.ps
  obtain ⟨p1, p2, p3, p4, e⟩ := len4 h.len
  unfold Cs.mrg at hx
  rw [e] at hb hx
  simp only [List.map_cons, List.map_nil, bellB, List.cons.injEq, and_true, Pt.bare, Pt.mk.injEq] at hb
  obtain ⟨b1, b2, b3, b4⟩ := hb
  have hl : x.ps.length = 3 := hx.len
  have h0 := hx.each 0 (by omega)
  have e0 : (mixPt [p1, p2, p3, p4] (min (Int.toNat 3) (Int.toNat 0)) (max (Int.toNat 3) (Int.toNat 0)) (gluPt none 0 none 0 ([p1, p2, p3, p4].getD (min (Int.toNat 3) (Int.toNat 0)) default) ([p1, p2, p3, p4].getD (max (Int.toNat 3) (Int.toNat 0)) default))).getD 0 default = gluPt none 0 none 0 p1 p4 := rfl
  simp only [e0] at h0
  refine ⟨hl, ?_⟩
  rw [h0.lo, h0.hi, h0.lob, h0.hib, h0.fby]
  unfold gluPt
  simp only [b1, b4]
  decide
set_option maxHeartbeats 8000000
/-- Two cases in boxes, as told holds them. -/
structure TS (w0 W : World) (B1 B2 : Nat) (cb cd : Cs) : Prop where
  below : Below w0.heap.size w0 W
  x1 : W.heap[B1]? = some (.cells #[.string cb.ware, .int .i64 cb.lim, .int .i64 cb.byr, .slice cb.a cb.ps.length cb.cap] 24 (0, 0))
  x2 : W.heap[B2]? = some (.cells #[.string cd.ware, .int .i64 cd.lim, .int .i64 cd.byr, .slice cd.a cd.ps.length cd.cap] 24 (0, 0))
  c1 : CsAt W cb
  c2 : CsAt W cd
theorem heap_lt {w : World} {k : Nat} {o : Obj} (h : w.heap[k]? = some o) : k < w.heap.size := (Array.getElem?_eq_some_iff.1 h).1
theorem TS.ch {w0 W W' : World} {B1 B2 : Nat} {cb cd : Cs} (h : TS w0 W B1 B2 cb cd) (hb : Below W.heap.size W W') : TS w0 W' B1 B2 cb cd :=
  ⟨h.below.ch2 hb, (hb.block _ (heap_lt h.x1)).trans h.x1, (hb.block _ (heap_lt h.x2)).trans h.x2, h.c1.below hb, h.c2.below hb⟩
theorem TS.al {w0 W : World} {B1 B2 : Nat} {cb cd : Cs} (h : TS w0 W B1 B2 cb cd) (o : Obj) : TS w0 (W.alloc o) B1 B2 cb cd := h.ch (one_alloc _ _)
theorem TS.cells {w0 W : World} {B1 B2 : Nat} {cb cd : Cs} (h : TS w0 W B1 B2 cb cd) : (W.cell? ⟨B1, 0, none⟩ = some (.string cb.ware) ∧ W.cell? ⟨B1, 1, none⟩ = some (.int .i64 cb.lim) ∧ W.cell? ⟨B1, 2, none⟩ = some (.int .i64 cb.byr) ∧ W.cell? ⟨B1, 3, none⟩ = some (.slice cb.a cb.ps.length cb.cap)) ∧
    (W.cell? ⟨B2, 0, none⟩ = some (.string cd.ware) ∧ W.cell? ⟨B2, 1, none⟩ = some (.int .i64 cd.lim) ∧ W.cell? ⟨B2, 2, none⟩ = some (.int .i64 cd.byr) ∧ W.cell? ⟨B2, 3, none⟩ = some (.slice cd.a cd.ps.length cd.cap)) ∧ B1 < W.heap.size ∧ B2 < W.heap.size := by
  obtain ⟨a0, a1, a2, a3, _, al⟩ := cell4w h.x1
  obtain ⟨b0, b1, b2, b3, _, bl⟩ := cell4w h.x2
  exact ⟨⟨a0, a1, a2, a3⟩, ⟨b0, b1, b2, b3⟩, al, bl⟩
theorem lit024 (W : World) : IntsAt (W.alloc (Obj.cells #[.int .i64 0, .int .i64 2, .int .i64 4] 3)) (some ⟨W.heap.size, 0, none⟩) 3 3 [0, 2, 4] := ⟨rfl, by simp, RowAt.of_heap (World.alloc_heap_new W _)⟩
theorem lit0110 (W : World) : IntsAt (W.alloc (Obj.cells #[.int .i64 0, .int .i64 1, .int .i64 1, .int .i64 0] 3)) (some ⟨W.heap.size, 0, none⟩) 4 4 [0, 1, 1, 0] := ⟨rfl, by simp, RowAt.of_heap (World.alloc_heap_new W _)⟩
theorem lit012 (W : World) : IntsAt (W.alloc (Obj.cells #[.int .i64 0, .int .i64 1, .int .i64 2] 3)) (some ⟨W.heap.size, 0, none⟩) 3 3 [0, 1, 2] := ⟨rfl, by simp, RowAt.of_heap (World.alloc_heap_new W _)⟩
theorem lit_rngs {W : World} (a b c d : Int) : RngsAt (W.alloc (Obj.cells #[.int .i64 a, .int .i64 b, .int .i64 c, .int .i64 d] 33)) (some ⟨W.heap.size, 0, none⟩) 2 2 [(a, b), (c, d)] :=
  ⟨rfl, by simp, RowAt.of_heap (World.alloc_heap_new W _)⟩
theorem ltold (w : World) : Calls Tryz.prog 17 #[] w fun e w' => e = .returned (.bool true) ∧ Below w.heap.size w w' := by
  have hBe := fun W => lbell W
  have hMo := fun W => lmore W
  have heq := fun w => eqSp w 12 14 7 8
  have gd := gdSp
  have fLeast := fun (c : Cs) W (h : CsAt W c) => wLeast c W h
  have fCritical := fun (c : Cs) W (h : CsAt W c) => wCritical c W h
  have fWit := fun (c : Cs) a m k l W (h : CsAt W c) (hl : IntsAt W a m k l) hr => wCheckWitness c a m k l W h hl hr
  have fShow := fun (c : Cs) a m k l n W (h : CsAt W c) (hl : RngsAt W a m k l) hr => wCheckShow c a m k l n W h hl hr
  have fJoint := fun (c : Cs) x y W (h : CsAt W c) => wJoint c x y W h
  have fBar := fun (c : Cs) x y W (h : CsAt W c) => wBar c x y W h
  have fCol := fun (c : Cs) a m k v W (h : CsAt W c) (hl : IntsAt W a m k v) hr => wColours c a m k v W h hl hr
  have fMerge := fun (c : Cs) x y W (h : CsAt W c) => wMerge c x y W h
  have fDem := fun (c : Cs) lo hi W (h : CsAt W c) => wDemand c lo hi W h
  have fNum := fun (c : Cs) W (h : CsAt W c) => wNumbers c W h
  unfold IntBPost at fJoint fBar
  unfold RngPost at fCol
  unfold CaseRes at fMerge
  simp only [Cs.v] at fLeast fCritical fWit fShow fJoint fBar fCol fMerge fDem fNum
  go_enter Tryz.func17, Tryz.ntmps17
  go_wp2_with (first
    | (go_at_call 65; (with_reducible refine (hBe _).mono ?_); rintro e w1 ⟨cb, hb, rfl, hb1, hc1, _, _⟩; simp only [Cs.v])
    | (go_at_call 66; (with_reducible refine (hMo _).mono ?_); rintro e w2 ⟨cd, hd, rfl, hb2, hc2⟩; simp only [Cs.v]; have T2 : TS w (w2.alloc (Obj.cells #[.string cd.ware, .int .i64 cd.lim, .int .i64 cd.byr, .slice cd.a cd.ps.length cd.cap] 24)) w1.heap.size w2.heap.size cb cd := ⟨((hb1.ch2 (one_alloc _ _)).ch2 hb2).ch2 (one_alloc _ _), (heap_allocC _ _ (Nat.lt_of_lt_of_le (by simp) hb2.size)).trans ((hb2.block _ (by simp)).trans (World.alloc_heap_new _ _)), World.alloc_heap_new _ _, ((hc1.below (one_alloc _ _)).below hb2).below (one_alloc _ _), hc2.below (one_alloc _ _)⟩; obtain ⟨⟨y0, y1, y2, y3⟩, ⟨u0, u1, u2, u3⟩, yl, ul⟩ := T2.cells; have T2 := Lib.hid T2; clear hb1 hb2 hc1 hc2)
    | (go_at_call 31; (with_reducible refine (fLeast cb _ T2.out.c1).mono ?_); rintro e w3 ⟨rfl, hb3⟩; rw [hb.least, hb.chk]; have T3 := (T2.out).ch hb3; clear y0 y1 y2 y3 u0 u1 u2 u3 yl ul; obtain ⟨⟨y0, y1, y2, y3⟩, ⟨u0, u1, u2, u3⟩, yl, ul⟩ := T3.cells; have T3 := Lib.hid T3; clear hb3)
    | (go_at_call 31; (with_reducible refine (fLeast cd _ T3.out.c2).mono ?_); rintro e w4 ⟨rfl, hb4⟩; rw [hd.least, hd.chk]; have T4 := (T3.out).ch hb4; clear y0 y1 y2 y3 u0 u1 u2 u3 yl ul; obtain ⟨⟨y0, y1, y2, y3⟩, ⟨u0, u1, u2, u3⟩, yl, ul⟩ := T4.cells; have T4 := Lib.hid T4; clear hb4)
    | (go_at_call 28; (with_reducible refine (fCritical cd _ T4.out.c2).mono ?_); rintro e w5 ⟨v5, rfl, hb5, ho5⟩; rw [hd.crit] at ho5; rw [hd.chk]; obtain ⟨la, lk, rfl, _⟩ := owns_slice ho5; have L : Hid (IntsAt w5 la 3 lk [0, 2, 4]) := Lib.hid (IntsAt.of_owns ho5 (by decide)); clear ho5; simp only [List.length_cons, List.length_nil]; have T5 := (T4.out).ch hb5; clear y0 y1 y2 y3 u0 u1 u2 u3 yl ul; obtain ⟨⟨y0, y1, y2, y3⟩, ⟨u0, u1, u2, u3⟩, yl, ul⟩ := T5.cells; have T5 := Lib.hid T5; clear hb5)
    | (go_at_call 23; (with_reducible refine (fWit cd _ _ _ [0, 2, 4] _ (T5.out.al _).c2 (lit024 _) (by decide)).mono ?_); rintro e w6 ⟨rfl, hb6⟩; rw [hd.wit, hd.chk]; have T6 := (T5.out.al _).ch hb6; clear y0 y1 y2 y3 u0 u1 u2 u3 yl ul; obtain ⟨⟨y0, y1, y2, y3⟩, ⟨u0, u1, u2, u3⟩, yl, ul⟩ := T6.cells; have T6 := Lib.hid T6; have L := Lib.hid ((L.out.below (one_alloc _ _)).below hb6); clear hb6)
    | (go_at_call 25; (with_reducible refine (fShow cd _ _ _ [(10, 20), (25, 40)] 3 _ (T6.out.al _).c2 (lit_rngs 10 20 25 40) (by decide)).mono ?_); rintro e w7 ⟨rfl, hb7⟩; rw [hd.shw, hd.chk]; have T7 := (T6.out.al _).ch hb7; clear y0 y1 y2 y3 u0 u1 u2 u3 yl ul; obtain ⟨⟨y0, y1, y2, y3⟩, ⟨u0, u1, u2, u3⟩, yl, ul⟩ := T7.cells; have T7 := Lib.hid T7; have L := Lib.hid ((L.out.below (one_alloc _ _)).below hb7); clear hb7)
    | (go_at_call 35; (with_reducible refine (fJoint cb 0 3 _ T7.out.c1).mono ?_); rintro e w8 ⟨va, vk, rfl, hb8, V, _⟩; rw [hb.jntO] at V; rw [hb.jntO, hb.jntB, hb.two (by decide) (by decide) (by decide)]; have V : Hid (IntsAt w8 va 4 vk [0, 1, 1, 0]) := Lib.hid V; simp only [List.length_cons, List.length_nil]; have T8 := (T7.out).ch hb8; clear y0 y1 y2 y3 u0 u1 u2 u3 yl ul; obtain ⟨⟨y0, y1, y2, y3⟩, ⟨u0, u1, u2, u3⟩, yl, ul⟩ := T8.cells; have T8 := Lib.hid T8; have L := Lib.hid (L.out.below hb8); clear hb8)
    | (go_at_call 36; (with_reducible refine (fBar cb 0 1 _ T8.out.c1).mono ?_); rintro e w9 ⟨ra, rk, rfl, hb9, R, _⟩; rw [hb.barO] at R; rw [hb.barO, hb.barB, hb.two (by decide) (by decide) (by decide)]; have R : Hid (IntsAt w9 ra 3 rk [0, 1, 2]) := Lib.hid R; simp only [List.length_cons, List.length_nil]; have T9 := (T8.out).ch hb9; clear y0 y1 y2 y3 u0 u1 u2 u3 yl ul; obtain ⟨⟨y0, y1, y2, y3⟩, ⟨u0, u1, u2, u3⟩, yl, ul⟩ := T9.cells; have T9 := Lib.hid T9; have L := Lib.hid (L.out.below hb9); have V := Lib.hid (V.out.below hb9); clear hb9)
    | (go_at_call 61; (with_reducible refine (fCol cb _ _ _ [0, 1, 1, 0] _ (T9.out.al _).c1 (lit0110 _) (by decide)).mono ?_); rintro e w10 ⟨xa, xk, rfl, hb10, X⟩; rw [hb.colL] at X; rw [hb.colL, hb.colE]; have X : Hid (RngsAt w10 xa 2 xk [(12, 14), (25, 30)]) := Lib.hid X; simp only [List.length_cons, List.length_nil]; have T10 := (T9.out.al _).ch hb10; clear y0 y1 y2 y3 u0 u1 u2 u3 yl ul; obtain ⟨⟨y0, y1, y2, y3⟩, ⟨u0, u1, u2, u3⟩, yl, ul⟩ := T10.cells; have T10 := Lib.hid T10; have L := Lib.hid ((L.out.below (one_alloc _ _)).below hb10); have V := Lib.hid ((V.out.below (one_alloc _ _)).below hb10); have R := Lib.hid ((R.out.below (one_alloc _ _)).below hb10); clear hb10)
    | (go_at_call 18; (with_reducible refine (fMerge cb 3 0 _ T10.out.c1).mono ?_); rintro e w11 ⟨y, hy, rfl, hb11, Y⟩; rw [hb.mrgE] at hy ⊢; obtain ⟨m1, m2, m3, m4, m5, m6⟩ := hb.mrg hy; clear hy; have Y := Lib.hid Y; simp only [Cs.v, m1]; have T11 := (T10.out).ch hb11; clear y0 y1 y2 y3 u0 u1 u2 u3 yl ul; obtain ⟨⟨y0, y1, y2, y3⟩, ⟨u0, u1, u2, u3⟩, yl, ul⟩ := T11.cells; have T11 := Lib.hid T11; have L := Lib.hid (L.out.below hb11); have V := Lib.hid (V.out.below hb11); have R := Lib.hid (R.out.below hb11); have X := Lib.hid (X.out.below hb11); clear hb11)
    | (go_at_call 21; (with_reducible refine (fDem cd 10 40 _ (T11.out.al _).c2).mono ?_); rintro e w12 ⟨rfl, hb12⟩; rw [hd.dem, hd.chk]; have Z := Lib.hid ((hb12.block w11.heap.size (by simp)).trans (World.alloc_heap_new _ _)); have T12 := (T11.out.al _).ch hb12; clear y0 y1 y2 y3 u0 u1 u2 u3 yl ul; obtain ⟨⟨y0, y1, y2, y3⟩, ⟨u0, u1, u2, u3⟩, yl, ul⟩ := T12.cells; have T12 := Lib.hid T12; have L := Lib.hid ((L.out.below (one_alloc _ _)).below hb12); have V := Lib.hid ((V.out.below (one_alloc _ _)).below hb12); have R := Lib.hid ((R.out.below (one_alloc _ _)).below hb12); have X := Lib.hid ((X.out.below (one_alloc _ _)).below hb12); have Y := Lib.hid ((Y.out.below (one_alloc _ _)).below hb12); clear hb12)
    | (go_at_call 32; (with_reducible refine (fNum cb _ T12.out.c1).mono ?_); rintro e w13 ⟨rfl, hb13⟩; rw [hb.num, hb.chk]; have Z := Lib.hid ((hb13.block w11.heap.size (heap_lt Z.out)).trans Z.out); have T13 := (T12.out).ch hb13; clear y0 y1 y2 y3 u0 u1 u2 u3 yl ul; obtain ⟨⟨y0, y1, y2, y3⟩, ⟨u0, u1, u2, u3⟩, yl, ul⟩ := T13.cells; have T13 := Lib.hid T13; have L := Lib.hid (L.out.below hb13); have V := Lib.hid (V.out.below hb13); have R := Lib.hid (R.out.below hb13); have X := Lib.hid (X.out.below hb13); have Y := Lib.hid (Y.out.below hb13); clear hb13)
    | (go_at_call 30; (with_reducible refine (r6sameInts _ _ _ _ _ _ [0, 2, 4] _ (L.out.below (one_alloc _ _)).lat (lit024 _).lat).mono ?_); rintro e w14 ⟨rfl, hb14⟩; have Z := Lib.hid ((hb14.block w11.heap.size (by simp; have := heap_lt Z.out; omega)).trans ((heap_allocC _ _ (heap_lt Z.out)).trans Z.out)); have T14 := (T13.out.al _).ch hb14; clear y0 y1 y2 y3 u0 u1 u2 u3 yl ul; obtain ⟨⟨y0, y1, y2, y3⟩, ⟨u0, u1, u2, u3⟩, yl, ul⟩ := T14.cells; have T14 := Lib.hid T14; have L := Lib.hid ((L.out.below (one_alloc _ _)).below hb14); have V := Lib.hid ((V.out.below (one_alloc _ _)).below hb14); have R := Lib.hid ((R.out.below (one_alloc _ _)).below hb14); have X := Lib.hid ((X.out.below (one_alloc _ _)).below hb14); have Y := Lib.hid ((Y.out.below (one_alloc _ _)).below hb14); clear hb14)
    | (go_at_call 30; (with_reducible refine (r6sameInts _ _ _ _ _ _ [0, 1, 1, 0] _ (V.out.below (one_alloc _ _)).lat (lit0110 _).lat).mono ?_); rintro e w15 ⟨rfl, hb15⟩; have Z := Lib.hid ((hb15.block w11.heap.size (by simp; have := heap_lt Z.out; omega)).trans ((heap_allocC _ _ (heap_lt Z.out)).trans Z.out)); have T15 := (T14.out.al _).ch hb15; clear y0 y1 y2 y3 u0 u1 u2 u3 yl ul; obtain ⟨⟨y0, y1, y2, y3⟩, ⟨u0, u1, u2, u3⟩, yl, ul⟩ := T15.cells; have T15 := Lib.hid T15; have L := Lib.hid ((L.out.below (one_alloc _ _)).below hb15); have V := Lib.hid ((V.out.below (one_alloc _ _)).below hb15); have R := Lib.hid ((R.out.below (one_alloc _ _)).below hb15); have X := Lib.hid ((X.out.below (one_alloc _ _)).below hb15); have Y := Lib.hid ((Y.out.below (one_alloc _ _)).below hb15); clear hb15)
    | (go_at_call 30; (with_reducible refine (r6sameInts _ _ _ _ _ _ [0, 1, 2] _ (R.out.below (one_alloc _ _)).lat (lit012 _).lat).mono ?_); rintro e w16 ⟨rfl, hb16⟩; have Z := Lib.hid ((hb16.block w11.heap.size (by simp; have := heap_lt Z.out; omega)).trans ((heap_allocC _ _ (heap_lt Z.out)).trans Z.out)); have T16 := (T15.out.al _).ch hb16; clear y0 y1 y2 y3 u0 u1 u2 u3 yl ul; obtain ⟨⟨y0, y1, y2, y3⟩, ⟨u0, u1, u2, u3⟩, yl, ul⟩ := T16.cells; have T16 := Lib.hid T16; have L := Lib.hid ((L.out.below (one_alloc _ _)).below hb16); have V := Lib.hid ((V.out.below (one_alloc _ _)).below hb16); have R := Lib.hid ((R.out.below (one_alloc _ _)).below hb16); have X := Lib.hid ((X.out.below (one_alloc _ _)).below hb16); have Y := Lib.hid ((Y.out.below (one_alloc _ _)).below hb16); clear hb16)
    | (go_at_call 63; (with_reducible refine (r6sameRanges _ _ _ _ _ _ [(12, 14), (25, 30)] _ (X.out.below (one_alloc _ _)) (lit_rngs 12 14 25 30)).mono ?_); rintro e w17 ⟨rfl, hb17⟩; have Z := Lib.hid ((hb17.block w11.heap.size (by simp; have := heap_lt Z.out; omega)).trans ((heap_allocC _ _ (heap_lt Z.out)).trans Z.out)); obtain ⟨q0, q1, q2, q3, qf, ql⟩ := cell4w Z.out; have T17 := (T16.out.al _).ch hb17; clear y0 y1 y2 y3 u0 u1 u2 u3 yl ul; obtain ⟨⟨y0, y1, y2, y3⟩, ⟨u0, u1, u2, u3⟩, yl, ul⟩ := T17.cells; have T17 := Lib.hid T17; have L := Lib.hid ((L.out.below (one_alloc _ _)).below hb17); have V := Lib.hid ((V.out.below (one_alloc _ _)).below hb17); have R := Lib.hid ((R.out.below (one_alloc _ _)).below hb17); have X := Lib.hid ((X.out.below (one_alloc _ _)).below hb17); have Y := Lib.hid ((Y.out.below (one_alloc _ _)).below hb17); clear hb17; obtain ⟨yb, yo, ya, yz, d0, d1, d2, d3, d4, d5, d6, d7⟩ := Y.out.ps.get (show 0 < y.ps.length by omega); rw [m2] at d1; rw [m3] at d2; rw [m4] at d3; rw [m5] at d4; rw [m6] at d6; simp only [Nat.zero_mul, Nat.add_zero] at d0 d1 d2 d3 d4 d5 d6 d7; rw [ya] at q3)
    )
  refine bodyPost_ret (v := .bool true) (by simp [results, Tryz.results17, go_sem]) rfl ⟨rfl, T17.out.below⟩
/-- A case in a box. -/
structure LS (w0 W : World) (B : Nat) (c : Cs) : Prop where
  below : Below w0.heap.size w0 W
  x1 : W.heap[B]? = some (.cells #[.string c.ware, .int .i64 c.lim, .int .i64 c.byr, .slice c.a c.ps.length c.cap] 24 (0, 0))
  c1 : CsAt W c
theorem LS.ch {w0 W W' : World} {B : Nat} {c : Cs} (h : LS w0 W B c) (hb : Below W.heap.size W W') : LS w0 W' B c :=
  ⟨h.below.ch2 hb, (hb.block _ (heap_lt h.x1)).trans h.x1, h.c1.below hb⟩
theorem LS.al {w0 W : World} {B : Nat} {c : Cs} (h : LS w0 W B c) (o : Obj) : LS w0 (W.alloc o) B c := h.ch (one_alloc _ _)
theorem LS.cells {w0 W : World} {B : Nat} {c : Cs} (h : LS w0 W B c) : W.cell? ⟨B, 0, none⟩ = some (.string c.ware) ∧ W.cell? ⟨B, 1, none⟩ = some (.int .i64 c.lim) ∧ W.cell? ⟨B, 2, none⟩ = some (.int .i64 c.byr) ∧ W.cell? ⟨B, 3, none⟩ = some (.slice c.a c.ps.length c.cap) ∧ B < W.heap.size := by
  obtain ⟨a0, a1, a2, a3, _, al⟩ := cell4w h.x1
  exact ⟨a0, a1, a2, a3, al⟩
theorem LS.start (w : World) {c : Cs} (hc : CsAt w c) : LS w (w.alloc (Obj.cells #[.string c.ware, .int .i64 c.lim, .int .i64 c.byr, .slice c.a c.ps.length c.cap] 24)) w.heap.size c :=
  ⟨one_alloc _ _, World.alloc_heap_new _ _, hc.below (one_alloc _ _)⟩
/-- A block. -/
def HB (W : World) (N : Nat) (cs : Array Value) (t : TypeId) : Prop := W.heap[N]? = some (.cells cs t (0, 0))
theorem HB.below {W W' : World} {N : Nat} {cs : Array Value} {t : TypeId} (h : HB W N cs t) (hb : Below W.heap.size W W') : HB W' N cs t := (hb.block _ (heap_lt h)).trans h
theorem HB.new (W : World) (cs : Array Value) (t : TypeId) : HB (W.alloc (Obj.cells cs t)) W.heap.size cs t := World.alloc_heap_new _ _
end Go.Proofs.YtodkbfbbpfghiaaGreat
