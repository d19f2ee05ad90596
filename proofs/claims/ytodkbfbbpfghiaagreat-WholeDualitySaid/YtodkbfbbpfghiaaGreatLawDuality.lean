/-
  The law Duality, walked, and its statement.
-/
import Derived.Test.YtodkbfbbpfghiaaGreatPb29
import Derived.Test.YtodkbfbbpfghiaaGreatPb24
import Derived.Test.YtodkbfbbpfghiaaGreatPb28
import Derived.Test.YtodkbfbbpfghiaaGreatPb16
import Derived.Test.YtodkbfbbpfghiaaGreatPb14
import Derived.Test.YtodkbfbbpfghiaaGreatRows
import Derived.OpenShut
set_option linter.unusedSimpArgs false
set_option linter.unusedVariables false
set_option linter.unnecessarySimpa false
namespace Go.Proofs.YtodkbfbbpfghiaaGreat
open Go.RowKit Go.Shelf Go.Lib
set_option maxHeartbeats 8000000
set_option maxRecDepth 100000
theorem Cs.lim0_ok {c : Cs} (h : c.chk = 0) : c.limE 0 0 = 0 ∧ (c.lim' 0 0).chk = 0 := by
  have hk := Cs.chk_zero.1 h
  have h2 : (c.lim' 0 0).chk = 0 := by
    rw [Cs.chk_zero]
    obtain ⟨a1, a2, a3, a4⟩ := hk
    refine ⟨a1, ?_, a3, a4⟩
    unfold headB at a2 ⊢
    simp only [Bool.and_eq_true] at a2 ⊢
    exact ⟨⟨a2.1.1, by show (decide ((0 : Int) ≤ 0) = true ∧ decide ((0 : Int) ≤ 40) = true); decide⟩, by show toldB 0 (decide ((0 : Int) = 0)) = true; decide⟩
  exact ⟨by unfold Cs.limE; rw [if_pos h, h2], h2⟩
/-- What Assign says of the case without a limit. -/
theorem lim0_asg {c p : Cs} (h : c.chk = 0) (hp : SameC p (resC (c.limE 0 0) (c.lim' 0 0))) : p.chk = 0 ∧ p.asgO (leastN c.s : Int) = (asgL c.s (leastN c.s : Int), true) ∧ p.asg (asgL c.s (leastN c.s : Int)) = true ∧ vesL (asgL c.s (leastN c.s : Int)) = (leastN c.s : Int) ∧ (asgL c.s (leastN c.s : Int)).length ≤ 100 ∧ ∀ x ∈ asgL c.s (leastN c.s : Int), -1000000000 ≤ x ∧ x ≤ 1000000000 := by
  obtain ⟨h1, h2⟩ := Cs.lim0_ok h
  rw [h1] at hp
  unfold resC at hp
  rw [if_pos rfl] at hp
  obtain ⟨hm, hok, hsl⟩ := (Cs.chk_zero.1 h).many'
  have hle := least_le_len hok
  have e1 : p.chk = 0 := by rw [hp.chk]; exact h2
  have e2 : p.s = c.s := hp.s
  have e3 : p.lim = 0 := hp.lim
  have e4 : p.ps.length = c.ps.length := hp.len
  have e5 : p.most = c.ps.length := by unfold Cs.most; rw [e3, if_neg (by decide), e4]
  obtain ⟨k1, k2⟩ := asgL_ok hok (n := (leastN c.s : Int)) (Int.le_refl _) (by omega)
  have h4 := (rgO_spec (asgM_some k1).2.2).2.1
  refine ⟨e1, ?_, ?_, k2, by rw [asgL_len]; omega, fun x hx => by have := h4 x hx; omega⟩
  · unfold Cs.asgO
    rw [if_pos ⟨e1, by rw [e2]; exact Int.le_refl _, by rw [e5]; omega⟩, e2]
  · unfold Cs.asg
    rw [e2, k1, e1, e3]
    rfl
theorem law_duality (c : Cs) (al : Option Addr) (m cl : Nat) (xs : List Int) (ar : Option Addr) (mr cr : Nat) (rs : List (Int × Int)) (av : Option Addr) (mv cv : Nat) (vs : List Int) (w : World) (hc : CsAt w c) (hcr : c.ps.length ≤ c.cap) (hl : IntsAt w al m cl xs) (hroom : xs.length ≤ cl) (hr : RngsAt w ar mr cr rs) (hrr : rs.length ≤ cr) (hv : IntsAt w av mv cv vs) (hvr : vs.length ≤ cv) :
    Calls Tryz.prog 15 #[c.v, .slice al m cl, .slice ar mr cr, .slice av mv cv] w fun e w' => e = .returned (.bool true) ∧ Below w.heap.size w w' := by
  have fFew := fun W (h : CsAt W c) => lfew c W h
  unfold BoolAny at fFew
  have fL := fun W (h : CsAt W c) => wLeast c W h
  have fW := fun W (h : CsAt W c) (h2 : IntsAt W al m cl xs) => wCheckWitness c al m cl xs W h h2 hroom
  have fS := fun W (h : CsAt W c) (h2 : RngsAt W ar mr cr rs) h3 => wCheckShow c ar mr cr rs (c.leastI + 1) W h h2 h3
  have fA := fun W (h : CsAt W c) (h2 : IntsAt W av mv cv vs) h3 => wCheckAssign c av mv cv vs W h h2 h3
  have fV := fun W (h : IntsAt W av mv cv vs) hr => r6Vessels av mv cv vs W h hr
  have fX := fun W (h : CsAt W c) => wWitness c W h
  have fW2 := fun a k W (h : CsAt W c) (h2 : IntsAt W a c.witO.length k c.witO) hr => wCheckWitness c a _ k c.witO W h h2 hr
  have fY := fun W (h : CsAt W c) => wShow c W h
  have fS2 := fun a k W (h : CsAt W c) (h2 : RngsAt W a c.showO.length k c.showO) hr => wCheckShow c a _ k c.showO c.leastI W h h2 hr
  have fLi := fun W (h : CsAt W c) => wLimited c 0 0 W h
  have fAs := fun (p : Cs) W (h : CsAt W p) => wAssign p c.leastI W h
  have fA2 := fun (p : Cs) a m k l W (h : CsAt W p) (h2 : IntsAt W a m k l) h3 => wCheckAssign p a m k l W h h2 h3
  unfold IntPost at fX
  unfold RngPost at fY
  unfold CaseRes at fLi
  unfold IntBPost at fAs
  have hm := hl.len
  have hmr := hr.len
  have hmv := hv.len
  simp only [Cs.v] at fFew fL fW fS fA fX fW2 fY fS2 fLi fAs fA2 ⊢
  have hB := one_alloc w (Obj.cells #[.string c.ware, .int .i64 c.lim, .int .i64 c.byr, .slice c.a c.ps.length c.cap] 24)
  have XL0 := hl.below hB
  have XR0 := hr.below hB
  have XV0 := hv.below hB
  have XL := Lib.hid XL0
  have XR := Lib.hid XR0
  have XV := Lib.hid XV0
  have HM := Lib.hid hm
  have HMR := Lib.hid hmr
  have HMV := Lib.hid hmv
  clear hl hr hv hB XL0 XR0 XV0 hm hmr hmv
  have S0 := LS.start w hc
  obtain ⟨y0, y1, y2, y3, yl⟩ := S0.cells
  have S0 := Lib.hid S0
  by_cases q0 : m ≤ 60
  · have q0' : decide ((60 : Int) < (m : Int)) = false := by simp; omega
    by_cases q1 : mr ≤ 60
    · have q1' : decide ((60 : Int) < (mr : Int)) = false := by simp; omega
      by_cases q2 : mv ≤ 60
      · have q2' : decide ((60 : Int) < (mv : Int)) = false := by simp; omega
        by_cases h0 : c.chk = 0
        · obtain ⟨hmm, hok, hsl⟩ := (Cs.chk_zero.1 h0).many'
          have hli : c.leastI = (leastN c.s : Int) := by unfold Cs.leastI; rw [if_pos h0]
          have hle := least_le_len hok
          have hA := fun (p : Cs) (hp : SameC p (resC (c.limE 0 0) (c.lim' 0 0))) => (⟨(lim0_asg h0 hp).1, (lim0_asg h0 hp).2.1, (lim0_asg h0 hp).2.2.1⟩ : p.chk = 0 ∧ p.asgO (leastN c.s : Int) = (asgL c.s (leastN c.s : Int), true) ∧ p.asg (asgL c.s (leastN c.s : Int)) = true)
          obtain ⟨_, _, _, hLv, hLl, hLr⟩ := lim0_asg (p := resC (c.limE 0 0) (c.lim' 0 0)) h0 (SameC.refl _)
          have hlE := (Cs.lim0_ok h0).1
          have hX1 : c.wit c.witO = true := by unfold Cs.wit Cs.witO; rw [if_pos h0, h0, witS_wit hok]; rfl
          have hX2 : c.witO.length = leastN c.s := by unfold Cs.witO; rw [if_pos h0, witS_many hok]
          have hY1 : c.shw c.showO (leastN c.s : Int) = true := by unfold Cs.shw Cs.showO; rw [if_pos h0, h0, shwB_show hok, showL_sum hok]; simp
          have hYl : c.showO.length ≤ 1000000 := by unfold Cs.showO; rw [if_pos h0]; exact showL_small hok (by omega)
          have hS1 : c.shw rs ((leastN c.s : Int) + 1) = false := by
            unfold Cs.shw
            cases hb : shwB rs
            · simp
            · have := shwB_le hok hb
              simp only [Bool.true_and, Bool.and_eq_false_iff, decide_eq_false_iff_not]
              right
              omega
          have hW1 : c.wit xs = true → xs.length ≤ leastN c.s := fun h => by
            unfold Cs.wit at h
            simp only [Bool.and_eq_true] at h
            exact witB_le hok h.2
          have hV1 : c.asg vs = true → (leastN c.s : Int) ≤ vesL vs ∧ ∀ x ∈ vs, -1000000000 ≤ x ∧ x ≤ 1000000000 := fun h => by
            unfold Cs.asg at h
            cases ha : asgM c.s vs with
            | none => rw [ha] at h; simp at h
            | some k =>
              obtain ⟨a1, a2⟩ := asgM_ge hok ha
              have h4 := (rgO_spec (asgM_some ha).2.2).2.1
              have h5 := least_le_len hok
              have h6 : (k : Int) ≤ vs.length := by have := rgO_len (asgM_some ha).2.2; omega
              have h7 := (asgM_some ha).1
              exact ⟨by omega, fun x hx => by have := h4 x hx; omega⟩
          have hw1 : IntKind.i64.wrap ((leastN c.s : Int) + 1) = (leastN c.s : Int) + 1 := IntWalk.i64_in _ (by omega)
          rw [hli] at fL fS fS2 fAs
          simp only [h0, hX1, hY1, hlE] at fL fW fS fA fX fW2 fY fS2 fLi
          rw [hS1] at fS
          rw [hlE] at hA
          generalize resC 0 (c.lim' 0 0) = RC at *
          generalize asgL c.s (leastN c.s : Int) = LO at *
          generalize leastN c.s = N at *
          generalize hXX : c.witO = WX at *
          generalize c.showO = WY at *
          have HA := Lib.hid hA
          have HLv := Lib.hid hLv
          have HLl : Hid (LO.length ≤ 1000) := Lib.hid (by omega)
          have HLr := Lib.hid hLr
          have HYl := Lib.hid hYl
          have n1 : ((WX.length : Int) == (N : Int)) = true := by rw [hX2]; simp
          have n2 : ((N : Int) == (N : Int)) = true := by simp
          clear hA hLv hLl hLr hYl hXX hX2 hX1 hY1 hS1 hlE hli hok hsl h0
          generalize c.wit xs = B1 at *
          generalize c.asg vs = B3 at *
          have j1 : B1 = true → decide ((N : Int) < (m : Int)) = false := fun h => by have := hW1 h; have := HM.out; simp; omega
          cases B3 with
          | false =>
            clear hV1 hW1
            cases B1
            · clear j1
              go_enter Tryz.func15, Tryz.ntmps15
              go_wp2_with (first
                | (go_at_call 16; (with_reducible refine (fFew _ S0.out.c1).mono ?_); rintro e w1 ⟨b, rfl, hb1⟩; have S1 := (S0.out).ch hb1; clear y0 y1 y2 y3 yl; obtain ⟨y0, y1, y2, y3, yl⟩ := S1.cells; have S1 := Lib.hid S1; have XL := Lib.hid (XL.out.below hb1); have XR := Lib.hid (XR.out.below hb1); have XV := Lib.hid (XV.out.below hb1); cases b; clear hb1)
                | (go_at_call 31; (with_reducible refine (fL _ S1.out.c1).mono ?_); rintro e w2 ⟨rfl, hb2⟩; have S2 := (S1.out).ch hb2; clear y0 y1 y2 y3 yl; obtain ⟨y0, y1, y2, y3, yl⟩ := S2.cells; have S2 := Lib.hid S2; have XL := Lib.hid (XL.out.below hb2); have XR := Lib.hid (XR.out.below hb2); have XV := Lib.hid (XV.out.below hb2); clear hb2)
                | (go_at_call 23; (with_reducible refine (fW _ S2.out.c1 XL.out).mono ?_); rintro e w3 ⟨rfl, hb3⟩; have S3 := (S2.out).ch hb3; clear y0 y1 y2 y3 yl; obtain ⟨y0, y1, y2, y3, yl⟩ := S3.cells; have S3 := Lib.hid S3; have XL := Lib.hid (XL.out.below hb3); have XR := Lib.hid (XR.out.below hb3); have XV := Lib.hid (XV.out.below hb3); clear hb3)
                | (go_at_call 25; (with_reducible refine (fS _ S3.out.c1 XR.out (by have := HMR.out; omega)).mono ?_); rintro e w4 ⟨rfl, hb4⟩; have S4 := (S3.out).ch hb4; clear y0 y1 y2 y3 yl; obtain ⟨y0, y1, y2, y3, yl⟩ := S4.cells; have S4 := Lib.hid S4; have XL := Lib.hid (XL.out.below hb4); have XR := Lib.hid (XR.out.below hb4); have XV := Lib.hid (XV.out.below hb4); clear hb4)
                | (go_at_call 34; (with_reducible refine (fA _ S4.out.c1 XV.out (by have := HMV.out; omega)).mono ?_); rintro e w5 ⟨rfl, hb5⟩; have S5 := (S4.out).ch hb5; clear y0 y1 y2 y3 yl; obtain ⟨y0, y1, y2, y3, yl⟩ := S5.cells; have S5 := Lib.hid S5; have XL := Lib.hid (XL.out.below hb5); have XR := Lib.hid (XR.out.below hb5); have XV := Lib.hid (XV.out.below hb5); clear hb5)
                | (go_at_call 43; (with_reducible refine (fX _ S5.out.c1).mono ?_); rintro e w6 ⟨xa, xk, rfl, hb6, hx, hxr⟩; have S6 := (S5.out).ch hb6; clear y0 y1 y2 y3 yl; obtain ⟨y0, y1, y2, y3, yl⟩ := S6.cells; have S6 := Lib.hid S6; have XL := Lib.hid (XL.out.below hb6); have XR := Lib.hid (XR.out.below hb6); have XV := Lib.hid (XV.out.below hb6); have XX := Lib.hid (hx); clear hx; clear hb6)
                | (go_at_call 23; (with_reducible refine (fW2 _ _ _ S6.out.c1 XX.out hxr).mono ?_); rintro e w7 ⟨rfl, hb7⟩; have S7 := (S6.out).ch hb7; clear y0 y1 y2 y3 yl; obtain ⟨y0, y1, y2, y3, yl⟩ := S7.cells; have S7 := Lib.hid S7; have XL := Lib.hid (XL.out.below hb7); have XR := Lib.hid (XR.out.below hb7); have XV := Lib.hid (XV.out.below hb7); have XX := Lib.hid (XX.out.below hb7); clear hb7)
                | (go_at_call 44; (with_reducible refine (fY _ S7.out.c1).mono ?_); rintro e w8 ⟨ya, yk, rfl, hb8, hy⟩; have S8 := (S7.out).ch hb8; clear y0 y1 y2 y3 yl; obtain ⟨y0, y1, y2, y3, yl⟩ := S8.cells; have S8 := Lib.hid S8; have XL := Lib.hid (XL.out.below hb8); have XR := Lib.hid (XR.out.below hb8); have XV := Lib.hid (XV.out.below hb8); have XX := Lib.hid (XX.out.below hb8); have XY := Lib.hid (hy); clear hy; clear hb8)
                | (go_at_call 25; (with_reducible refine (fS2 _ _ _ S8.out.c1 XY.out HYl.out).mono ?_); rintro e w9 ⟨rfl, hb9⟩; have S9 := (S8.out).ch hb9; clear y0 y1 y2 y3 yl; obtain ⟨y0, y1, y2, y3, yl⟩ := S9.cells; have S9 := Lib.hid S9; have XL := Lib.hid (XL.out.below hb9); have XR := Lib.hid (XR.out.below hb9); have XV := Lib.hid (XV.out.below hb9); have XX := Lib.hid (XX.out.below hb9); have XY := Lib.hid (XY.out.below hb9); clear hb9)
                | (go_at_call 56; (with_reducible refine (fLi _ S9.out.c1).mono ?_); rintro e w10 ⟨p, hp, rfl, hb10, hpc⟩; obtain ⟨g1, g2, g3⟩ := HA.out p hp; have S10 := (S9.out).ch hb10; clear y0 y1 y2 y3 yl; obtain ⟨y0, y1, y2, y3, yl⟩ := S10.cells; have S10 := Lib.hid S10; have XL := Lib.hid (XL.out.below hb10); have XR := Lib.hid (XR.out.below hb10); have XV := Lib.hid (XV.out.below hb10); have XX := Lib.hid (XX.out.below hb10); have XY := Lib.hid (XY.out.below hb10); have XP := Lib.hid (hpc); clear hpc; clear hb10)
                | (go_at_call 60; (with_reducible refine (fAs p _ (XP.out.below (one_alloc _ _))).mono ?_); rintro e w11 ⟨la, lk, rfl, hb11, hlo, _⟩; rw [g2] at hlo; rw [g2, g1]; have S11 := ((S10.out.al _)).ch hb11; clear y0 y1 y2 y3 yl; obtain ⟨y0, y1, y2, y3, yl⟩ := S11.cells; have S11 := Lib.hid S11; have XL := Lib.hid ((XL.out.below (one_alloc _ _)).below hb11); have XR := Lib.hid ((XR.out.below (one_alloc _ _)).below hb11); have XV := Lib.hid ((XV.out.below (one_alloc _ _)).below hb11); have XX := Lib.hid ((XX.out.below (one_alloc _ _)).below hb11); have XY := Lib.hid ((XY.out.below (one_alloc _ _)).below hb11); have XP := Lib.hid ((XP.out.below (one_alloc _ _)).below hb11); have ZP := Lib.hid ((HB.new w10 #[.string p.ware, .int .i64 p.lim, .int .i64 p.byr, .slice p.a p.ps.length p.cap] 24).below hb11); have XO := Lib.hid (hlo); clear hlo; obtain ⟨p0, p1, p2, p3, pf, pl⟩ := cell4w ZP.out; clear hb11)
                | (go_at_call 34; (with_reducible refine (fA2 p _ _ _ _ _ XP.out XO.out HLl.out).mono ?_); rintro e w12 ⟨rfl, hb12⟩; rw [g3, g1]; have S12 := (S11.out).ch hb12; clear y0 y1 y2 y3 yl; obtain ⟨y0, y1, y2, y3, yl⟩ := S12.cells; have S12 := Lib.hid S12; have XL := Lib.hid (XL.out.below hb12); have XR := Lib.hid (XR.out.below hb12); have XV := Lib.hid (XV.out.below hb12); have XX := Lib.hid (XX.out.below hb12); have XY := Lib.hid (XY.out.below hb12); have XP := Lib.hid (XP.out.below hb12); have ZP := Lib.hid (ZP.out.below hb12); have XO := Lib.hid (XO.out.below hb12); clear hb12)
                | (go_at_call 17; (with_reducible refine (ltold _).mono ?_); rintro e w13 ⟨rfl, hb13⟩; have S13 := (S12.out).ch hb13; clear y0 y1 y2 y3 yl; obtain ⟨y0, y1, y2, y3, yl⟩ := S13.cells; have S13 := Lib.hid S13; have XL := Lib.hid (XL.out.below hb13); have XR := Lib.hid (XR.out.below hb13); have XV := Lib.hid (XV.out.below hb13); have XX := Lib.hid (XX.out.below hb13); have XY := Lib.hid (XY.out.below hb13); have XP := Lib.hid (XP.out.below hb13); have ZP := Lib.hid (ZP.out.below hb13); have XO := Lib.hid (XO.out.below hb13); clear hb13)
                | (go_at_call 64; (with_reducible refine (r6Vessels _ _ _ LO _ XO.out HLr.out).mono ?_); rintro e w14 ⟨rfl, hb14⟩; rw [HLv.out]; have S14 := (S13.out).ch hb14; clear y0 y1 y2 y3 yl; obtain ⟨y0, y1, y2, y3, yl⟩ := S14.cells; have S14 := Lib.hid S14; have XL := Lib.hid (XL.out.below hb14); have XR := Lib.hid (XR.out.below hb14); have XV := Lib.hid (XV.out.below hb14); have XX := Lib.hid (XX.out.below hb14); have XY := Lib.hid (XY.out.below hb14); have XP := Lib.hid (XP.out.below hb14); have ZP := Lib.hid (ZP.out.below hb14); have XO := Lib.hid (XO.out.below hb14); clear hb14)
                | (go_at_call 17; (with_reducible refine (ltold _).mono ?_); rintro e wT ⟨rfl, hbT⟩))
              all_goals go_ret
              all_goals first
                | exact ⟨rfl, S14.out.below⟩
                | exact ⟨rfl, S1.out.below.ch2 hbT⟩
            · have j1 := j1 rfl
              have j2 : ¬ N < m := by simp at j1; omega
              go_enter Tryz.func15, Tryz.ntmps15
              go_wp2_with (first
                | (go_at_call 16; (with_reducible refine (fFew _ S0.out.c1).mono ?_); rintro e w1 ⟨b, rfl, hb1⟩; have S1 := (S0.out).ch hb1; clear y0 y1 y2 y3 yl; obtain ⟨y0, y1, y2, y3, yl⟩ := S1.cells; have S1 := Lib.hid S1; have XL := Lib.hid (XL.out.below hb1); have XR := Lib.hid (XR.out.below hb1); have XV := Lib.hid (XV.out.below hb1); cases b; clear hb1)
                | (go_at_call 31; (with_reducible refine (fL _ S1.out.c1).mono ?_); rintro e w2 ⟨rfl, hb2⟩; have S2 := (S1.out).ch hb2; clear y0 y1 y2 y3 yl; obtain ⟨y0, y1, y2, y3, yl⟩ := S2.cells; have S2 := Lib.hid S2; have XL := Lib.hid (XL.out.below hb2); have XR := Lib.hid (XR.out.below hb2); have XV := Lib.hid (XV.out.below hb2); clear hb2)
                | (go_at_call 23; (with_reducible refine (fW _ S2.out.c1 XL.out).mono ?_); rintro e w3 ⟨rfl, hb3⟩; have S3 := (S2.out).ch hb3; clear y0 y1 y2 y3 yl; obtain ⟨y0, y1, y2, y3, yl⟩ := S3.cells; have S3 := Lib.hid S3; have XL := Lib.hid (XL.out.below hb3); have XR := Lib.hid (XR.out.below hb3); have XV := Lib.hid (XV.out.below hb3); clear hb3)
                | (go_at_call 25; (with_reducible refine (fS _ S3.out.c1 XR.out (by have := HMR.out; omega)).mono ?_); rintro e w4 ⟨rfl, hb4⟩; have S4 := (S3.out).ch hb4; clear y0 y1 y2 y3 yl; obtain ⟨y0, y1, y2, y3, yl⟩ := S4.cells; have S4 := Lib.hid S4; have XL := Lib.hid (XL.out.below hb4); have XR := Lib.hid (XR.out.below hb4); have XV := Lib.hid (XV.out.below hb4); clear hb4)
                | (go_at_call 34; (with_reducible refine (fA _ S4.out.c1 XV.out (by have := HMV.out; omega)).mono ?_); rintro e w5 ⟨rfl, hb5⟩; have S5 := (S4.out).ch hb5; clear y0 y1 y2 y3 yl; obtain ⟨y0, y1, y2, y3, yl⟩ := S5.cells; have S5 := Lib.hid S5; have XL := Lib.hid (XL.out.below hb5); have XR := Lib.hid (XR.out.below hb5); have XV := Lib.hid (XV.out.below hb5); clear hb5)
                | (go_at_call 43; (with_reducible refine (fX _ S5.out.c1).mono ?_); rintro e w6 ⟨xa, xk, rfl, hb6, hx, hxr⟩; have S6 := (S5.out).ch hb6; clear y0 y1 y2 y3 yl; obtain ⟨y0, y1, y2, y3, yl⟩ := S6.cells; have S6 := Lib.hid S6; have XL := Lib.hid (XL.out.below hb6); have XR := Lib.hid (XR.out.below hb6); have XV := Lib.hid (XV.out.below hb6); have XX := Lib.hid (hx); clear hx; clear hb6)
                | (go_at_call 23; (with_reducible refine (fW2 _ _ _ S6.out.c1 XX.out hxr).mono ?_); rintro e w7 ⟨rfl, hb7⟩; have S7 := (S6.out).ch hb7; clear y0 y1 y2 y3 yl; obtain ⟨y0, y1, y2, y3, yl⟩ := S7.cells; have S7 := Lib.hid S7; have XL := Lib.hid (XL.out.below hb7); have XR := Lib.hid (XR.out.below hb7); have XV := Lib.hid (XV.out.below hb7); have XX := Lib.hid (XX.out.below hb7); clear hb7)
                | (go_at_call 44; (with_reducible refine (fY _ S7.out.c1).mono ?_); rintro e w8 ⟨ya, yk, rfl, hb8, hy⟩; have S8 := (S7.out).ch hb8; clear y0 y1 y2 y3 yl; obtain ⟨y0, y1, y2, y3, yl⟩ := S8.cells; have S8 := Lib.hid S8; have XL := Lib.hid (XL.out.below hb8); have XR := Lib.hid (XR.out.below hb8); have XV := Lib.hid (XV.out.below hb8); have XX := Lib.hid (XX.out.below hb8); have XY := Lib.hid (hy); clear hy; clear hb8)
                | (go_at_call 25; (with_reducible refine (fS2 _ _ _ S8.out.c1 XY.out HYl.out).mono ?_); rintro e w9 ⟨rfl, hb9⟩; have S9 := (S8.out).ch hb9; clear y0 y1 y2 y3 yl; obtain ⟨y0, y1, y2, y3, yl⟩ := S9.cells; have S9 := Lib.hid S9; have XL := Lib.hid (XL.out.below hb9); have XR := Lib.hid (XR.out.below hb9); have XV := Lib.hid (XV.out.below hb9); have XX := Lib.hid (XX.out.below hb9); have XY := Lib.hid (XY.out.below hb9); clear hb9)
                | (go_at_call 56; (with_reducible refine (fLi _ S9.out.c1).mono ?_); rintro e w10 ⟨p, hp, rfl, hb10, hpc⟩; obtain ⟨g1, g2, g3⟩ := HA.out p hp; have S10 := (S9.out).ch hb10; clear y0 y1 y2 y3 yl; obtain ⟨y0, y1, y2, y3, yl⟩ := S10.cells; have S10 := Lib.hid S10; have XL := Lib.hid (XL.out.below hb10); have XR := Lib.hid (XR.out.below hb10); have XV := Lib.hid (XV.out.below hb10); have XX := Lib.hid (XX.out.below hb10); have XY := Lib.hid (XY.out.below hb10); have XP := Lib.hid (hpc); clear hpc; clear hb10)
                | (go_at_call 60; (with_reducible refine (fAs p _ (XP.out.below (one_alloc _ _))).mono ?_); rintro e w11 ⟨la, lk, rfl, hb11, hlo, _⟩; rw [g2] at hlo; rw [g2, g1]; have S11 := ((S10.out.al _)).ch hb11; clear y0 y1 y2 y3 yl; obtain ⟨y0, y1, y2, y3, yl⟩ := S11.cells; have S11 := Lib.hid S11; have XL := Lib.hid ((XL.out.below (one_alloc _ _)).below hb11); have XR := Lib.hid ((XR.out.below (one_alloc _ _)).below hb11); have XV := Lib.hid ((XV.out.below (one_alloc _ _)).below hb11); have XX := Lib.hid ((XX.out.below (one_alloc _ _)).below hb11); have XY := Lib.hid ((XY.out.below (one_alloc _ _)).below hb11); have XP := Lib.hid ((XP.out.below (one_alloc _ _)).below hb11); have ZP := Lib.hid ((HB.new w10 #[.string p.ware, .int .i64 p.lim, .int .i64 p.byr, .slice p.a p.ps.length p.cap] 24).below hb11); have XO := Lib.hid (hlo); clear hlo; obtain ⟨p0, p1, p2, p3, pf, pl⟩ := cell4w ZP.out; clear hb11)
                | (go_at_call 34; (with_reducible refine (fA2 p _ _ _ _ _ XP.out XO.out HLl.out).mono ?_); rintro e w12 ⟨rfl, hb12⟩; rw [g3, g1]; have S12 := (S11.out).ch hb12; clear y0 y1 y2 y3 yl; obtain ⟨y0, y1, y2, y3, yl⟩ := S12.cells; have S12 := Lib.hid S12; have XL := Lib.hid (XL.out.below hb12); have XR := Lib.hid (XR.out.below hb12); have XV := Lib.hid (XV.out.below hb12); have XX := Lib.hid (XX.out.below hb12); have XY := Lib.hid (XY.out.below hb12); have XP := Lib.hid (XP.out.below hb12); have ZP := Lib.hid (ZP.out.below hb12); have XO := Lib.hid (XO.out.below hb12); clear hb12)
                | (go_at_call 17; (with_reducible refine (ltold _).mono ?_); rintro e w13 ⟨rfl, hb13⟩; have S13 := (S12.out).ch hb13; clear y0 y1 y2 y3 yl; obtain ⟨y0, y1, y2, y3, yl⟩ := S13.cells; have S13 := Lib.hid S13; have XL := Lib.hid (XL.out.below hb13); have XR := Lib.hid (XR.out.below hb13); have XV := Lib.hid (XV.out.below hb13); have XX := Lib.hid (XX.out.below hb13); have XY := Lib.hid (XY.out.below hb13); have XP := Lib.hid (XP.out.below hb13); have ZP := Lib.hid (ZP.out.below hb13); have XO := Lib.hid (XO.out.below hb13); clear hb13)
                | (go_at_call 64; (with_reducible refine (r6Vessels _ _ _ LO _ XO.out HLr.out).mono ?_); rintro e w14 ⟨rfl, hb14⟩; rw [HLv.out]; have S14 := (S13.out).ch hb14; clear y0 y1 y2 y3 yl; obtain ⟨y0, y1, y2, y3, yl⟩ := S14.cells; have S14 := Lib.hid S14; have XL := Lib.hid (XL.out.below hb14); have XR := Lib.hid (XR.out.below hb14); have XV := Lib.hid (XV.out.below hb14); have XX := Lib.hid (XX.out.below hb14); have XY := Lib.hid (XY.out.below hb14); have XP := Lib.hid (XP.out.below hb14); have ZP := Lib.hid (ZP.out.below hb14); have XO := Lib.hid (XO.out.below hb14); clear hb14)
                | (go_at_call 17; (with_reducible refine (ltold _).mono ?_); rintro e wT ⟨rfl, hbT⟩))
              all_goals go_ret
              all_goals first
                | exact ⟨rfl, S14.out.below⟩
                | exact ⟨rfl, S1.out.below.ch2 hbT⟩
          | true =>
            obtain ⟨v1, v2⟩ := hV1 rfl
            have HVr := Lib.hid v2
            have j3 : decide (vesL vs < (N : Int)) = false := by simp; omega
            clear hV1 hW1 v1 v2
            cases B1
            · clear j1
              go_enter Tryz.func15, Tryz.ntmps15
              go_wp2_with (first
                | (go_at_call 16; (with_reducible refine (fFew _ S0.out.c1).mono ?_); rintro e w1 ⟨b, rfl, hb1⟩; have S1 := (S0.out).ch hb1; clear y0 y1 y2 y3 yl; obtain ⟨y0, y1, y2, y3, yl⟩ := S1.cells; have S1 := Lib.hid S1; have XL := Lib.hid (XL.out.below hb1); have XR := Lib.hid (XR.out.below hb1); have XV := Lib.hid (XV.out.below hb1); cases b; clear hb1)
                | (go_at_call 31; (with_reducible refine (fL _ S1.out.c1).mono ?_); rintro e w2 ⟨rfl, hb2⟩; have S2 := (S1.out).ch hb2; clear y0 y1 y2 y3 yl; obtain ⟨y0, y1, y2, y3, yl⟩ := S2.cells; have S2 := Lib.hid S2; have XL := Lib.hid (XL.out.below hb2); have XR := Lib.hid (XR.out.below hb2); have XV := Lib.hid (XV.out.below hb2); clear hb2)
                | (go_at_call 23; (with_reducible refine (fW _ S2.out.c1 XL.out).mono ?_); rintro e w3 ⟨rfl, hb3⟩; have S3 := (S2.out).ch hb3; clear y0 y1 y2 y3 yl; obtain ⟨y0, y1, y2, y3, yl⟩ := S3.cells; have S3 := Lib.hid S3; have XL := Lib.hid (XL.out.below hb3); have XR := Lib.hid (XR.out.below hb3); have XV := Lib.hid (XV.out.below hb3); clear hb3)
                | (go_at_call 25; (with_reducible refine (fS _ S3.out.c1 XR.out (by have := HMR.out; omega)).mono ?_); rintro e w4 ⟨rfl, hb4⟩; have S4 := (S3.out).ch hb4; clear y0 y1 y2 y3 yl; obtain ⟨y0, y1, y2, y3, yl⟩ := S4.cells; have S4 := Lib.hid S4; have XL := Lib.hid (XL.out.below hb4); have XR := Lib.hid (XR.out.below hb4); have XV := Lib.hid (XV.out.below hb4); clear hb4)
                | (go_at_call 34; (with_reducible refine (fA _ S4.out.c1 XV.out (by have := HMV.out; omega)).mono ?_); rintro e w5 ⟨rfl, hb5⟩; have S5 := (S4.out).ch hb5; clear y0 y1 y2 y3 yl; obtain ⟨y0, y1, y2, y3, yl⟩ := S5.cells; have S5 := Lib.hid S5; have XL := Lib.hid (XL.out.below hb5); have XR := Lib.hid (XR.out.below hb5); have XV := Lib.hid (XV.out.below hb5); clear hb5)
                | (go_at_call 64; (with_reducible refine (fV _ XV.out HVr.out).mono ?_); rintro e w6 ⟨rfl, hb6⟩; have S6 := (S5.out).ch hb6; clear y0 y1 y2 y3 yl; obtain ⟨y0, y1, y2, y3, yl⟩ := S6.cells; have S6 := Lib.hid S6; have XL := Lib.hid (XL.out.below hb6); have XR := Lib.hid (XR.out.below hb6); have XV := Lib.hid (XV.out.below hb6); clear hb6)
                | (go_at_call 43; (with_reducible refine (fX _ S6.out.c1).mono ?_); rintro e w7 ⟨xa, xk, rfl, hb7, hx, hxr⟩; have S7 := (S6.out).ch hb7; clear y0 y1 y2 y3 yl; obtain ⟨y0, y1, y2, y3, yl⟩ := S7.cells; have S7 := Lib.hid S7; have XL := Lib.hid (XL.out.below hb7); have XR := Lib.hid (XR.out.below hb7); have XV := Lib.hid (XV.out.below hb7); have XX := Lib.hid (hx); clear hx; clear hb7)
                | (go_at_call 23; (with_reducible refine (fW2 _ _ _ S7.out.c1 XX.out hxr).mono ?_); rintro e w8 ⟨rfl, hb8⟩; have S8 := (S7.out).ch hb8; clear y0 y1 y2 y3 yl; obtain ⟨y0, y1, y2, y3, yl⟩ := S8.cells; have S8 := Lib.hid S8; have XL := Lib.hid (XL.out.below hb8); have XR := Lib.hid (XR.out.below hb8); have XV := Lib.hid (XV.out.below hb8); have XX := Lib.hid (XX.out.below hb8); clear hb8)
                | (go_at_call 44; (with_reducible refine (fY _ S8.out.c1).mono ?_); rintro e w9 ⟨ya, yk, rfl, hb9, hy⟩; have S9 := (S8.out).ch hb9; clear y0 y1 y2 y3 yl; obtain ⟨y0, y1, y2, y3, yl⟩ := S9.cells; have S9 := Lib.hid S9; have XL := Lib.hid (XL.out.below hb9); have XR := Lib.hid (XR.out.below hb9); have XV := Lib.hid (XV.out.below hb9); have XX := Lib.hid (XX.out.below hb9); have XY := Lib.hid (hy); clear hy; clear hb9)
                | (go_at_call 25; (with_reducible refine (fS2 _ _ _ S9.out.c1 XY.out HYl.out).mono ?_); rintro e w10 ⟨rfl, hb10⟩; have S10 := (S9.out).ch hb10; clear y0 y1 y2 y3 yl; obtain ⟨y0, y1, y2, y3, yl⟩ := S10.cells; have S10 := Lib.hid S10; have XL := Lib.hid (XL.out.below hb10); have XR := Lib.hid (XR.out.below hb10); have XV := Lib.hid (XV.out.below hb10); have XX := Lib.hid (XX.out.below hb10); have XY := Lib.hid (XY.out.below hb10); clear hb10)
                | (go_at_call 56; (with_reducible refine (fLi _ S10.out.c1).mono ?_); rintro e w11 ⟨p, hp, rfl, hb11, hpc⟩; obtain ⟨g1, g2, g3⟩ := HA.out p hp; have S11 := (S10.out).ch hb11; clear y0 y1 y2 y3 yl; obtain ⟨y0, y1, y2, y3, yl⟩ := S11.cells; have S11 := Lib.hid S11; have XL := Lib.hid (XL.out.below hb11); have XR := Lib.hid (XR.out.below hb11); have XV := Lib.hid (XV.out.below hb11); have XX := Lib.hid (XX.out.below hb11); have XY := Lib.hid (XY.out.below hb11); have XP := Lib.hid (hpc); clear hpc; clear hb11)
                | (go_at_call 60; (with_reducible refine (fAs p _ (XP.out.below (one_alloc _ _))).mono ?_); rintro e w12 ⟨la, lk, rfl, hb12, hlo, _⟩; rw [g2] at hlo; rw [g2, g1]; have S12 := ((S11.out.al _)).ch hb12; clear y0 y1 y2 y3 yl; obtain ⟨y0, y1, y2, y3, yl⟩ := S12.cells; have S12 := Lib.hid S12; have XL := Lib.hid ((XL.out.below (one_alloc _ _)).below hb12); have XR := Lib.hid ((XR.out.below (one_alloc _ _)).below hb12); have XV := Lib.hid ((XV.out.below (one_alloc _ _)).below hb12); have XX := Lib.hid ((XX.out.below (one_alloc _ _)).below hb12); have XY := Lib.hid ((XY.out.below (one_alloc _ _)).below hb12); have XP := Lib.hid ((XP.out.below (one_alloc _ _)).below hb12); have ZP := Lib.hid ((HB.new w11 #[.string p.ware, .int .i64 p.lim, .int .i64 p.byr, .slice p.a p.ps.length p.cap] 24).below hb12); have XO := Lib.hid (hlo); clear hlo; obtain ⟨p0, p1, p2, p3, pf, pl⟩ := cell4w ZP.out; clear hb12)
                | (go_at_call 34; (with_reducible refine (fA2 p _ _ _ _ _ XP.out XO.out HLl.out).mono ?_); rintro e w13 ⟨rfl, hb13⟩; rw [g3, g1]; have S13 := (S12.out).ch hb13; clear y0 y1 y2 y3 yl; obtain ⟨y0, y1, y2, y3, yl⟩ := S13.cells; have S13 := Lib.hid S13; have XL := Lib.hid (XL.out.below hb13); have XR := Lib.hid (XR.out.below hb13); have XV := Lib.hid (XV.out.below hb13); have XX := Lib.hid (XX.out.below hb13); have XY := Lib.hid (XY.out.below hb13); have XP := Lib.hid (XP.out.below hb13); have ZP := Lib.hid (ZP.out.below hb13); have XO := Lib.hid (XO.out.below hb13); clear hb13)
                | (go_at_call 17; (with_reducible refine (ltold _).mono ?_); rintro e w14 ⟨rfl, hb14⟩; have S14 := (S13.out).ch hb14; clear y0 y1 y2 y3 yl; obtain ⟨y0, y1, y2, y3, yl⟩ := S14.cells; have S14 := Lib.hid S14; have XL := Lib.hid (XL.out.below hb14); have XR := Lib.hid (XR.out.below hb14); have XV := Lib.hid (XV.out.below hb14); have XX := Lib.hid (XX.out.below hb14); have XY := Lib.hid (XY.out.below hb14); have XP := Lib.hid (XP.out.below hb14); have ZP := Lib.hid (ZP.out.below hb14); have XO := Lib.hid (XO.out.below hb14); clear hb14)
                | (go_at_call 64; (with_reducible refine (r6Vessels _ _ _ LO _ XO.out HLr.out).mono ?_); rintro e w15 ⟨rfl, hb15⟩; rw [HLv.out]; have S15 := (S14.out).ch hb15; clear y0 y1 y2 y3 yl; obtain ⟨y0, y1, y2, y3, yl⟩ := S15.cells; have S15 := Lib.hid S15; have XL := Lib.hid (XL.out.below hb15); have XR := Lib.hid (XR.out.below hb15); have XV := Lib.hid (XV.out.below hb15); have XX := Lib.hid (XX.out.below hb15); have XY := Lib.hid (XY.out.below hb15); have XP := Lib.hid (XP.out.below hb15); have ZP := Lib.hid (ZP.out.below hb15); have XO := Lib.hid (XO.out.below hb15); clear hb15)
                | (go_at_call 17; (with_reducible refine (ltold _).mono ?_); rintro e wT ⟨rfl, hbT⟩))
              all_goals go_ret
              all_goals first
                | exact ⟨rfl, S15.out.below⟩
                | exact ⟨rfl, S1.out.below.ch2 hbT⟩
            · have j1 := j1 rfl
              have j2 : ¬ N < m := by simp at j1; omega
              go_enter Tryz.func15, Tryz.ntmps15
              go_wp2_with (first
                | (go_at_call 16; (with_reducible refine (fFew _ S0.out.c1).mono ?_); rintro e w1 ⟨b, rfl, hb1⟩; have S1 := (S0.out).ch hb1; clear y0 y1 y2 y3 yl; obtain ⟨y0, y1, y2, y3, yl⟩ := S1.cells; have S1 := Lib.hid S1; have XL := Lib.hid (XL.out.below hb1); have XR := Lib.hid (XR.out.below hb1); have XV := Lib.hid (XV.out.below hb1); cases b; clear hb1)
                | (go_at_call 31; (with_reducible refine (fL _ S1.out.c1).mono ?_); rintro e w2 ⟨rfl, hb2⟩; have S2 := (S1.out).ch hb2; clear y0 y1 y2 y3 yl; obtain ⟨y0, y1, y2, y3, yl⟩ := S2.cells; have S2 := Lib.hid S2; have XL := Lib.hid (XL.out.below hb2); have XR := Lib.hid (XR.out.below hb2); have XV := Lib.hid (XV.out.below hb2); clear hb2)
                | (go_at_call 23; (with_reducible refine (fW _ S2.out.c1 XL.out).mono ?_); rintro e w3 ⟨rfl, hb3⟩; have S3 := (S2.out).ch hb3; clear y0 y1 y2 y3 yl; obtain ⟨y0, y1, y2, y3, yl⟩ := S3.cells; have S3 := Lib.hid S3; have XL := Lib.hid (XL.out.below hb3); have XR := Lib.hid (XR.out.below hb3); have XV := Lib.hid (XV.out.below hb3); clear hb3)
                | (go_at_call 25; (with_reducible refine (fS _ S3.out.c1 XR.out (by have := HMR.out; omega)).mono ?_); rintro e w4 ⟨rfl, hb4⟩; have S4 := (S3.out).ch hb4; clear y0 y1 y2 y3 yl; obtain ⟨y0, y1, y2, y3, yl⟩ := S4.cells; have S4 := Lib.hid S4; have XL := Lib.hid (XL.out.below hb4); have XR := Lib.hid (XR.out.below hb4); have XV := Lib.hid (XV.out.below hb4); clear hb4)
                | (go_at_call 34; (with_reducible refine (fA _ S4.out.c1 XV.out (by have := HMV.out; omega)).mono ?_); rintro e w5 ⟨rfl, hb5⟩; have S5 := (S4.out).ch hb5; clear y0 y1 y2 y3 yl; obtain ⟨y0, y1, y2, y3, yl⟩ := S5.cells; have S5 := Lib.hid S5; have XL := Lib.hid (XL.out.below hb5); have XR := Lib.hid (XR.out.below hb5); have XV := Lib.hid (XV.out.below hb5); clear hb5)
                | (go_at_call 64; (with_reducible refine (fV _ XV.out HVr.out).mono ?_); rintro e w6 ⟨rfl, hb6⟩; have S6 := (S5.out).ch hb6; clear y0 y1 y2 y3 yl; obtain ⟨y0, y1, y2, y3, yl⟩ := S6.cells; have S6 := Lib.hid S6; have XL := Lib.hid (XL.out.below hb6); have XR := Lib.hid (XR.out.below hb6); have XV := Lib.hid (XV.out.below hb6); clear hb6)
                | (go_at_call 43; (with_reducible refine (fX _ S6.out.c1).mono ?_); rintro e w7 ⟨xa, xk, rfl, hb7, hx, hxr⟩; have S7 := (S6.out).ch hb7; clear y0 y1 y2 y3 yl; obtain ⟨y0, y1, y2, y3, yl⟩ := S7.cells; have S7 := Lib.hid S7; have XL := Lib.hid (XL.out.below hb7); have XR := Lib.hid (XR.out.below hb7); have XV := Lib.hid (XV.out.below hb7); have XX := Lib.hid (hx); clear hx; clear hb7)
                | (go_at_call 23; (with_reducible refine (fW2 _ _ _ S7.out.c1 XX.out hxr).mono ?_); rintro e w8 ⟨rfl, hb8⟩; have S8 := (S7.out).ch hb8; clear y0 y1 y2 y3 yl; obtain ⟨y0, y1, y2, y3, yl⟩ := S8.cells; have S8 := Lib.hid S8; have XL := Lib.hid (XL.out.below hb8); have XR := Lib.hid (XR.out.below hb8); have XV := Lib.hid (XV.out.below hb8); have XX := Lib.hid (XX.out.below hb8); clear hb8)
                | (go_at_call 44; (with_reducible refine (fY _ S8.out.c1).mono ?_); rintro e w9 ⟨ya, yk, rfl, hb9, hy⟩; have S9 := (S8.out).ch hb9; clear y0 y1 y2 y3 yl; obtain ⟨y0, y1, y2, y3, yl⟩ := S9.cells; have S9 := Lib.hid S9; have XL := Lib.hid (XL.out.below hb9); have XR := Lib.hid (XR.out.below hb9); have XV := Lib.hid (XV.out.below hb9); have XX := Lib.hid (XX.out.below hb9); have XY := Lib.hid (hy); clear hy; clear hb9)
                | (go_at_call 25; (with_reducible refine (fS2 _ _ _ S9.out.c1 XY.out HYl.out).mono ?_); rintro e w10 ⟨rfl, hb10⟩; have S10 := (S9.out).ch hb10; clear y0 y1 y2 y3 yl; obtain ⟨y0, y1, y2, y3, yl⟩ := S10.cells; have S10 := Lib.hid S10; have XL := Lib.hid (XL.out.below hb10); have XR := Lib.hid (XR.out.below hb10); have XV := Lib.hid (XV.out.below hb10); have XX := Lib.hid (XX.out.below hb10); have XY := Lib.hid (XY.out.below hb10); clear hb10)
                | (go_at_call 56; (with_reducible refine (fLi _ S10.out.c1).mono ?_); rintro e w11 ⟨p, hp, rfl, hb11, hpc⟩; obtain ⟨g1, g2, g3⟩ := HA.out p hp; have S11 := (S10.out).ch hb11; clear y0 y1 y2 y3 yl; obtain ⟨y0, y1, y2, y3, yl⟩ := S11.cells; have S11 := Lib.hid S11; have XL := Lib.hid (XL.out.below hb11); have XR := Lib.hid (XR.out.below hb11); have XV := Lib.hid (XV.out.below hb11); have XX := Lib.hid (XX.out.below hb11); have XY := Lib.hid (XY.out.below hb11); have XP := Lib.hid (hpc); clear hpc; clear hb11)
                | (go_at_call 60; (with_reducible refine (fAs p _ (XP.out.below (one_alloc _ _))).mono ?_); rintro e w12 ⟨la, lk, rfl, hb12, hlo, _⟩; rw [g2] at hlo; rw [g2, g1]; have S12 := ((S11.out.al _)).ch hb12; clear y0 y1 y2 y3 yl; obtain ⟨y0, y1, y2, y3, yl⟩ := S12.cells; have S12 := Lib.hid S12; have XL := Lib.hid ((XL.out.below (one_alloc _ _)).below hb12); have XR := Lib.hid ((XR.out.below (one_alloc _ _)).below hb12); have XV := Lib.hid ((XV.out.below (one_alloc _ _)).below hb12); have XX := Lib.hid ((XX.out.below (one_alloc _ _)).below hb12); have XY := Lib.hid ((XY.out.below (one_alloc _ _)).below hb12); have XP := Lib.hid ((XP.out.below (one_alloc _ _)).below hb12); have ZP := Lib.hid ((HB.new w11 #[.string p.ware, .int .i64 p.lim, .int .i64 p.byr, .slice p.a p.ps.length p.cap] 24).below hb12); have XO := Lib.hid (hlo); clear hlo; obtain ⟨p0, p1, p2, p3, pf, pl⟩ := cell4w ZP.out; clear hb12)
                | (go_at_call 34; (with_reducible refine (fA2 p _ _ _ _ _ XP.out XO.out HLl.out).mono ?_); rintro e w13 ⟨rfl, hb13⟩; rw [g3, g1]; have S13 := (S12.out).ch hb13; clear y0 y1 y2 y3 yl; obtain ⟨y0, y1, y2, y3, yl⟩ := S13.cells; have S13 := Lib.hid S13; have XL := Lib.hid (XL.out.below hb13); have XR := Lib.hid (XR.out.below hb13); have XV := Lib.hid (XV.out.below hb13); have XX := Lib.hid (XX.out.below hb13); have XY := Lib.hid (XY.out.below hb13); have XP := Lib.hid (XP.out.below hb13); have ZP := Lib.hid (ZP.out.below hb13); have XO := Lib.hid (XO.out.below hb13); clear hb13)
                | (go_at_call 17; (with_reducible refine (ltold _).mono ?_); rintro e w14 ⟨rfl, hb14⟩; have S14 := (S13.out).ch hb14; clear y0 y1 y2 y3 yl; obtain ⟨y0, y1, y2, y3, yl⟩ := S14.cells; have S14 := Lib.hid S14; have XL := Lib.hid (XL.out.below hb14); have XR := Lib.hid (XR.out.below hb14); have XV := Lib.hid (XV.out.below hb14); have XX := Lib.hid (XX.out.below hb14); have XY := Lib.hid (XY.out.below hb14); have XP := Lib.hid (XP.out.below hb14); have ZP := Lib.hid (ZP.out.below hb14); have XO := Lib.hid (XO.out.below hb14); clear hb14)
                | (go_at_call 64; (with_reducible refine (r6Vessels _ _ _ LO _ XO.out HLr.out).mono ?_); rintro e w15 ⟨rfl, hb15⟩; rw [HLv.out]; have S15 := (S14.out).ch hb15; clear y0 y1 y2 y3 yl; obtain ⟨y0, y1, y2, y3, yl⟩ := S15.cells; have S15 := Lib.hid S15; have XL := Lib.hid (XL.out.below hb15); have XR := Lib.hid (XR.out.below hb15); have XV := Lib.hid (XV.out.below hb15); have XX := Lib.hid (XX.out.below hb15); have XY := Lib.hid (XY.out.below hb15); have XP := Lib.hid (XP.out.below hb15); have ZP := Lib.hid (ZP.out.below hb15); have XO := Lib.hid (XO.out.below hb15); clear hb15)
                | (go_at_call 17; (with_reducible refine (ltold _).mono ?_); rintro e wT ⟨rfl, hbT⟩))
              all_goals go_ret
              all_goals first
                | exact ⟨rfl, S15.out.below⟩
                | exact ⟨rfl, S1.out.below.ch2 hbT⟩
        · have hli : c.leastI = 0 := by unfold Cs.leastI; rw [if_neg h0]
          have b0 : (c.chk != 0) = true := by simpa using h0
          rw [hli] at fL
          clear fW fS fA fV fX fW2 fY fS2 fLi fAs fA2 h0 hli
          go_enter Tryz.func15, Tryz.ntmps15
          go_wp2_with (first
            | (go_at_call 16; (with_reducible refine (fFew _ S0.out.c1).mono ?_); rintro e w1 ⟨b, rfl, hb1⟩; have S1 := (S0.out).ch hb1; clear y0 y1 y2 y3 yl; obtain ⟨y0, y1, y2, y3, yl⟩ := S1.cells; have S1 := Lib.hid S1; have XL := Lib.hid (XL.out.below hb1); have XR := Lib.hid (XR.out.below hb1); have XV := Lib.hid (XV.out.below hb1); cases b; clear hb1)
            | (go_at_call 31; (with_reducible refine (fL _ S1.out.c1).mono ?_); rintro e w2 ⟨rfl, hb2⟩; have S2 := (S1.out).ch hb2; clear y0 y1 y2 y3 yl; obtain ⟨y0, y1, y2, y3, yl⟩ := S2.cells; have S2 := Lib.hid S2; have XL := Lib.hid (XL.out.below hb2); have XR := Lib.hid (XR.out.below hb2); have XV := Lib.hid (XV.out.below hb2); clear hb2)
            | (go_at_call 17; (with_reducible refine (ltold _).mono ?_); rintro e w3 ⟨rfl, hb3⟩; have S3 := (S2.out).ch hb3; clear y0 y1 y2 y3 yl; obtain ⟨y0, y1, y2, y3, yl⟩ := S3.cells; have S3 := Lib.hid S3; have XL := Lib.hid (XL.out.below hb3); have XR := Lib.hid (XR.out.below hb3); have XV := Lib.hid (XV.out.below hb3); clear hb3)
            | (go_at_call 17; (with_reducible refine (ltold _).mono ?_); rintro e wT ⟨rfl, hbT⟩))
          all_goals go_ret
          all_goals first
            | exact ⟨rfl, S3.out.below⟩
            | exact ⟨rfl, S1.out.below.ch2 hbT⟩
      · have q2' : decide ((60 : Int) < (mv : Int)) = true := by simp; omega
        clear fL fW fS fA fV fX fW2 fY fS2 fLi fAs fA2
        go_enter Tryz.func15, Tryz.ntmps15
        go_wp2_with (first
          | (go_at_call 16; (with_reducible refine (fFew _ S0.out.c1).mono ?_); rintro e w1 ⟨b, rfl, hb1⟩; have S1 := (S0.out).ch hb1; clear y0 y1 y2 y3 yl; obtain ⟨y0, y1, y2, y3, yl⟩ := S1.cells; have S1 := Lib.hid S1; have XL := Lib.hid (XL.out.below hb1); have XR := Lib.hid (XR.out.below hb1); have XV := Lib.hid (XV.out.below hb1); cases b; clear hb1)
          | (go_at_call 17; (with_reducible refine (ltold _).mono ?_); rintro e wT ⟨rfl, hbT⟩))
        all_goals go_ret
        all_goals first
          | exact ⟨rfl, S1.out.below.ch2 hbT⟩
    · have q1' : decide ((60 : Int) < (mr : Int)) = true := by simp; omega
      clear fL fW fS fA fV fX fW2 fY fS2 fLi fAs fA2
      go_enter Tryz.func15, Tryz.ntmps15
      go_wp2_with (first
        | (go_at_call 16; (with_reducible refine (fFew _ S0.out.c1).mono ?_); rintro e w1 ⟨b, rfl, hb1⟩; have S1 := (S0.out).ch hb1; clear y0 y1 y2 y3 yl; obtain ⟨y0, y1, y2, y3, yl⟩ := S1.cells; have S1 := Lib.hid S1; have XL := Lib.hid (XL.out.below hb1); have XR := Lib.hid (XR.out.below hb1); have XV := Lib.hid (XV.out.below hb1); cases b; clear hb1)
        | (go_at_call 17; (with_reducible refine (ltold _).mono ?_); rintro e wT ⟨rfl, hbT⟩))
      all_goals go_ret
      all_goals first
        | exact ⟨rfl, S1.out.below.ch2 hbT⟩
  · have q0' : decide ((60 : Int) < (m : Int)) = true := by simp; omega
    clear fL fW fS fA fV fX fW2 fY fS2 fLi fAs fA2
    go_enter Tryz.func15, Tryz.ntmps15
    go_wp2_with (first
      | (go_at_call 16; (with_reducible refine (fFew _ S0.out.c1).mono ?_); rintro e w1 ⟨b, rfl, hb1⟩; have S1 := (S0.out).ch hb1; clear y0 y1 y2 y3 yl; obtain ⟨y0, y1, y2, y3, yl⟩ := S1.cells; have S1 := Lib.hid S1; have XL := Lib.hid (XL.out.below hb1); have XR := Lib.hid (XR.out.below hb1); have XV := Lib.hid (XV.out.below hb1); cases b; clear hb1)
      | (go_at_call 17; (with_reducible refine (ltold _).mono ?_); rintro e wT ⟨rfl, hbT⟩))
    all_goals go_ret
    all_goals first
      | exact ⟨rfl, S1.out.below.ch2 hbT⟩
end Go.Proofs.YtodkbfbbpfghiaaGreat
namespace Go.Proofs.YtodkbfbbpfghiaaGreat
open Go.ChangeShapes Go.WideShapes Go.ChangeAt Go.RowKit Go.Joins Go.Deep
set_option maxRecDepth 100000 in
theorem wholeDuality_lifted (os : Os) (started : os.Started) (H : Type) (enc : TypeId × Value → H) :
    ReturnsInHanded {} Tryz.checked os 15 .any (Rows.wholeDualitySpec.pre6 enc Tryz.prog Tryz.f15 Rows.wholeDualityRow.domain false) (Rows.wholeDualitySpec.post enc Tryz.prog Tryz.f15 false true false false) := by
  refine returnsInHanded_of_change_sized (C := Tryz.checked) Tryz.own started (by kernel_rfl) Tryz.func15
    (ChangeSpec.witness6 (enc := enc) (C := Tryz.checked) false ⟨#[], #[.agg #[.string ⟨#[]⟩, .int .i64 0, .int .i64 0, .slice none 0 0], .slice none 0 0, .slice none 0 0, .slice none 0 0], []⟩ 8 (by kernel_rfl) (by kernel_rfl) (by kernel_rfl) (by kernel_rfl)) ?_
  intro W base args ds gs before hval0 hW _ hsz0 _
  have hsz : (DataW.weightsEach Tryz.prog (Tryz.f15.params.toList ++ Rows.wholeDualitySpec.plain.varTypes Tryz.prog) (ds ++ gs)).all (· ≤ reachBytes) = true := hsz0
  clear hsz0
  have hval : ∀ (j : Nat) t v, Tryz.f15.params[j]? = some t → args[j]? = some v → Value.okWide Tryz.prog W .any base t v := hval0
  have hW' := hW
  obtain ⟨p, q, hA0, hV, rfl, _, _⟩ := hW
  have hA : DataW.TrodAll enc Tryz.prog W 0 (fun _ => true) true Tryz.f15.params.toList args.toList ds p := hA0
  rw [Tryz.params15] at hA hval hsz
  obtain ⟨v0, vs0, d0, ds0, p0, q0, hargs, rfl, rfl, h0, r0⟩ := trodAll_cons hA
  obtain ⟨v1, vs1, d1, ds1, p1, q1, rfl, rfl, rfl, h1, r1⟩ := trodAll_cons r0
  obtain ⟨v2, vs2, d2, ds2, p2, q2, rfl, rfl, rfl, h2, r2⟩ := trodAll_cons r1
  obtain ⟨v3, vs3, d3, ds3, p3, q3, rfl, rfl, rfl, h3, r3⟩ := trodAll_cons r2
  obtain ⟨rfl, rfl, rfl⟩ := trodAll_nil r3
  obtain rfl : args = #[v0, v1, v2, v3] := by cases args; simp_all
  obtain ⟨rfl, rfl⟩ := trodVars_none hV
  clear hA0 hval0
  have hlt : ∀ x ∈ p0 ++ p1 ++ p2 ++ p3, x.block < W.heap.size := fun x hx => by have := hW'.lt x (by simpa using hx); simpa using this
  obtain ⟨c0, rfl, hb0, hn0⟩ := case_open (hval 0 24 v0 rfl rfl) h0 (fun n hn => by
    have := List.all_eq_true.1 hsz _ (DataW.weights_mem_each (j := 0) rfl rfl n hn)
    simpa using this)
  obtain ⟨a1, n1, k1, xs1, rfl, hb1, hn1⟩ := ints_open (hval 1 34 v1 rfl rfl) h1 (fun n hn => by
    have := List.all_eq_true.1 hsz _ (DataW.weights_mem_each (j := 1) rfl rfl n hn)
    simpa using this)
  obtain ⟨a2, n2, k2, xs2, rfl, hb2, hn2⟩ := rngs_open (hval 2 35 v2 rfl rfl) h2 (fun n hn => by
    have := List.all_eq_true.1 hsz _ (DataW.weights_mem_each (j := 2) rfl rfl n hn)
    simpa using this)
  obtain ⟨a3, n3, k3, xs3, rfl, hb3, hn3⟩ := ints_open (hval 3 34 v3 rfl rfl) h3 (fun n hn => by
    have := List.all_eq_true.1 hsz _ (DataW.weights_mem_each (j := 3) rfl rfl n hn)
    simpa using this)
  refine (law_duality c0 a1 n1 k1 xs1 a2 n2 k2 xs2 a3 n3 k3 xs3 W hb0 hn0 hb1 hn1 hb2 hn2 hb3 hn3).mono fun e W' ⟨he, hw⟩ => ?_
  subst he
  exact ⟨_, rfl, ⟨_, _, _, [], _, [], hW', trodAll_mk1 (shut_bool Tryz.underlying4 _), (trodAll_cons_mk (Below.trod Tryz.laidOut (by kernel_rfl) (of_decide_eq_true (by kernel_rfl)) h0 hw (fun x hx => hlt x (by simp [hx]))) (trodAll_cons_mk (Below.trod Tryz.laidOut (by kernel_rfl) (of_decide_eq_true (by kernel_rfl)) h1 hw (fun x hx => hlt x (by simp [hx]))) (trodAll_cons_mk (Below.trod Tryz.laidOut (by kernel_rfl) (of_decide_eq_true (by kernel_rfl)) h2 hw (fun x hx => hlt x (by simp [hx]))) (trodAll_cons_mk (Below.trod Tryz.laidOut (by kernel_rfl) (of_decide_eq_true (by kernel_rfl)) h3 hw (fun x hx => hlt x (by simp [hx]))) trodAll_mk0)))), rfl, hw.frame _, fun h => by cases h⟩⟩
theorem wholeDuality_holds : Rows.WholeDualitySaid :=
  OpenClaim.holds_of_wide 15 Tryz.f15 rfl rfl rfl rfl rfl rfl rfl ⟨rfl, rfl, rfl, rfl, rfl⟩ rfl rfl rfl rfl rfl (by kernel_rfl) Tryz.func15 (by kernel_rfl)
    (of_decide_eq_true (by kernel_rfl)) (by unfold Func.isWrapper; rw [if_neg (of_decide_eq_false (by kernel_rfl))]; exact ⟨rfl, rfl⟩)
    (fun os started H enc _ => wholeDuality_lifted os started H enc)
#print axioms wholeDuality_holds
end Go.Proofs.YtodkbfbbpfghiaaGreat
