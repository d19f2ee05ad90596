/-
  The law Joints, walked, and its statement.
-/
import Derived.Test.YtodkbfbbpfghiaaGreatPa29
import Derived.Test.YtodkbfbbpfghiaaGreatPa16
import Derived.Test.YtodkbfbbpfghiaaGreatRows
import Derived.OpenShut
set_option linter.unusedSimpArgs false
set_option linter.unusedVariables false
set_option linter.unnecessarySimpa false
namespace Go.Proofs.YtodkbfbbpfghiaaGreat
open Go.RowKit Go.Shelf Go.Lib
set_option maxHeartbeats 8000000
set_option maxRecDepth 100000
theorem jnt_no {c : Cs} {x y : Int} (h : c.jntB x y = false) : c.jntO x y = [] := by unfold Cs.jntO; rw [h]; rfl
theorem bar_no {c : Cs} {x y : Int} (h : c.barB x y = false) : c.barO x y = [] := by unfold Cs.barO; rw [h, if_neg (by simp)]
/-- What Joint returns joins. -/
theorem jnt_ok {c : Cs} {x y : Int} (h : c.jntB x y = true) : c.asg (c.jntO x y) = true ∧ ∃ X Y : Nat, x = X ∧ y = Y ∧ X < (c.jntO x y).length ∧ Y < (c.jntO x y).length ∧ (c.jntO x y).getD X 0 = (c.jntO x y).getD Y 0 := by
  have h2 : c.two x y = 0 ∧ c.joiN x.toNat y.toNat = true := by unfold Cs.jntB at h; simpa using h
  obtain ⟨X, Y, rfl, rfl, h3, h4, _, _⟩ := Cs.two_nat h2.1
  have hj := h2.2
  simp only [Int.toNat_natCast] at hj
  have hk := (Cs.two_zero h2.1).1
  obtain ⟨_, hok, hsl⟩ := hk.many'
  have hO : c.jntO X Y = jointL c.s (min X Y) (max X Y) := by unfold Cs.jntO; rw [if_pos h]; simp only [Int.toNat_natCast]
  have hnc : clB c.s (min X Y) (max X Y) = false := by
    rw [clB_minmax]
    unfold Cs.joiN at hj
    simp at hj
    exact hj.1
  have hle : c.lim = 0 ∨ (leastN (merS c.s (min X Y) (max X Y)) : Int) ≤ c.lim := by
    unfold Cs.joiN at hj
    simp at hj
    exact hj.2
  obtain ⟨k1, k2⟩ := jointL_ok hok h3 (by omega) hnc
  have hl := jointL_len (s := c.s) (A := min X Y) (B := max X Y) (by omega)
  rw [hO]
  refine ⟨?_, X, Y, rfl, rfl, by omega, by omega, ?_⟩
  · unfold Cs.asg
    rw [k1, Cs.chk_zero.2 hk]
    simpa using hle
  · rcases Nat.le_total X Y with e | e
    · rw [Nat.min_eq_left e, Nat.max_eq_right e] at k2 ⊢; exact k2
    · rw [Nat.min_eq_right e, Nat.max_eq_left e] at k2 ⊢; exact k2.symm
/-- What Bar returns is a bar. -/
theorem bar_ok {c : Cs} {x y : Int} (h : c.barB x y = true) : c.bar x y (c.barO x y) = true := by
  have h2 : c.two x y = 0 ∧ c.joiN x.toNat y.toNat = false := by unfold Cs.barB at h; simpa using h
  obtain ⟨X, Y, rfl, rfl, h3, h4, _, _⟩ := Cs.two_nat h2.1
  have hj := h2.2
  have hk := (Cs.two_zero h2.1).1
  obtain ⟨_, hok, hsl⟩ := hk.many'
  unfold Cs.bar Cs.barN
  rw [h2.1]
  unfold Cs.barO
  simp only [h, Int.toNat_natCast, decide_true, Bool.true_and, true_and] at hj ⊢
  cases hc : clB c.s X Y with
  | true => simp
  | false =>
    have hnc : clB c.s (min X Y) (max X Y) = false := by rw [clB_minmax]; exact hc
    have hm := hok.merS h3 (by omega) hnc
    have hl := CaseOk.lim hk
    unfold Cs.joiN at hj
    rw [hc] at hj
    simp at hj
    have hw := witS_many hm
    have htk := witB_take (c.lim.toNat + 1) (witS_wit hm)
    simp only [if_true, Bool.false_eq_true, if_false]
    rw [htk, List.length_take, hw]
    simp
    omega
theorem barO_len (c : Cs) (x y : Int) : (c.barO x y).length ≤ 1000000 := by
  unfold Cs.barO
  split
  · rename_i h
    have h2 : c.two x y = 0 := by have := h.1; unfold Cs.barB at this; simp at this; exact this.1
    have hl := CaseOk.lim (Cs.two_zero h2).1
    rw [List.length_take]
    omega
  · simp
theorem law_joints (c : Cs) (x y : Int) (al : Option Addr) (m cl : Nat) (xs : List Int) (w : World) (hc : CsAt w c) (hcr : c.ps.length ≤ c.cap) (hl : IntsAt w al m cl xs) (hroom : xs.length ≤ cl) :
    Calls Tryz.prog 9 #[c.v, .int .i64 x, .int .i64 y, .slice al m cl] w fun e w' => e = .returned (.bool true) ∧ Below w.heap.size w w' := by
  have fFew := fun W (h : CsAt W c) => lfew c W h
  unfold BoolAny at fFew
  have fJ := fun W (h : CsAt W c) => wJoint c x y W h
  have fB := fun W (h : CsAt W c) => wBar c x y W h
  have fC := fun W (h : CsAt W c) (h2 : IntsAt W al m cl xs) h3 => wCheckBar c x y al m cl xs W h h2 h3 hroom
  have gC := fun W (h : CsAt W c) (h2 : IntsAt W al m cl xs) h3 => r6CheckBar c x y al m cl xs W h h2 h3
  have gT := fun W (h : CsAt W c) => r6Two c x y W h
  have gJ := fun (h0 : c.two x y = 0) W (h : CsAt W c) => r6Joined c x y W h h0
  have gA := fun a m k W (h : CsAt W c) (h2 : IntsAt W a m k (c.jntO x y)) => r6CheckAssign c a m k _ W h h2
  have gB := fun a m k W (h : CsAt W c) (h2 : IntsAt W a m k (c.barO x y)) => r6CheckBar c x y a m k _ W h h2 (barO_len c x y)
  unfold IntBPost at fJ fB
  unfold BEPost at fC
  have hJ : c.jntB x y = (decide (c.two x y = 0) && c.joiN x.toNat y.toNat) := rfl
  have hB : c.barB x y = (decide (c.two x y = 0) && !c.joiN x.toNat y.toNat) := rfl
  have hO1 := @jnt_no c x y
  have hO2 := @bar_no c x y
  have hY1 := @jnt_ok c x y
  have hY2 := @bar_ok c x y
  have hk0 : c.two x y = 0 → c.chk = 0 := fun h => Cs.chk_zero.2 (Cs.two_zero h).1
  have hm := hl.len
  simp only [Cs.v] at fFew fJ fB fC gC gT gJ gA gB ⊢
  generalize c.bar x y (c.barO x y) = B2 at *
  generalize c.bar x y xs = B1 at *
  generalize c.asg (c.jntO x y) = B3 at *
  generalize c.jntO x y = O at *
  generalize c.barO x y = R at *
  generalize c.jntB x y = JB at *
  generalize c.barB x y = RB at *
  generalize c.joiN x.toNat y.toNat = JN at *
  generalize c.two x y = E2 at *
  generalize c.chk = E at *
  have e1 : (B1 != B1) = false := by simp
  have e2 : (E2 != E2) = false := by simp
  have HM := Lib.hid hm
  have XL0 := hl.below (one_alloc w (Obj.cells #[.string c.ware, .int .i64 c.lim, .int .i64 c.byr, .slice c.a c.ps.length c.cap] 24))
  have XL := Lib.hid XL0
  clear hl hm XL0
  have S0 := LS.start w hc
  obtain ⟨y0, y1, y2, y3, yl⟩ := S0.cells
  have S0 := Lib.hid S0
  by_cases q1 : m ≤ 60
  · have q1' : decide ((60 : Int) < (m : Int)) = false := by simp; omega
    by_cases h0 : E2 = 0
    · subst h0
      obtain rfl := hk0 rfl
      have gK := gJ rfl
      clear gJ
      simp only [decide_true, Bool.true_and] at hJ hB
      subst hJ
      subst hB
      cases JB with
      | false =>
        obtain rfl := hO1 rfl
        obtain rfl := hY2 rfl
        clear hO1 hO2 hY1 hY2 hk0 gA
        go_enter Tryz.func9, Tryz.ntmps9
        go_wp2_with (first
          | (go_at_call 16; (with_reducible refine (fFew _ S0.out.c1).mono ?_); rintro e w1 ⟨b, rfl, hb1⟩; have S1 := (S0.out).ch hb1; clear y0 y1 y2 y3 yl; obtain ⟨y0, y1, y2, y3, yl⟩ := S1.cells; have S1 := Lib.hid S1; have XL := Lib.hid (XL.out.below hb1); cases b; clear hb1)
          | (go_at_call 35; (with_reducible refine (fJ _ S1.out.c1).mono ?_); rintro e w2 ⟨va, vk, rfl, hb2, ho, _⟩; have S2 := (S1.out).ch hb2; clear y0 y1 y2 y3 yl; obtain ⟨y0, y1, y2, y3, yl⟩ := S2.cells; have S2 := Lib.hid S2; have XL := Lib.hid (XL.out.below hb2); have XO := Lib.hid (ho); clear ho; clear hb2)
          | (go_at_call 36; (with_reducible refine (fB _ S2.out.c1).mono ?_); rintro e w3 ⟨ra, rk, rfl, hb3, hr, _⟩; have S3 := (S2.out).ch hb3; clear y0 y1 y2 y3 yl; obtain ⟨y0, y1, y2, y3, yl⟩ := S3.cells; have S3 := Lib.hid S3; have XL := Lib.hid (XL.out.below hb3); have XO := Lib.hid (XO.out.below hb3); have XR := Lib.hid (hr); clear hr; clear hb3)
          | (go_at_call 37; (with_reducible refine (fC _ S3.out.c1 XL.out (by have := HM.out; omega)).mono ?_); rintro e w4 ⟨rfl, hb4⟩; have S4 := (S3.out).ch hb4; clear y0 y1 y2 y3 yl; obtain ⟨y0, y1, y2, y3, yl⟩ := S4.cells; have S4 := Lib.hid S4; have XL := Lib.hid (XL.out.below hb4); have XO := Lib.hid (XO.out.below hb4); have XR := Lib.hid (XR.out.below hb4); clear hb4)
          | (go_at_call 38; (with_reducible refine (gC _ S4.out.c1 XL.out (by have := HM.out; omega)).mono ?_); rintro e w5 ⟨rfl, hb5⟩; have S5 := (S4.out).ch hb5; clear y0 y1 y2 y3 yl; obtain ⟨y0, y1, y2, y3, yl⟩ := S5.cells; have S5 := Lib.hid S5; have XL := Lib.hid (XL.out.below hb5); have XO := Lib.hid (XO.out.below hb5); have XR := Lib.hid (XR.out.below hb5); clear hb5)
          | (go_at_call 39; (with_reducible refine (gT _ S5.out.c1).mono ?_); rintro e w6 ⟨rfl, hb6⟩; have S6 := (S5.out).ch hb6; clear y0 y1 y2 y3 yl; obtain ⟨y0, y1, y2, y3, yl⟩ := S6.cells; have S6 := Lib.hid S6; have XL := Lib.hid (XL.out.below hb6); have XO := Lib.hid (XO.out.below hb6); have XR := Lib.hid (XR.out.below hb6); clear hb6)
          | (go_at_call 40; (with_reducible refine (gK _ S6.out.c1).mono ?_); rintro e w7 ⟨rfl, hb7⟩; have S7 := (S6.out).ch hb7; clear y0 y1 y2 y3 yl; obtain ⟨y0, y1, y2, y3, yl⟩ := S7.cells; have S7 := Lib.hid S7; have XL := Lib.hid (XL.out.below hb7); have XO := Lib.hid (XO.out.below hb7); have XR := Lib.hid (XR.out.below hb7); clear hb7)
          | (go_at_call 38; (with_reducible refine (gB _ _ _ _ S7.out.c1 XR.out).mono ?_); rintro e w8 ⟨rfl, hb8⟩; have S8 := (S7.out).ch hb8; clear y0 y1 y2 y3 yl; obtain ⟨y0, y1, y2, y3, yl⟩ := S8.cells; have S8 := Lib.hid S8; have XL := Lib.hid (XL.out.below hb8); have XO := Lib.hid (XO.out.below hb8); have XR := Lib.hid (XR.out.below hb8); clear hb8)
          | (go_at_call 17; (with_reducible refine (ltold _).mono ?_); rintro e w9 ⟨rfl, hb9⟩; have S9 := (S8.out).ch hb9; clear y0 y1 y2 y3 yl; obtain ⟨y0, y1, y2, y3, yl⟩ := S9.cells; have S9 := Lib.hid S9; have XL := Lib.hid (XL.out.below hb9); have XO := Lib.hid (XO.out.below hb9); have XR := Lib.hid (XR.out.below hb9); clear hb9)
          | (go_at_call 17; (with_reducible refine (ltold _).mono ?_); rintro e wT ⟨rfl, hbT⟩))
        all_goals go_ret
        all_goals first
          | exact ⟨rfl, S9.out.below⟩
          | exact ⟨rfl, S1.out.below.ch2 hbT⟩
      | true =>
        obtain rfl := hO2 rfl
        obtain ⟨rfl, X, Y, rfl, rfl, hX, hY, hV⟩ := hY1 rfl
        obtain ⟨V, hV2⟩ : ∃ V, O.getD Y 0 = V := ⟨_, rfl⟩
        rw [hV2] at hV
        have HX := Lib.hid hX
        have HY := Lib.hid hY
        have HV := Lib.hid hV
        have HV2 := Lib.hid hV2
        clear hO1 hO2 hY1 hY2 hk0 gB hX hY hV hV2
        go_enter Tryz.func9, Tryz.ntmps9
        go_wp2_with (first
          | (go_at_call 16; (with_reducible refine (fFew _ S0.out.c1).mono ?_); rintro e w1 ⟨b, rfl, hb1⟩; have S1 := (S0.out).ch hb1; clear y0 y1 y2 y3 yl; obtain ⟨y0, y1, y2, y3, yl⟩ := S1.cells; have S1 := Lib.hid S1; have XL := Lib.hid (XL.out.below hb1); cases b; clear hb1)
          | (go_at_call 35; (with_reducible refine (fJ _ S1.out.c1).mono ?_); rintro e w2 ⟨va, vk, rfl, hb2, ho, _⟩; obtain ⟨vb, vo, rfl, vl, _⟩ := IntsAt.get ho HX.out; have S2 := (S1.out).ch hb2; clear y0 y1 y2 y3 yl; obtain ⟨y0, y1, y2, y3, yl⟩ := S2.cells; have S2 := Lib.hid S2; have XL := Lib.hid (XL.out.below hb2); have XO := Lib.hid (ho); clear ho; clear hb2)
          | (go_at_call 36; (with_reducible refine (fB _ S2.out.c1).mono ?_); rintro e w3 ⟨ra, rk, rfl, hb3, hr, _⟩; have S3 := (S2.out).ch hb3; clear y0 y1 y2 y3 yl; obtain ⟨y0, y1, y2, y3, yl⟩ := S3.cells; have S3 := Lib.hid S3; have XL := Lib.hid (XL.out.below hb3); have XO := Lib.hid (XO.out.below hb3); have XR := Lib.hid (hr); clear hr; clear hb3)
          | (go_at_call 37; (with_reducible refine (fC _ S3.out.c1 XL.out (by have := HM.out; omega)).mono ?_); rintro e w4 ⟨rfl, hb4⟩; have S4 := (S3.out).ch hb4; clear y0 y1 y2 y3 yl; obtain ⟨y0, y1, y2, y3, yl⟩ := S4.cells; have S4 := Lib.hid S4; have XL := Lib.hid (XL.out.below hb4); have XO := Lib.hid (XO.out.below hb4); have XR := Lib.hid (XR.out.below hb4); clear hb4)
          | (go_at_call 38; (with_reducible refine (gC _ S4.out.c1 XL.out (by have := HM.out; omega)).mono ?_); rintro e w5 ⟨rfl, hb5⟩; have S5 := (S4.out).ch hb5; clear y0 y1 y2 y3 yl; obtain ⟨y0, y1, y2, y3, yl⟩ := S5.cells; have S5 := Lib.hid S5; have XL := Lib.hid (XL.out.below hb5); have XO := Lib.hid (XO.out.below hb5); have XR := Lib.hid (XR.out.below hb5); clear hb5)
          | (go_at_call 39; (with_reducible refine (gT _ S5.out.c1).mono ?_); rintro e w6 ⟨rfl, hb6⟩; have S6 := (S5.out).ch hb6; clear y0 y1 y2 y3 yl; obtain ⟨y0, y1, y2, y3, yl⟩ := S6.cells; have S6 := Lib.hid S6; have XL := Lib.hid (XL.out.below hb6); have XO := Lib.hid (XO.out.below hb6); have XR := Lib.hid (XR.out.below hb6); clear hb6)
          | (go_at_call 40; (with_reducible refine (gK _ S6.out.c1).mono ?_); rintro e w7 ⟨rfl, hb7⟩; have S7 := (S6.out).ch hb7; clear y0 y1 y2 y3 yl; obtain ⟨y0, y1, y2, y3, yl⟩ := S7.cells; have S7 := Lib.hid S7; have XL := Lib.hid (XL.out.below hb7); have XO := Lib.hid (XO.out.below hb7); have XR := Lib.hid (XR.out.below hb7); clear hb7)
          | (go_at_call 41; (with_reducible refine (gA _ _ _ _ S7.out.c1 XO.out).mono ?_); rintro e w8 ⟨rfl, hb8⟩; have S8 := (S7.out).ch hb8; clear y0 y1 y2 y3 yl; obtain ⟨y0, y1, y2, y3, yl⟩ := S8.cells; have S8 := Lib.hid S8; have XL := Lib.hid (XL.out.below hb8); have XO := Lib.hid (XO.out.below hb8); have XR := Lib.hid (XR.out.below hb8); clear hb8)
          | (go_at_call 17; (with_reducible refine (ltold _).mono ?_); rintro e wT ⟨rfl, hbT⟩))
        · go_ret
          exact ⟨rfl, S1.out.below.ch2 hbT⟩
        have hX := HX.out
        have hY := HY.out
        have n1 : (0 : Int) ≤ (X : Int) := by omega
        have n2 : (0 : Int) ≤ (Y : Int) := by omega
        have i1 : (X : Int) < (O.length : Int) := by omega
        have i2 : (Y : Int) < (O.length : Int) := by omega
        have vb8 : vb < w8.heap.size := by
          obtain ⟨_, _, h1, h3, _⟩ := IntsAt.get XO.out hX
          cases h1
          exact h3
        have k1 : w8.cell? ⟨vb, vo + X, none⟩ = some (.int .i64 V) := by
          obtain ⟨_, _, h1, _, h2⟩ := IntsAt.get XO.out hX
          cases h1
          rw [h2, HV.out]
        have k2 : w8.cell? ⟨vb, vo + Y, none⟩ = some (.int .i64 V) := by
          obtain ⟨_, _, h1, _, h2⟩ := IntsAt.get XO.out hY
          cases h1
          rw [h2, HV2.out]
        have e5 : (V == V) = true := by simp
        have SS := S8
        apply SLG.rule0 ?hm1 [] [126, 127, 128, 129, 130, 131, 132, 133, 134, 135, 136, 137, 138, 139, 140, 141, 142, 143, 144, 145, 146, 147, 148, 149, 8] [SL.pu 126 [] (.bool true), SLF.pq 127 [0] (.bool true), SLF.pq 128 [1] (.bool true), SLF.pq 129 [1, 2] (.bool true), SLF.pq 130 [3] (.bool true), SLF.pq 131 [4] (.int .i64 0), SLF.pq 132 [4, 5] (.bool true), SLF.pq 133 [4, 6] (.bool true), SLF.pq 134 [7] (.bool true), SLF.pq 135 [8] (.slice (some ⟨vb, vo, none⟩) O.length vk), SLF.pq 136 [8] (.int .i64 X), SLF.pq 137 [8, 9, 10] (.pointer (some ⟨vb, vo + X, none⟩)), SLF.pq 138 [8, 11] (.int .i64 V), SLF.pq 139 [8] (.slice (some ⟨vb, vo, none⟩) O.length vk), SLF.pq 140 [8] (.int .i64 Y), SLF.pq 141 [8, 13, 14] (.pointer (some ⟨vb, vo + Y, none⟩)), SLF.pq 142 [8, 15] (.int .i64 V), SLF.pq 143 [8, 12, 16] (.bool true), SLF.pq 144 [8, 17] (.bool true), SLF.pq 145 [18] (.bool true), SLF.pq 146 [19] (.slice ra 0 rk), SLF.pq 147 [19, 20] (.int .i64 0), SLF.pq 148 [19, 21] (.bool true), SLF.pq 149 [19, 22] (.bool true), SLF.pq 8 [23] (.bool true)] [24] ?hck1 ?hkp1 (fun _ => []) ?hin1 ?hdj1 ?hfr1 ?ob1 ?en1
        case hm1 => kernel_rfl
        case hin1 => exact SL.none_held rfl
        case hdj1 => simp
        case hfr1 => intro us; simp only [SL.frame, SL.put']; simp; exact rfl
        case ob1 =>
          refine ⟨?_, ?_, ?_, ?_, ?_, ?_, ?_, ?_, ?_, ?_, ?_, ?_, ?_, ?_, ?_, ?_, ?_, ?_, ?_, ?_, ?_, ?_, ?_, ?_, ?_, trivial⟩
          iterate 1 rotate_left
          iterate 24
            focus
              as_aux_lemma =>
                intro us w' Fe hG hu hd hv Kx hK
                try dsimp only
                simp [SL.Used, SL.pu, SL.row, SL.box, SL.rowIn, SL.boxIn, SL.boxAt, SL.boxAtIn, SLF.pq, Act.put, SL.aw_sub, SL.aw_use, SL.aw_eat, SL.aw_V, SL.aw_quiet] at hu hK
                have hB5 : Below w8.heap.size w8 w' := hG.below'
                obtain ⟨hc5, hf5⟩ := bcell hB5
                have hs5 := hB5.size
                clear hv hG
                first
                  | (refine SLF.wpo_do (SLF.wanted_free rfl) ?hd1 ?_; (case hd1 => intro c h; cases h))
                  | (refine SLF.wpo_do (SLF.wanted_by rfl rfl ?hv1) ?hd1 ?_; (case hv1 => simp [hu]; done); (case hd1 => intro c h; cases h))
                  | (refine' SLF.wpo_not (SLG.wanted_not rfl rfl ?hv1 ?hn1) ?_; (case hv1 => simp [hu]; exact rfl); (case hn1 => first | (simp; done) | (simp [undef]; done)))
                clear hd
                first
                  | (go_step; exact hK _ _ _ (SL.Chg.refl _ _) (by first | exact rfl | (simp only [hu]; exact rfl) | exact hu | exact hu.1 | exact hu.2 | exact hu.2.1 | exact hu.2.2 | exact hu.2.2.1 | exact hu.2.2.2 | (simp [hu]; done)) rfl (by simp) rfl)
                  | exact hK _ _ _ (SL.Chg.refl _ _) (by first | exact rfl | exact hu | exact hu.1 | exact hu.2 | exact hu.2.1 | exact hu.2.2 | exact hu.2.2.1 | exact hu.2.2.2 | (simp [hu]; done)) rfl (by simp) rfl
          · as_aux_lemma =>
            refine SLG.ob_sp rfl rfl rfl fun us w' Fe hG hu hd Kx hK => ?_
            try dsimp only
            simp [SL.Used, SL.pu, SL.row, SL.box, SL.rowIn, SL.boxIn, SL.boxAt, SL.boxAtIn, SLF.pq, Act.put, SL.aw_sub, SL.aw_use, SL.aw_eat, SL.aw_V, SL.aw_quiet] at hu
            have hB5 : Below w8.heap.size w8 w' := hG.below'
            obtain ⟨hc5, hf5⟩ := bcell hB5
            have hs5 := hB5.size
            refine SLF.wpo_do (SLF.wanted_free rfl) ?hd1 ?_
            case hd1 => intro c h; cases h
            go_step
            refine (ltold _).mono ?_
            rintro e w6 ⟨rfl, hb6⟩
            exact hK _ _ w6 [] (by simp [Act.put]; done) (.of_below hb6) ⟨rfl, rfl⟩ (fun j hj => by cases hj)
        case hck1 => kernel_rfl
        case hkp1 => kernel_rfl
        intro us wE Fs hG hu hbd hd
        simp [SL.Used, SL.aw_sub, SLF.pq] at hu
        have hBE := SS.out.below.ch2 hG.below'
        clear hbd hd hG
        go_wp2_with fail
        refine bodyPost_ret (v := .bool true) (by simp [results, Tryz.results9, go_sem, *]) rfl ⟨rfl, hBE⟩
    · have b0 : (E2 == 0) = false := by simpa using h0
      simp only [decide_eq_false h0, Bool.false_and] at hJ hB
      obtain rfl := hJ
      obtain rfl := hB
      obtain rfl := hO1 rfl
      obtain rfl := hO2 rfl
      clear hO1 hO2 hY1 hY2 hk0 h0 gA gB gJ
      go_enter Tryz.func9, Tryz.ntmps9
      go_wp2_with (first
        | (go_at_call 16; (with_reducible refine (fFew _ S0.out.c1).mono ?_); rintro e w1 ⟨b, rfl, hb1⟩; have S1 := (S0.out).ch hb1; clear y0 y1 y2 y3 yl; obtain ⟨y0, y1, y2, y3, yl⟩ := S1.cells; have S1 := Lib.hid S1; have XL := Lib.hid (XL.out.below hb1); cases b; clear hb1)
        | (go_at_call 35; (with_reducible refine (fJ _ S1.out.c1).mono ?_); rintro e w2 ⟨va, vk, rfl, hb2, ho, _⟩; have S2 := (S1.out).ch hb2; clear y0 y1 y2 y3 yl; obtain ⟨y0, y1, y2, y3, yl⟩ := S2.cells; have S2 := Lib.hid S2; have XL := Lib.hid (XL.out.below hb2); have XO := Lib.hid (ho); clear ho; clear hb2)
        | (go_at_call 36; (with_reducible refine (fB _ S2.out.c1).mono ?_); rintro e w3 ⟨ra, rk, rfl, hb3, hr, _⟩; have S3 := (S2.out).ch hb3; clear y0 y1 y2 y3 yl; obtain ⟨y0, y1, y2, y3, yl⟩ := S3.cells; have S3 := Lib.hid S3; have XL := Lib.hid (XL.out.below hb3); have XO := Lib.hid (XO.out.below hb3); have XR := Lib.hid (hr); clear hr; clear hb3)
        | (go_at_call 37; (with_reducible refine (fC _ S3.out.c1 XL.out (by have := HM.out; omega)).mono ?_); rintro e w4 ⟨rfl, hb4⟩; have S4 := (S3.out).ch hb4; clear y0 y1 y2 y3 yl; obtain ⟨y0, y1, y2, y3, yl⟩ := S4.cells; have S4 := Lib.hid S4; have XL := Lib.hid (XL.out.below hb4); have XO := Lib.hid (XO.out.below hb4); have XR := Lib.hid (XR.out.below hb4); clear hb4)
        | (go_at_call 38; (with_reducible refine (gC _ S4.out.c1 XL.out (by have := HM.out; omega)).mono ?_); rintro e w5 ⟨rfl, hb5⟩; have S5 := (S4.out).ch hb5; clear y0 y1 y2 y3 yl; obtain ⟨y0, y1, y2, y3, yl⟩ := S5.cells; have S5 := Lib.hid S5; have XL := Lib.hid (XL.out.below hb5); have XO := Lib.hid (XO.out.below hb5); have XR := Lib.hid (XR.out.below hb5); clear hb5)
        | (go_at_call 39; (with_reducible refine (gT _ S5.out.c1).mono ?_); rintro e w6 ⟨rfl, hb6⟩; have S6 := (S5.out).ch hb6; clear y0 y1 y2 y3 yl; obtain ⟨y0, y1, y2, y3, yl⟩ := S6.cells; have S6 := Lib.hid S6; have XL := Lib.hid (XL.out.below hb6); have XO := Lib.hid (XO.out.below hb6); have XR := Lib.hid (XR.out.below hb6); clear hb6)
        | (go_at_call 17; (with_reducible refine (ltold _).mono ?_); rintro e w7 ⟨rfl, hb7⟩; have S7 := (S6.out).ch hb7; clear y0 y1 y2 y3 yl; obtain ⟨y0, y1, y2, y3, yl⟩ := S7.cells; have S7 := Lib.hid S7; have XL := Lib.hid (XL.out.below hb7); have XO := Lib.hid (XO.out.below hb7); have XR := Lib.hid (XR.out.below hb7); clear hb7)
        | (go_at_call 17; (with_reducible refine (ltold _).mono ?_); rintro e wT ⟨rfl, hbT⟩))
      all_goals go_ret
      all_goals first
        | exact ⟨rfl, S7.out.below⟩
        | exact ⟨rfl, S1.out.below.ch2 hbT⟩
  · have q1' : decide ((60 : Int) < (m : Int)) = true := by simp; omega
    clear hO1 hO2 hY1 hY2 hk0 hJ hB
    go_enter Tryz.func9, Tryz.ntmps9
    go_wp2_with (first
      | (go_at_call 16; (with_reducible refine (fFew _ S0.out.c1).mono ?_); rintro e w1 ⟨b, rfl, hb1⟩; have S1 := (S0.out).ch hb1; clear y0 y1 y2 y3 yl; obtain ⟨y0, y1, y2, y3, yl⟩ := S1.cells; have S1 := Lib.hid S1; have XL := Lib.hid (XL.out.below hb1); cases b; clear hb1)
      | (go_at_call 17; (with_reducible refine (ltold _).mono ?_); rintro e wT ⟨rfl, hbT⟩))
    all_goals go_ret
    all_goals first
      | exact ⟨rfl, S1.out.below.ch2 hbT⟩
end Go.Proofs.YtodkbfbbpfghiaaGreat
namespace Go.Proofs.YtodkbfbbpfghiaaGreat
open Go.ChangeShapes Go.WideShapes Go.ChangeAt Go.RowKit Go.Joins Go.Deep
set_option maxRecDepth 100000 in
theorem wholeJoints_lifted (os : Os) (started : os.Started) (H : Type) (enc : TypeId × Value → H) :
    ReturnsInHanded {} Tryz.checked os 9 .any (Rows.wholeJointsSpec.pre6 enc Tryz.prog Tryz.f9 Rows.wholeJointsRow.domain false) (Rows.wholeJointsSpec.post enc Tryz.prog Tryz.f9 false true false false) := by
  refine returnsInHanded_of_change_sized (C := Tryz.checked) Tryz.own started (by kernel_rfl) Tryz.func9
    (ChangeSpec.witness6 (enc := enc) (C := Tryz.checked) false ⟨#[], #[.agg #[.string ⟨#[]⟩, .int .i64 0, .int .i64 0, .slice none 0 0], .int .i64 0, .int .i64 0, .slice none 0 0], []⟩ 8 (by kernel_rfl) (by kernel_rfl) (by kernel_rfl) (by kernel_rfl)) ?_
  intro W base args ds gs before hval0 hW _ hsz0 _
  have hsz : (DataW.weightsEach Tryz.prog (Tryz.f9.params.toList ++ Rows.wholeJointsSpec.plain.varTypes Tryz.prog) (ds ++ gs)).all (· ≤ reachBytes) = true := hsz0
  clear hsz0
  have hval : ∀ (j : Nat) t v, Tryz.f9.params[j]? = some t → args[j]? = some v → Value.okWide Tryz.prog W .any base t v := hval0
  have hW' := hW
  obtain ⟨p, q, hA0, hV, rfl, _, _⟩ := hW
  have hA : DataW.TrodAll enc Tryz.prog W 0 (fun _ => true) true Tryz.f9.params.toList args.toList ds p := hA0
  rw [Tryz.params9] at hA hval hsz
  obtain ⟨v0, vs0, d0, ds0, p0, q0, hargs, rfl, rfl, h0, r0⟩ := trodAll_cons hA
  obtain ⟨v1, vs1, d1, ds1, p1, q1, rfl, rfl, rfl, h1, r1⟩ := trodAll_cons r0
  obtain ⟨v2, vs2, d2, ds2, p2, q2, rfl, rfl, rfl, h2, r2⟩ := trodAll_cons r1
  obtain ⟨v3, vs3, d3, ds3, p3, q3, rfl, rfl, rfl, h3, r3⟩ := trodAll_cons r2
  obtain ⟨rfl, rfl, rfl⟩ := trodAll_nil r3
  obtain rfl : args = #[v0, v1, v2, v3] := by cases args; simp_all
  obtain ⟨rfl, rfl⟩ := trodVars_none hV
  clear hA0 hval0
  have hlt : ∀ x ∈ p0 ++ p1 ++ p2 ++ p3, x.block < W.heap.size := fun x hx => by have := hW'.lt x (by simpa using hx); simpa using this
  obtain ⟨c0, rfl, hb0, hn0⟩ := case_open (hval 0 24 v0 rfl rfl) h0 (fun n hn => by
    have := List.all_eq_true.1 hsz _ (DataW.weights_mem_each (j := 0) rfl rfl n hn)
    simpa using this)
  obtain ⟨x1, rfl⟩ := okWide_int Tryz.underlying3 (hval 1 3 v1 rfl rfl)
  obtain ⟨x2, rfl⟩ := okWide_int Tryz.underlying3 (hval 2 3 v2 rfl rfl)
  obtain ⟨a3, n3, k3, xs3, rfl, hb3, hn3⟩ := ints_open (hval 3 34 v3 rfl rfl) h3 (fun n hn => by
    have := List.all_eq_true.1 hsz _ (DataW.weights_mem_each (j := 3) rfl rfl n hn)
    simpa using this)
  refine (law_joints c0 x1 x2 a3 n3 k3 xs3 W hb0 hn0 hb3 hn3).mono fun e W' ⟨he, hw⟩ => ?_
  subst he
  exact ⟨_, rfl, ⟨_, _, _, [], _, [], hW', trodAll_mk1 (shut_bool Tryz.underlying4 _), (trodAll_cons_mk (Below.trod Tryz.laidOut (by kernel_rfl) (of_decide_eq_true (by kernel_rfl)) h0 hw (fun x hx => hlt x (by simp [hx]))) (trodAll_cons_mk (Below.trod Tryz.laidOut (by kernel_rfl) (of_decide_eq_true (by kernel_rfl)) h1 hw (fun x hx => hlt x (by simp [hx]))) (trodAll_cons_mk (Below.trod Tryz.laidOut (by kernel_rfl) (of_decide_eq_true (by kernel_rfl)) h2 hw (fun x hx => hlt x (by simp [hx]))) (trodAll_cons_mk (Below.trod Tryz.laidOut (by kernel_rfl) (of_decide_eq_true (by kernel_rfl)) h3 hw (fun x hx => hlt x (by simp [hx]))) trodAll_mk0)))), rfl, hw.frame _, fun h => by cases h⟩⟩
theorem wholeJoints_holds : Rows.WholeJointsSaid :=
  OpenClaim.holds_of_wide 9 Tryz.f9 rfl rfl rfl rfl rfl rfl rfl ⟨rfl, rfl, rfl, rfl, rfl⟩ rfl rfl rfl rfl rfl (by kernel_rfl) Tryz.func9 (by kernel_rfl)
    (of_decide_eq_true (by kernel_rfl)) (by unfold Func.isWrapper; rw [if_neg (of_decide_eq_false (by kernel_rfl))]; exact ⟨rfl, rfl⟩)
    (fun os started H enc _ => wholeJoints_lifted os started H enc)
#print axioms wholeJoints_holds
end Go.Proofs.YtodkbfbbpfghiaaGreat
