/-
  The law Assigns, walked, and its statement.
-/
import Derived.Test.YtodkbfbbpfghiaaGreatPb29
import Derived.Test.YtodkbfbbpfghiaaGreatPb24
import Derived.Test.YtodkbfbbpfghiaaGreatPb28
import Derived.Test.YtodkbfbbpfghiaaGreatPb14
import Derived.Test.YtodkbfbbpfghiaaGreatRows
import Derived.OpenShut
set_option linter.unusedSimpArgs false
set_option linter.unusedVariables false
set_option linter.unnecessarySimpa false
namespace Go.Proofs.YtodkbfbbpfghiaaGreat
open Go.RowKit Go.Shelf Go.Lib
set_option maxHeartbeats 8000000
set_option maxRecDepth 100000
theorem colT_eq {c : Cs} {v : List Int} (h : c.colE v = 0) : c.colT v (vesL v).toNat = colN c.s v (vesL v).toNat := by
  have hk : c.chk = 0 ∧ c.asg v = true := by
    unfold Cs.colE at h
    split at h
    · rename_i h0
      refine ⟨h0, ?_⟩
      cases ha : c.asg v
      · rw [ha] at h; simp at h
      · rfl
    · rename_i h0; exact absurd h h0
  obtain ⟨h0, ha⟩ := hk
  obtain ⟨_, hok, hsl⟩ := (Cs.chk_zero.1 h0).many'
  unfold Cs.asg at ha
  cases hm : asgM c.s v with
  | none => rw [hm] at ha; simp at ha
  | some m =>
    obtain ⟨h1, h2, _⟩ := asgM_some hm
    unfold Cs.colT colN
    refine List.map_congr_left fun i _ => ?_
    have hin : ∀ x ∈ ofV v i v.length, 0 ≤ x ∧ x < c.ps.length := fun x hx => by have := pickL_mem hx; omega
    have hpw : (natL (ofV v i v.length)).Pairwise (· < ·) := by rw [natL_of]; exact List.pairwise_lt_range.filter _
    have hvi : ∀ a ∈ natL (ofV v i v.length), a < v.length ∧ v.getD a 0 = i := fun a hx => by
      rw [natL_of] at hx
      unfold grpN at hx
      obtain ⟨k1, k2⟩ := List.mem_filter.1 hx
      exact ⟨List.mem_range.1 k1, by simpa using k2⟩
    have hone : oneB c.s (natL (ofV v i v.length)) = true := oneB_iff.2 fun p k hkp hp => by
      have e1 : (natL (ofV v i v.length)).getD p 0 = (natL (ofV v i v.length))[p] := by simp [List.getD_eq_getElem?_getD, hp]
      have e2 : (natL (ofV v i v.length)).getD k 0 = (natL (ofV v i v.length))[k] := by simp [List.getD_eq_getElem?_getD, show k < (natL (ofV v i v.length)).length by omega]
      have a1 := hvi _ (List.getElem_mem hp)
      have a2 := hvi _ (List.getElem_mem (show k < (natL (ofV v i v.length)).length by omega))
      have a3 := List.pairwise_iff_getElem.1 hpw k p (by omega) hp hkp
      rw [e1, e2, clB_comm]
      exact noClB_iff.1 h2 _ _ a3 a1.1 (by rw [a1.2, a2.2])
    rw [oneB_law hok fun a hx => by have := (hvi a hx).1; omega] at hone
    simp only [Bool.and_eq_true, decide_eq_true_eq] at hone
    unfold Cs.com
    rw [if_pos ⟨c.ask_of h0 hin, hone.1⟩]
theorem law_assigns (c : Cs) (n : Int) (al : Option Addr) (m cl : Nat) (v : List Int) (w : World) (hc : CsAt w c) (hcr : c.ps.length ≤ c.cap) (hl : IntsAt w al m cl v) (hroom : v.length ≤ cl) :
    Calls Tryz.prog 14 #[c.v, .int .i64 n, .slice al m cl] w fun e w' => e = .returned (.bool true) ∧ Below w.heap.size w w' := by
  have fFew := fun W (h : CsAt W c) => lfew c W h
  unfold BoolAny at fFew
  have fA := fun W (h : CsAt W c) => wAssign c n W h
  have fC := fun W (h : CsAt W c) (h2 : IntsAt W al m cl v) h3 => wCheckAssign c al m cl v W h h2 h3
  have gC := fun W (h : CsAt W c) (h2 : IntsAt W al m cl v) => r6CheckAssign c al m cl v W h h2
  have fK := fun W (h : CsAt W c) (h2 : IntsAt W al m cl v) h3 => wColours c al m cl v W h h2 h3
  have gK : ∀ W (h : CsAt W c) (h2 : IntsAt W al m cl v), Calls Tryz.prog 62 #[c.v, .slice al m cl] W fun e w' => ∃ x, e = .returned (.tuple #[x, .int .i64 (c.colE v)]) ∧ Below W.heap.size W w' ∧ w'.ownsRow W.heap.size 33 2 x (c.colL v (vesL v).toNat).length (rcs (c.colL v (vesL v).toNat)) := fun W h h2 => by
    refine (r6Colours c al m cl v W h h2).mono ?_
    rintro e w' ⟨x, rs, hrs, he, hb, ho⟩
    have hx : rs = c.colL v (vesL v).toNat := by
      rw [hrs]
      unfold Cs.colL
      split
      · rename_i h0; exact colT_eq h0
      · rfl
    rw [hx] at ho
    exact ⟨x, he, hb, ho⟩
  have gN := fun W (h : CsAt W c) => r6Numbers c W h
  have gL := fun W (h : CsAt W c) a m k (h2 : IntsAt W a m k (c.asgO n).1) => r6CheckAssign c a m k (c.asgO n).1 W h h2
  have gV := fun W a k (h : IntsAt W a (c.asgO n).1.length k (c.asgO n).1) hr => r6Vessels a _ k (c.asgO n).1 W h hr
  unfold IntBPost at fA
  unfold RngPost at fK
  have hcl : (c.colL v (vesL v).toNat).length ≤ 100000 := by
    unfold Cs.colL
    split
    · rename_i h0
      obtain ⟨_, m2, _, h3⟩ : ∃ _ : c.chk = 0, ∃ m, ∃ _ : asgM c.s v = some m, (c.chk = 0 ∧ (m : Int) ≤ c.s.length) := by
        unfold Cs.colE at h0
        split at h0
        · rename_i k0
          have ha : c.asg v = true := by
            cases ha : c.asg v
            · rw [ha] at h0; simp at h0
            · rfl
          unfold Cs.asg at ha
          cases hm : asgM c.s v with
          | none => rw [hm] at ha; simp at ha
          | some m =>
            obtain ⟨a1, a2, a3⟩ := asgM_some hm
            have := rgO_len a3
            exact ⟨k0, m, rfl, k0, by omega⟩
        · rename_i k0; exact absurd h0 k0
      rename_i hm2
      have hv := rgO_ves (asgM_some hm2).2.2
      have hmm := (Cs.chk_zero.1 h3.1).many'
      unfold colN
      rw [List.length_map, List.length_range, hv]
      omega
    · simp
  have hO : (c.asgO n).2 = false → (c.asgO n).1 = [] := by unfold Cs.asgO; split <;> simp
  have hOT : (c.asgO n).2 = true → c.asg (c.asgO n).1 = true ∧ vesL (c.asgO n).1 = n ∧ ∀ x ∈ (c.asgO n).1, -1000000000 ≤ x ∧ x ≤ 1000000000 := by
    unfold Cs.asgO
    split
    · rename_i h
      intro _
      obtain ⟨hm, hok, hsl⟩ := (Cs.chk_zero.1 h.1).many'
      have hmo : c.most ≤ c.ps.length := by unfold Cs.most; split <;> omega
      obtain ⟨k1, k2⟩ := asgL_ok hok h.2.1 (by omega)
      refine ⟨?_, k2, fun x hx => ?_⟩
      · unfold Cs.asg
        rw [k1, h.1]
        have h3 := h.2.2
        unfold Cs.most at h3
        have hli := (Cs.chk_zero.1 h.1).lim
        simp only [decide_true, Bool.true_and, Bool.or_eq_true, decide_eq_true_eq]
        split at h3 <;> omega
      · have h4 := (rgO_spec (asgM_some k1).2.2).2.1 x hx
        omega
    · simp
  have hIS : (c.asgO n).2 = (decide (c.chk = 0) && c.num.2 && decide (c.num.1.1 ≤ n) && decide (n ≤ c.num.1.2)) := by
    unfold Cs.asgO Cs.num
    by_cases h0 : c.chk = 0
    · by_cases h1 : (leastN c.s : Int) ≤ c.most
      · rw [if_pos (show c.chk = 0 ∧ (leastN c.s : Int) ≤ c.most from ⟨h0, h1⟩)]
        split <;> simp <;> omega
      · rw [if_neg (show ¬ (c.chk = 0 ∧ (leastN c.s : Int) ≤ c.most) by omega), if_neg (by omega)]
        simp
    · rw [if_neg (show ¬ (c.chk = 0 ∧ (leastN c.s : Int) ≤ n ∧ n ≤ c.most) by omega)]
      simp [h0]
  have hOl : (c.asgO n).1.length ≤ 100000 := by
    unfold Cs.asgO
    split
    · rename_i h
      obtain ⟨hm, _, _⟩ := (Cs.chk_zero.1 h.1).many'
      simp only [asgL_len]
      omega
    · simp
  have hm := hl.len
  simp only [Cs.v] at fFew fA fC gC fK gK gN gL ⊢
  generalize c.colL v (vesL v).toNat = RL at *
  generalize c.colE v = E2 at *
  generalize c.asg v = B1 at *
  generalize c.asg (c.asgO n).1 = B2 at *
  generalize c.asgO n = AO at *
  obtain ⟨O, IS⟩ := AO
  generalize c.num = NM at *
  obtain ⟨⟨NL, NH⟩, NS⟩ := NM
  generalize c.chk = E at *
  simp only at fA gN gL gV hO hOT hIS hOl
  have e1 : (B1 != B1) = false := by simp
  have e2 : (E != E) = false := by simp
  have e3 : (E2 != E2) = false := by simp
  have HM := Lib.hid hm
  have HRL := Lib.hid hcl
  have HOl := Lib.hid hOl
  have XL0 := hl.below (one_alloc w (Obj.cells #[.string c.ware, .int .i64 c.lim, .int .i64 c.byr, .slice c.a c.ps.length c.cap] 24))
  have XL := Lib.hid XL0
  have HV := Lib.hid gV
  clear hl hcl hm hOl XL0 gV
  have S0 := LS.start w hc
  obtain ⟨y0, y1, y2, y3, yl⟩ := S0.cells
  have S0 := Lib.hid S0
  by_cases q1 : m ≤ 60
  · have q1' : decide ((60 : Int) < (m : Int)) = false := by simp; omega
    cases IS with
    | true =>
      obtain ⟨rfl, rfl, hr⟩ := hOT rfl
      have HR := Lib.hid hr
      have h4 := hIS.symm
      simp only [Bool.and_eq_true, decide_eq_true_eq] at h4
      obtain ⟨⟨⟨rfl, rfl⟩, h5⟩, h6⟩ := h4
      have i1 : decide (NL ≤ vesL O) = true := by simpa using h5
      have i2 : decide (vesL O ≤ NH) = true := by simpa using h6
      clear hr hO hOT hIS h5 h6
      go_enter Tryz.func14, Tryz.ntmps14
      go_wp2_with (first
        | (go_at_call 16; (with_reducible refine (fFew _ S0.out.c1).mono ?_); rintro e w1 ⟨b, rfl, hb1⟩; have S1 := (S0.out).ch hb1; clear y0 y1 y2 y3 yl; obtain ⟨y0, y1, y2, y3, yl⟩ := S1.cells; have S1 := Lib.hid S1; have XL := Lib.hid (XL.out.below hb1); cases b; clear hb1)
        | (go_at_call 60; (with_reducible refine (fA _ S1.out.c1).mono ?_); rintro e w2 ⟨oa, ok, rfl, hb2, ho, _⟩; have S2 := (S1.out).ch hb2; clear y0 y1 y2 y3 yl; obtain ⟨y0, y1, y2, y3, yl⟩ := S2.cells; have S2 := Lib.hid S2; have XL := Lib.hid (XL.out.below hb2); have XO := Lib.hid (ho); clear ho; clear hb2)
        | (go_at_call 34; (with_reducible refine (fC _ S2.out.c1 XL.out (by have := HM.out; omega)).mono ?_); rintro e w3 ⟨rfl, hb3⟩; have S3 := (S2.out).ch hb3; clear y0 y1 y2 y3 yl; obtain ⟨y0, y1, y2, y3, yl⟩ := S3.cells; have S3 := Lib.hid S3; have XL := Lib.hid (XL.out.below hb3); have XO := Lib.hid (XO.out.below hb3); clear hb3)
        | (go_at_call 41; (with_reducible refine (gC _ S3.out.c1 XL.out).mono ?_); rintro e w4 ⟨rfl, hb4⟩; have S4 := (S3.out).ch hb4; clear y0 y1 y2 y3 yl; obtain ⟨y0, y1, y2, y3, yl⟩ := S4.cells; have S4 := Lib.hid S4; have XL := Lib.hid (XL.out.below hb4); have XO := Lib.hid (XO.out.below hb4); clear hb4)
        | (go_at_call 61; (with_reducible refine (fK _ S4.out.c1 XL.out (by have := HM.out; omega)).mono ?_); rintro e w5 ⟨sa, sk, rfl, hb5, hs⟩; have S5 := (S4.out).ch hb5; clear y0 y1 y2 y3 yl; obtain ⟨y0, y1, y2, y3, yl⟩ := S5.cells; have S5 := Lib.hid S5; have XL := Lib.hid (XL.out.below hb5); have XO := Lib.hid (XO.out.below hb5); have XS := Lib.hid (hs); clear hs; clear hb5)
        | (go_at_call 62; (with_reducible refine (gK _ S5.out.c1 XL.out).mono ?_); rintro e w6 ⟨v6, rfl, hb6, ho6⟩; obtain ⟨ta, tk, rfl, _⟩ := owns_slice ho6; have S6 := (S5.out).ch hb6; clear y0 y1 y2 y3 yl; obtain ⟨y0, y1, y2, y3, yl⟩ := S6.cells; have S6 := Lib.hid S6; have XL := Lib.hid (XL.out.below hb6); have XO := Lib.hid (XO.out.below hb6); have XS := Lib.hid (XS.out.below hb6); have XT := Lib.hid (RngsAt.of_owns ho6 (by have := HRL.out; omega)); clear ho6; clear hb6)
        | (go_at_call 45; (with_reducible refine (gN _ S6.out.c1).mono ?_); rintro e w7 ⟨rfl, hb7⟩; have S7 := (S6.out).ch hb7; clear y0 y1 y2 y3 yl; obtain ⟨y0, y1, y2, y3, yl⟩ := S7.cells; have S7 := Lib.hid S7; have XL := Lib.hid (XL.out.below hb7); have XO := Lib.hid (XO.out.below hb7); have XS := Lib.hid (XS.out.below hb7); have XT := Lib.hid (XT.out.below hb7); clear hb7)
        | (go_at_call 63; (with_reducible refine (r6sameRanges _ _ _ _ _ _ RL _ XS.out XT.out).mono ?_); rintro e w8 ⟨rfl, hb8⟩; have S8 := (S7.out).ch hb8; clear y0 y1 y2 y3 yl; obtain ⟨y0, y1, y2, y3, yl⟩ := S8.cells; have S8 := Lib.hid S8; have XL := Lib.hid (XL.out.below hb8); have XO := Lib.hid (XO.out.below hb8); have XS := Lib.hid (XS.out.below hb8); have XT := Lib.hid (XT.out.below hb8); clear hb8)
        | (go_at_call 41; (with_reducible refine (gL _ S8.out.c1 _ _ _ XO.out).mono ?_); rintro e w9 ⟨rfl, hb9⟩; have S9 := (S8.out).ch hb9; clear y0 y1 y2 y3 yl; obtain ⟨y0, y1, y2, y3, yl⟩ := S9.cells; have S9 := Lib.hid S9; have XL := Lib.hid (XL.out.below hb9); have XO := Lib.hid (XO.out.below hb9); have XS := Lib.hid (XS.out.below hb9); have XT := Lib.hid (XT.out.below hb9); clear hb9)
        | (go_at_call 17; (with_reducible refine (ltold _).mono ?_); rintro e w10 ⟨rfl, hb10⟩; have S10 := (S9.out).ch hb10; clear y0 y1 y2 y3 yl; obtain ⟨y0, y1, y2, y3, yl⟩ := S10.cells; have S10 := Lib.hid S10; have XL := Lib.hid (XL.out.below hb10); have XO := Lib.hid (XO.out.below hb10); have XS := Lib.hid (XS.out.below hb10); have XT := Lib.hid (XT.out.below hb10); clear hb10)
        | (go_at_call 64; (with_reducible refine (HV.out _ _ _ XO.out HR.out).mono ?_); rintro e w11 ⟨rfl, hb11⟩; have S11 := (S10.out).ch hb11; clear y0 y1 y2 y3 yl; obtain ⟨y0, y1, y2, y3, yl⟩ := S11.cells; have S11 := Lib.hid S11; have XL := Lib.hid (XL.out.below hb11); have XO := Lib.hid (XO.out.below hb11); have XS := Lib.hid (XS.out.below hb11); have XT := Lib.hid (XT.out.below hb11); clear hb11)
        | (go_at_call 17; (with_reducible refine (ltold _).mono ?_); rintro e wT ⟨rfl, hbT⟩))
      all_goals go_ret
      all_goals first
        | exact ⟨rfl, S11.out.below⟩
        | exact ⟨rfl, S1.out.below.ch2 hbT⟩
    | false =>
      obtain rfl := hO rfl
      clear hOT hO
      by_cases h0 : E = 0
      · subst h0
        simp only [decide_true, Bool.true_and] at hIS
        cases NS with
        | false =>
          clear hIS
          go_enter Tryz.func14, Tryz.ntmps14
          go_wp2_with (first
            | (go_at_call 16; (with_reducible refine (fFew _ S0.out.c1).mono ?_); rintro e w1 ⟨b, rfl, hb1⟩; have S1 := (S0.out).ch hb1; clear y0 y1 y2 y3 yl; obtain ⟨y0, y1, y2, y3, yl⟩ := S1.cells; have S1 := Lib.hid S1; have XL := Lib.hid (XL.out.below hb1); cases b; clear hb1)
            | (go_at_call 60; (with_reducible refine (fA _ S1.out.c1).mono ?_); rintro e w2 ⟨oa, ok, rfl, hb2, ho, _⟩; have S2 := (S1.out).ch hb2; clear y0 y1 y2 y3 yl; obtain ⟨y0, y1, y2, y3, yl⟩ := S2.cells; have S2 := Lib.hid S2; have XL := Lib.hid (XL.out.below hb2); have XO := Lib.hid (ho); clear ho; clear hb2)
            | (go_at_call 34; (with_reducible refine (fC _ S2.out.c1 XL.out (by have := HM.out; omega)).mono ?_); rintro e w3 ⟨rfl, hb3⟩; have S3 := (S2.out).ch hb3; clear y0 y1 y2 y3 yl; obtain ⟨y0, y1, y2, y3, yl⟩ := S3.cells; have S3 := Lib.hid S3; have XL := Lib.hid (XL.out.below hb3); have XO := Lib.hid (XO.out.below hb3); clear hb3)
            | (go_at_call 41; (with_reducible refine (gC _ S3.out.c1 XL.out).mono ?_); rintro e w4 ⟨rfl, hb4⟩; have S4 := (S3.out).ch hb4; clear y0 y1 y2 y3 yl; obtain ⟨y0, y1, y2, y3, yl⟩ := S4.cells; have S4 := Lib.hid S4; have XL := Lib.hid (XL.out.below hb4); have XO := Lib.hid (XO.out.below hb4); clear hb4)
            | (go_at_call 61; (with_reducible refine (fK _ S4.out.c1 XL.out (by have := HM.out; omega)).mono ?_); rintro e w5 ⟨sa, sk, rfl, hb5, hs⟩; have S5 := (S4.out).ch hb5; clear y0 y1 y2 y3 yl; obtain ⟨y0, y1, y2, y3, yl⟩ := S5.cells; have S5 := Lib.hid S5; have XL := Lib.hid (XL.out.below hb5); have XO := Lib.hid (XO.out.below hb5); have XS := Lib.hid (hs); clear hs; clear hb5)
            | (go_at_call 62; (with_reducible refine (gK _ S5.out.c1 XL.out).mono ?_); rintro e w6 ⟨v6, rfl, hb6, ho6⟩; obtain ⟨ta, tk, rfl, _⟩ := owns_slice ho6; have S6 := (S5.out).ch hb6; clear y0 y1 y2 y3 yl; obtain ⟨y0, y1, y2, y3, yl⟩ := S6.cells; have S6 := Lib.hid S6; have XL := Lib.hid (XL.out.below hb6); have XO := Lib.hid (XO.out.below hb6); have XS := Lib.hid (XS.out.below hb6); have XT := Lib.hid (RngsAt.of_owns ho6 (by have := HRL.out; omega)); clear ho6; clear hb6)
            | (go_at_call 45; (with_reducible refine (gN _ S6.out.c1).mono ?_); rintro e w7 ⟨rfl, hb7⟩; have S7 := (S6.out).ch hb7; clear y0 y1 y2 y3 yl; obtain ⟨y0, y1, y2, y3, yl⟩ := S7.cells; have S7 := Lib.hid S7; have XL := Lib.hid (XL.out.below hb7); have XO := Lib.hid (XO.out.below hb7); have XS := Lib.hid (XS.out.below hb7); have XT := Lib.hid (XT.out.below hb7); clear hb7)
            | (go_at_call 63; (with_reducible refine (r6sameRanges _ _ _ _ _ _ RL _ XS.out XT.out).mono ?_); rintro e w8 ⟨rfl, hb8⟩; have S8 := (S7.out).ch hb8; clear y0 y1 y2 y3 yl; obtain ⟨y0, y1, y2, y3, yl⟩ := S8.cells; have S8 := Lib.hid S8; have XL := Lib.hid (XL.out.below hb8); have XO := Lib.hid (XO.out.below hb8); have XS := Lib.hid (XS.out.below hb8); have XT := Lib.hid (XT.out.below hb8); clear hb8)
            | (go_at_call 17; (with_reducible refine (ltold _).mono ?_); rintro e w9 ⟨rfl, hb9⟩; have S9 := (S8.out).ch hb9; clear y0 y1 y2 y3 yl; obtain ⟨y0, y1, y2, y3, yl⟩ := S9.cells; have S9 := Lib.hid S9; have XL := Lib.hid (XL.out.below hb9); have XO := Lib.hid (XO.out.below hb9); have XS := Lib.hid (XS.out.below hb9); have XT := Lib.hid (XT.out.below hb9); clear hb9)
            | (go_at_call 17; (with_reducible refine (ltold _).mono ?_); rintro e wT ⟨rfl, hbT⟩))
          all_goals go_ret
          all_goals first
            | exact ⟨rfl, S9.out.below⟩
            | exact ⟨rfl, S1.out.below.ch2 hbT⟩
        | true =>
          simp only [Bool.true_and] at hIS
          cases i1 : decide (NL ≤ n) with
          | false =>
            clear hIS
            go_enter Tryz.func14, Tryz.ntmps14
            go_wp2_with (first
              | (go_at_call 16; (with_reducible refine (fFew _ S0.out.c1).mono ?_); rintro e w1 ⟨b, rfl, hb1⟩; have S1 := (S0.out).ch hb1; clear y0 y1 y2 y3 yl; obtain ⟨y0, y1, y2, y3, yl⟩ := S1.cells; have S1 := Lib.hid S1; have XL := Lib.hid (XL.out.below hb1); cases b; clear hb1)
              | (go_at_call 60; (with_reducible refine (fA _ S1.out.c1).mono ?_); rintro e w2 ⟨oa, ok, rfl, hb2, ho, _⟩; have S2 := (S1.out).ch hb2; clear y0 y1 y2 y3 yl; obtain ⟨y0, y1, y2, y3, yl⟩ := S2.cells; have S2 := Lib.hid S2; have XL := Lib.hid (XL.out.below hb2); have XO := Lib.hid (ho); clear ho; clear hb2)
              | (go_at_call 34; (with_reducible refine (fC _ S2.out.c1 XL.out (by have := HM.out; omega)).mono ?_); rintro e w3 ⟨rfl, hb3⟩; have S3 := (S2.out).ch hb3; clear y0 y1 y2 y3 yl; obtain ⟨y0, y1, y2, y3, yl⟩ := S3.cells; have S3 := Lib.hid S3; have XL := Lib.hid (XL.out.below hb3); have XO := Lib.hid (XO.out.below hb3); clear hb3)
              | (go_at_call 41; (with_reducible refine (gC _ S3.out.c1 XL.out).mono ?_); rintro e w4 ⟨rfl, hb4⟩; have S4 := (S3.out).ch hb4; clear y0 y1 y2 y3 yl; obtain ⟨y0, y1, y2, y3, yl⟩ := S4.cells; have S4 := Lib.hid S4; have XL := Lib.hid (XL.out.below hb4); have XO := Lib.hid (XO.out.below hb4); clear hb4)
              | (go_at_call 61; (with_reducible refine (fK _ S4.out.c1 XL.out (by have := HM.out; omega)).mono ?_); rintro e w5 ⟨sa, sk, rfl, hb5, hs⟩; have S5 := (S4.out).ch hb5; clear y0 y1 y2 y3 yl; obtain ⟨y0, y1, y2, y3, yl⟩ := S5.cells; have S5 := Lib.hid S5; have XL := Lib.hid (XL.out.below hb5); have XO := Lib.hid (XO.out.below hb5); have XS := Lib.hid (hs); clear hs; clear hb5)
              | (go_at_call 62; (with_reducible refine (gK _ S5.out.c1 XL.out).mono ?_); rintro e w6 ⟨v6, rfl, hb6, ho6⟩; obtain ⟨ta, tk, rfl, _⟩ := owns_slice ho6; have S6 := (S5.out).ch hb6; clear y0 y1 y2 y3 yl; obtain ⟨y0, y1, y2, y3, yl⟩ := S6.cells; have S6 := Lib.hid S6; have XL := Lib.hid (XL.out.below hb6); have XO := Lib.hid (XO.out.below hb6); have XS := Lib.hid (XS.out.below hb6); have XT := Lib.hid (RngsAt.of_owns ho6 (by have := HRL.out; omega)); clear ho6; clear hb6)
              | (go_at_call 45; (with_reducible refine (gN _ S6.out.c1).mono ?_); rintro e w7 ⟨rfl, hb7⟩; have S7 := (S6.out).ch hb7; clear y0 y1 y2 y3 yl; obtain ⟨y0, y1, y2, y3, yl⟩ := S7.cells; have S7 := Lib.hid S7; have XL := Lib.hid (XL.out.below hb7); have XO := Lib.hid (XO.out.below hb7); have XS := Lib.hid (XS.out.below hb7); have XT := Lib.hid (XT.out.below hb7); clear hb7)
              | (go_at_call 63; (with_reducible refine (r6sameRanges _ _ _ _ _ _ RL _ XS.out XT.out).mono ?_); rintro e w8 ⟨rfl, hb8⟩; have S8 := (S7.out).ch hb8; clear y0 y1 y2 y3 yl; obtain ⟨y0, y1, y2, y3, yl⟩ := S8.cells; have S8 := Lib.hid S8; have XL := Lib.hid (XL.out.below hb8); have XO := Lib.hid (XO.out.below hb8); have XS := Lib.hid (XS.out.below hb8); have XT := Lib.hid (XT.out.below hb8); clear hb8)
              | (go_at_call 17; (with_reducible refine (ltold _).mono ?_); rintro e w9 ⟨rfl, hb9⟩; have S9 := (S8.out).ch hb9; clear y0 y1 y2 y3 yl; obtain ⟨y0, y1, y2, y3, yl⟩ := S9.cells; have S9 := Lib.hid S9; have XL := Lib.hid (XL.out.below hb9); have XO := Lib.hid (XO.out.below hb9); have XS := Lib.hid (XS.out.below hb9); have XT := Lib.hid (XT.out.below hb9); clear hb9)
              | (go_at_call 17; (with_reducible refine (ltold _).mono ?_); rintro e wT ⟨rfl, hbT⟩))
            all_goals go_ret
            all_goals first
              | exact ⟨rfl, S9.out.below⟩
              | exact ⟨rfl, S1.out.below.ch2 hbT⟩
          | true =>
            rw [i1, Bool.true_and] at hIS
            have i2 := hIS.symm
            clear hIS
            go_enter Tryz.func14, Tryz.ntmps14
            go_wp2_with (first
              | (go_at_call 16; (with_reducible refine (fFew _ S0.out.c1).mono ?_); rintro e w1 ⟨b, rfl, hb1⟩; have S1 := (S0.out).ch hb1; clear y0 y1 y2 y3 yl; obtain ⟨y0, y1, y2, y3, yl⟩ := S1.cells; have S1 := Lib.hid S1; have XL := Lib.hid (XL.out.below hb1); cases b; clear hb1)
              | (go_at_call 60; (with_reducible refine (fA _ S1.out.c1).mono ?_); rintro e w2 ⟨oa, ok, rfl, hb2, ho, _⟩; have S2 := (S1.out).ch hb2; clear y0 y1 y2 y3 yl; obtain ⟨y0, y1, y2, y3, yl⟩ := S2.cells; have S2 := Lib.hid S2; have XL := Lib.hid (XL.out.below hb2); have XO := Lib.hid (ho); clear ho; clear hb2)
              | (go_at_call 34; (with_reducible refine (fC _ S2.out.c1 XL.out (by have := HM.out; omega)).mono ?_); rintro e w3 ⟨rfl, hb3⟩; have S3 := (S2.out).ch hb3; clear y0 y1 y2 y3 yl; obtain ⟨y0, y1, y2, y3, yl⟩ := S3.cells; have S3 := Lib.hid S3; have XL := Lib.hid (XL.out.below hb3); have XO := Lib.hid (XO.out.below hb3); clear hb3)
              | (go_at_call 41; (with_reducible refine (gC _ S3.out.c1 XL.out).mono ?_); rintro e w4 ⟨rfl, hb4⟩; have S4 := (S3.out).ch hb4; clear y0 y1 y2 y3 yl; obtain ⟨y0, y1, y2, y3, yl⟩ := S4.cells; have S4 := Lib.hid S4; have XL := Lib.hid (XL.out.below hb4); have XO := Lib.hid (XO.out.below hb4); clear hb4)
              | (go_at_call 61; (with_reducible refine (fK _ S4.out.c1 XL.out (by have := HM.out; omega)).mono ?_); rintro e w5 ⟨sa, sk, rfl, hb5, hs⟩; have S5 := (S4.out).ch hb5; clear y0 y1 y2 y3 yl; obtain ⟨y0, y1, y2, y3, yl⟩ := S5.cells; have S5 := Lib.hid S5; have XL := Lib.hid (XL.out.below hb5); have XO := Lib.hid (XO.out.below hb5); have XS := Lib.hid (hs); clear hs; clear hb5)
              | (go_at_call 62; (with_reducible refine (gK _ S5.out.c1 XL.out).mono ?_); rintro e w6 ⟨v6, rfl, hb6, ho6⟩; obtain ⟨ta, tk, rfl, _⟩ := owns_slice ho6; have S6 := (S5.out).ch hb6; clear y0 y1 y2 y3 yl; obtain ⟨y0, y1, y2, y3, yl⟩ := S6.cells; have S6 := Lib.hid S6; have XL := Lib.hid (XL.out.below hb6); have XO := Lib.hid (XO.out.below hb6); have XS := Lib.hid (XS.out.below hb6); have XT := Lib.hid (RngsAt.of_owns ho6 (by have := HRL.out; omega)); clear ho6; clear hb6)
              | (go_at_call 45; (with_reducible refine (gN _ S6.out.c1).mono ?_); rintro e w7 ⟨rfl, hb7⟩; have S7 := (S6.out).ch hb7; clear y0 y1 y2 y3 yl; obtain ⟨y0, y1, y2, y3, yl⟩ := S7.cells; have S7 := Lib.hid S7; have XL := Lib.hid (XL.out.below hb7); have XO := Lib.hid (XO.out.below hb7); have XS := Lib.hid (XS.out.below hb7); have XT := Lib.hid (XT.out.below hb7); clear hb7)
              | (go_at_call 63; (with_reducible refine (r6sameRanges _ _ _ _ _ _ RL _ XS.out XT.out).mono ?_); rintro e w8 ⟨rfl, hb8⟩; have S8 := (S7.out).ch hb8; clear y0 y1 y2 y3 yl; obtain ⟨y0, y1, y2, y3, yl⟩ := S8.cells; have S8 := Lib.hid S8; have XL := Lib.hid (XL.out.below hb8); have XO := Lib.hid (XO.out.below hb8); have XS := Lib.hid (XS.out.below hb8); have XT := Lib.hid (XT.out.below hb8); clear hb8)
              | (go_at_call 17; (with_reducible refine (ltold _).mono ?_); rintro e w9 ⟨rfl, hb9⟩; have S9 := (S8.out).ch hb9; clear y0 y1 y2 y3 yl; obtain ⟨y0, y1, y2, y3, yl⟩ := S9.cells; have S9 := Lib.hid S9; have XL := Lib.hid (XL.out.below hb9); have XO := Lib.hid (XO.out.below hb9); have XS := Lib.hid (XS.out.below hb9); have XT := Lib.hid (XT.out.below hb9); clear hb9)
              | (go_at_call 17; (with_reducible refine (ltold _).mono ?_); rintro e wT ⟨rfl, hbT⟩))
            all_goals go_ret
            all_goals first
              | exact ⟨rfl, S9.out.below⟩
              | exact ⟨rfl, S1.out.below.ch2 hbT⟩
      · have b0 : (E == 0) = false := by simpa using h0
        clear hIS h0
        go_enter Tryz.func14, Tryz.ntmps14
        go_wp2_with (first
          | (go_at_call 16; (with_reducible refine (fFew _ S0.out.c1).mono ?_); rintro e w1 ⟨b, rfl, hb1⟩; have S1 := (S0.out).ch hb1; clear y0 y1 y2 y3 yl; obtain ⟨y0, y1, y2, y3, yl⟩ := S1.cells; have S1 := Lib.hid S1; have XL := Lib.hid (XL.out.below hb1); cases b; clear hb1)
          | (go_at_call 60; (with_reducible refine (fA _ S1.out.c1).mono ?_); rintro e w2 ⟨oa, ok, rfl, hb2, ho, _⟩; have S2 := (S1.out).ch hb2; clear y0 y1 y2 y3 yl; obtain ⟨y0, y1, y2, y3, yl⟩ := S2.cells; have S2 := Lib.hid S2; have XL := Lib.hid (XL.out.below hb2); have XO := Lib.hid (ho); clear ho; clear hb2)
          | (go_at_call 34; (with_reducible refine (fC _ S2.out.c1 XL.out (by have := HM.out; omega)).mono ?_); rintro e w3 ⟨rfl, hb3⟩; have S3 := (S2.out).ch hb3; clear y0 y1 y2 y3 yl; obtain ⟨y0, y1, y2, y3, yl⟩ := S3.cells; have S3 := Lib.hid S3; have XL := Lib.hid (XL.out.below hb3); have XO := Lib.hid (XO.out.below hb3); clear hb3)
          | (go_at_call 41; (with_reducible refine (gC _ S3.out.c1 XL.out).mono ?_); rintro e w4 ⟨rfl, hb4⟩; have S4 := (S3.out).ch hb4; clear y0 y1 y2 y3 yl; obtain ⟨y0, y1, y2, y3, yl⟩ := S4.cells; have S4 := Lib.hid S4; have XL := Lib.hid (XL.out.below hb4); have XO := Lib.hid (XO.out.below hb4); clear hb4)
          | (go_at_call 61; (with_reducible refine (fK _ S4.out.c1 XL.out (by have := HM.out; omega)).mono ?_); rintro e w5 ⟨sa, sk, rfl, hb5, hs⟩; have S5 := (S4.out).ch hb5; clear y0 y1 y2 y3 yl; obtain ⟨y0, y1, y2, y3, yl⟩ := S5.cells; have S5 := Lib.hid S5; have XL := Lib.hid (XL.out.below hb5); have XO := Lib.hid (XO.out.below hb5); have XS := Lib.hid (hs); clear hs; clear hb5)
          | (go_at_call 62; (with_reducible refine (gK _ S5.out.c1 XL.out).mono ?_); rintro e w6 ⟨v6, rfl, hb6, ho6⟩; obtain ⟨ta, tk, rfl, _⟩ := owns_slice ho6; have S6 := (S5.out).ch hb6; clear y0 y1 y2 y3 yl; obtain ⟨y0, y1, y2, y3, yl⟩ := S6.cells; have S6 := Lib.hid S6; have XL := Lib.hid (XL.out.below hb6); have XO := Lib.hid (XO.out.below hb6); have XS := Lib.hid (XS.out.below hb6); have XT := Lib.hid (RngsAt.of_owns ho6 (by have := HRL.out; omega)); clear ho6; clear hb6)
          | (go_at_call 45; (with_reducible refine (gN _ S6.out.c1).mono ?_); rintro e w7 ⟨rfl, hb7⟩; have S7 := (S6.out).ch hb7; clear y0 y1 y2 y3 yl; obtain ⟨y0, y1, y2, y3, yl⟩ := S7.cells; have S7 := Lib.hid S7; have XL := Lib.hid (XL.out.below hb7); have XO := Lib.hid (XO.out.below hb7); have XS := Lib.hid (XS.out.below hb7); have XT := Lib.hid (XT.out.below hb7); clear hb7)
          | (go_at_call 63; (with_reducible refine (r6sameRanges _ _ _ _ _ _ RL _ XS.out XT.out).mono ?_); rintro e w8 ⟨rfl, hb8⟩; have S8 := (S7.out).ch hb8; clear y0 y1 y2 y3 yl; obtain ⟨y0, y1, y2, y3, yl⟩ := S8.cells; have S8 := Lib.hid S8; have XL := Lib.hid (XL.out.below hb8); have XO := Lib.hid (XO.out.below hb8); have XS := Lib.hid (XS.out.below hb8); have XT := Lib.hid (XT.out.below hb8); clear hb8)
          | (go_at_call 17; (with_reducible refine (ltold _).mono ?_); rintro e w9 ⟨rfl, hb9⟩; have S9 := (S8.out).ch hb9; clear y0 y1 y2 y3 yl; obtain ⟨y0, y1, y2, y3, yl⟩ := S9.cells; have S9 := Lib.hid S9; have XL := Lib.hid (XL.out.below hb9); have XO := Lib.hid (XO.out.below hb9); have XS := Lib.hid (XS.out.below hb9); have XT := Lib.hid (XT.out.below hb9); clear hb9)
          | (go_at_call 17; (with_reducible refine (ltold _).mono ?_); rintro e wT ⟨rfl, hbT⟩))
        all_goals go_ret
        all_goals first
          | exact ⟨rfl, S9.out.below⟩
          | exact ⟨rfl, S1.out.below.ch2 hbT⟩
  · have q1' : decide ((60 : Int) < (m : Int)) = true := by simp; omega
    clear hO hOT hIS
    go_enter Tryz.func14, Tryz.ntmps14
    go_wp2_with (first
      | (go_at_call 16; (with_reducible refine (fFew _ S0.out.c1).mono ?_); rintro e w1 ⟨b, rfl, hb1⟩; have S1 := (S0.out).ch hb1; clear y0 y1 y2 y3 yl; obtain ⟨y0, y1, y2, y3, yl⟩ := S1.cells; have S1 := Lib.hid S1; have XL := Lib.hid (XL.out.below hb1); cases b; clear hb1)
      | (go_at_call 17; (with_reducible refine (ltold _).mono ?_); rintro e wT ⟨rfl, hbT⟩))
    all_goals go_ret
    all_goals first
      | exact ⟨rfl, S1.out.below.ch2 hbT⟩
end Go.Proofs.YtodkbfbbpfghiaaGreat
namespace Go.Proofs.YtodkbfbbpfghiaaGreat
open Go.ChangeShapes Go.WideShapes Go.ChangeAt Go.RowKit Go.Joins Go.Deep
set_option maxRecDepth 100000 in
theorem wholeAssigns_lifted (os : Os) (started : os.Started) (H : Type) (enc : TypeId × Value → H) :
    ReturnsInHanded {} Tryz.checked os 14 .any (Rows.wholeAssignsSpec.pre6 enc Tryz.prog Tryz.f14 Rows.wholeAssignsRow.domain false) (Rows.wholeAssignsSpec.post enc Tryz.prog Tryz.f14 false true false false) := by
  refine returnsInHanded_of_change_sized (C := Tryz.checked) Tryz.own started (by kernel_rfl) Tryz.func14
    (ChangeSpec.witness6 (enc := enc) (C := Tryz.checked) false ⟨#[], #[.agg #[.string ⟨#[]⟩, .int .i64 0, .int .i64 0, .slice none 0 0], .int .i64 0, .slice none 0 0], []⟩ 8 (by kernel_rfl) (by kernel_rfl) (by kernel_rfl) (by kernel_rfl)) ?_
  intro W base args ds gs before hval0 hW _ hsz0 _
  have hsz : (DataW.weightsEach Tryz.prog (Tryz.f14.params.toList ++ Rows.wholeAssignsSpec.plain.varTypes Tryz.prog) (ds ++ gs)).all (· ≤ reachBytes) = true := hsz0
  clear hsz0
  have hval : ∀ (j : Nat) t v, Tryz.f14.params[j]? = some t → args[j]? = some v → Value.okWide Tryz.prog W .any base t v := hval0
  have hW' := hW
  obtain ⟨p, q, hA0, hV, rfl, _, _⟩ := hW
  have hA : DataW.TrodAll enc Tryz.prog W 0 (fun _ => true) true Tryz.f14.params.toList args.toList ds p := hA0
  rw [Tryz.params14] at hA hval hsz
  obtain ⟨v0, vs0, d0, ds0, p0, q0, hargs, rfl, rfl, h0, r0⟩ := trodAll_cons hA
  obtain ⟨v1, vs1, d1, ds1, p1, q1, rfl, rfl, rfl, h1, r1⟩ := trodAll_cons r0
  obtain ⟨v2, vs2, d2, ds2, p2, q2, rfl, rfl, rfl, h2, r2⟩ := trodAll_cons r1
  obtain ⟨rfl, rfl, rfl⟩ := trodAll_nil r2
  obtain rfl : args = #[v0, v1, v2] := by cases args; simp_all
  obtain ⟨rfl, rfl⟩ := trodVars_none hV
  clear hA0 hval0
  have hlt : ∀ x ∈ p0 ++ p1 ++ p2, x.block < W.heap.size := fun x hx => by have := hW'.lt x (by simpa using hx); simpa using this
  obtain ⟨c0, rfl, hb0, hn0⟩ := case_open (hval 0 24 v0 rfl rfl) h0 (fun n hn => by
    have := List.all_eq_true.1 hsz _ (DataW.weights_mem_each (j := 0) rfl rfl n hn)
    simpa using this)
  obtain ⟨x1, rfl⟩ := okWide_int Tryz.underlying3 (hval 1 3 v1 rfl rfl)
  obtain ⟨a2, n2, k2, xs2, rfl, hb2, hn2⟩ := ints_open (hval 2 34 v2 rfl rfl) h2 (fun n hn => by
    have := List.all_eq_true.1 hsz _ (DataW.weights_mem_each (j := 2) rfl rfl n hn)
    simpa using this)
  refine (law_assigns c0 x1 a2 n2 k2 xs2 W hb0 hn0 hb2 hn2).mono fun e W' ⟨he, hw⟩ => ?_
  subst he
  exact ⟨_, rfl, ⟨_, _, _, [], _, [], hW', trodAll_mk1 (shut_bool Tryz.underlying4 _), (trodAll_cons_mk (Below.trod Tryz.laidOut (by kernel_rfl) (of_decide_eq_true (by kernel_rfl)) h0 hw (fun x hx => hlt x (by simp [hx]))) (trodAll_cons_mk (Below.trod Tryz.laidOut (by kernel_rfl) (of_decide_eq_true (by kernel_rfl)) h1 hw (fun x hx => hlt x (by simp [hx]))) (trodAll_cons_mk (Below.trod Tryz.laidOut (by kernel_rfl) (of_decide_eq_true (by kernel_rfl)) h2 hw (fun x hx => hlt x (by simp [hx]))) trodAll_mk0))), rfl, hw.frame _, fun h => by cases h⟩⟩
theorem wholeAssigns_holds : Rows.WholeAssignsSaid :=
  OpenClaim.holds_of_wide 14 Tryz.f14 rfl rfl rfl rfl rfl rfl rfl ⟨rfl, rfl, rfl, rfl, rfl⟩ rfl rfl rfl rfl rfl (by kernel_rfl) Tryz.func14 (by kernel_rfl)
    (of_decide_eq_true (by kernel_rfl)) (by unfold Func.isWrapper; rw [if_neg (of_decide_eq_false (by kernel_rfl))]; exact ⟨rfl, rfl⟩)
    (fun os started H enc _ => wholeAssigns_lifted os started H enc)
#print axioms wholeAssigns_holds
end Go.Proofs.YtodkbfbbpfghiaaGreat
