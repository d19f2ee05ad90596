/-
  The law Cases, walked, and its statement.
-/
import Derived.Test.YtodkbfbbpfghiaaGreatPb29
import Derived.Test.YtodkbfbbpfghiaaGreatPb26
import Derived.Test.YtodkbfbbpfghiaaGreatPb14
import Derived.Test.YtodkbfbbpfghiaaGreatRows
import Derived.OpenShut
set_option linter.unusedSimpArgs false
set_option linter.unusedVariables false
set_option linter.unnecessarySimpa false
namespace Go.Proofs.YtodkbfbbpfghiaaGreat
open Go.RowKit Go.Shelf Go.Lib
set_option maxHeartbeats 8000000
set_option maxRecDepth 100000
theorem rivL_small (c : Cs) (x : Int) : (rivL c x).length ≤ 1000 := by
  unfold rivL
  split
  · rename_i h
    have := (Cs.ask_zero h).1.many
    unfold pickL
    rw [List.length_map]
    have h2 := List.length_filter_le (fun b => clB c.s x.toNat b) (List.range c.ps.length)
    rw [List.length_range] at h2
    omega
  · simp
theorem law_cases (c : Cs) (x y li by_ : Int) (w : World) (hc : CsAt w c) (hcr : c.ps.length ≤ c.cap) :
    Calls Tryz.prog 13 #[c.v, .int .i64 x, .int .i64 y, .int .i64 li, .int .i64 by_] w fun e w' => e = .returned (.bool true) ∧ Below w.heap.size w w' := by
  have fFew := fun W (h : CsAt W c) => lfew c W h
  unfold BoolAny at fFew
  have fCl := fun W (h : CsAt W c) => wClash c x y W h
  have gCl := fun W (h : CsAt W c) => r6Clash c x y W h
  have fRi := fun W (h : CsAt W c) => wRivals c x W h
  have gRi := fun W (h : CsAt W c) => r6Rivals c x W h
  have fWo := fun W (h : CsAt W c) => wWithout c x W h
  have gWo := fun W (h : CsAt W c) => r6Without c x W h hcr
  have fLi := fun W (h : CsAt W c) => wLimited c li by_ W h
  have gLi := fun W (h : CsAt W c) => r6Limited c li by_ W h
  have fCk := fun W (h : CsAt W c) => wcheck c W h
  have gCk := fun W (h : CsAt W c) => r6chk c W h
  have fSame := fun (p q : Cs) W hs (h : CsAt W p) (h2 : CsAt W q) => r6sameCase p q W hs h h2
  have hLl := rivL_small c x
  unfold CaseRes at fWo gWo fLi gLi
  simp only [Cs.v] at fFew fCl gCl fRi gRi fWo gWo fLi gLi fCk gCk fSame ⊢
  generalize resC (c.ask [x]) (c.wo x.toNat) = R1 at *
  generalize resC (c.limE li by_) (c.lim' li by_) = R2 at *
  generalize (decide (c.ask [x, y] = 0) && clB c.s x.toNat y.toNat) = B1 at *
  generalize c.ask [x, y] = E1 at *
  generalize c.ask [x] = E2 at *
  generalize c.limE li by_ = E3 at *
  generalize c.chk = E at *
  generalize rivL c x = LL at *
  have e1 : (E1 == E1) = true := by simp
  have e2 : (E2 == E2) = true := by simp
  have e3 : (E3 == E3) = true := by simp
  have e4 : (E == E) = true := by simp
  have e5 : (B1 == B1) = true := by simp
  have HL := Lib.hid hLl
  clear hLl
  have S0 := LS.start w hc
  obtain ⟨y0, y1, y2, y3, yl⟩ := S0.cells
  have S0 := Lib.hid S0
  go_enter Tryz.func13, Tryz.ntmps13
  go_wp2_with (first
    | (go_at_call 16; (with_reducible refine (fFew _ S0.out.c1).mono ?_); rintro e w1 ⟨b, rfl, hb1⟩; have S1 := (S0.out).ch hb1; clear y0 y1 y2 y3 yl; obtain ⟨y0, y1, y2, y3, yl⟩ := S1.cells; have S1 := Lib.hid S1; cases b; clear hb1)
    | (go_at_call 51; (with_reducible refine (fCl _ S1.out.c1).mono ?_); rintro e w2 ⟨rfl, hb2⟩; have S2 := (S1.out).ch hb2; clear y0 y1 y2 y3 yl; obtain ⟨y0, y1, y2, y3, yl⟩ := S2.cells; have S2 := Lib.hid S2; clear hb2)
    | (go_at_call 52; (with_reducible refine (gCl _ S2.out.c1).mono ?_); rintro e w3 ⟨rfl, hb3⟩; have S3 := (S2.out).ch hb3; clear y0 y1 y2 y3 yl; obtain ⟨y0, y1, y2, y3, yl⟩ := S3.cells; have S3 := Lib.hid S3; clear hb3)
    | (go_at_call 53; (with_reducible refine (fRi _ S3.out.c1).mono ?_); rintro e w4 ⟨v4, rfl, hb4, ho4⟩; obtain ⟨va, vk, rfl, _⟩ := owns_slice ho4; have S4 := (S3.out).ch hb4; clear y0 y1 y2 y3 yl; obtain ⟨y0, y1, y2, y3, yl⟩ := S4.cells; have S4 := Lib.hid S4; have XA := Lib.hid (IntsAt.of_owns ho4 (by have := HL.out; omega)); clear ho4; clear hb4)
    | (go_at_call 54; (with_reducible refine (gRi _ S4.out.c1).mono ?_); rintro e w5 ⟨v5, rfl, hb5, ho5⟩; obtain ⟨ua, uk, rfl, _⟩ := owns_slice ho5; have S5 := (S4.out).ch hb5; clear y0 y1 y2 y3 yl; obtain ⟨y0, y1, y2, y3, yl⟩ := S5.cells; have S5 := Lib.hid S5; have XA := Lib.hid (XA.out.below hb5); have XB := Lib.hid (IntsAt.of_owns ho5 (by have := HL.out; omega)); clear ho5; clear hb5)
    | (go_at_call 46; (with_reducible refine (fWo _ S5.out.c1).mono ?_); rintro e w6 ⟨p1, hp1, rfl, hb6, hpc⟩; have S6 := (S5.out).ch hb6; clear y0 y1 y2 y3 yl; obtain ⟨y0, y1, y2, y3, yl⟩ := S6.cells; have S6 := Lib.hid S6; have XA := Lib.hid (XA.out.below hb6); have XB := Lib.hid (XB.out.below hb6); have XP1 := Lib.hid (hpc); clear hpc; clear hb6)
    | (go_at_call 55; (with_reducible refine (gWo _ (S6.out.al _).c1).mono ?_); rintro e w7 ⟨q1, hq1, rfl, hb7, hqc⟩; have S7 := ((S6.out.al _)).ch hb7; clear y0 y1 y2 y3 yl; obtain ⟨y0, y1, y2, y3, yl⟩ := S7.cells; have S7 := Lib.hid S7; have XA := Lib.hid ((XA.out.below (one_alloc _ _)).below hb7); have XB := Lib.hid ((XB.out.below (one_alloc _ _)).below hb7); have XP1 := Lib.hid ((XP1.out.below (one_alloc _ _)).below hb7); have ZP1 := Lib.hid ((HB.new w6 #[.string p1.ware, .int .i64 p1.lim, .int .i64 p1.byr, .slice p1.a p1.ps.length p1.cap] 24).below hb7); have XQ1 := Lib.hid (hqc); clear hqc; clear hb7)
    | (go_at_call 56; (with_reducible refine (fLi _ (S7.out.al _).c1).mono ?_); rintro e w8 ⟨p2, hp2, rfl, hb8, hpc⟩; have S8 := ((S7.out.al _)).ch hb8; clear y0 y1 y2 y3 yl; obtain ⟨y0, y1, y2, y3, yl⟩ := S8.cells; have S8 := Lib.hid S8; have XA := Lib.hid ((XA.out.below (one_alloc _ _)).below hb8); have XB := Lib.hid ((XB.out.below (one_alloc _ _)).below hb8); have XP1 := Lib.hid ((XP1.out.below (one_alloc _ _)).below hb8); have ZP1 := Lib.hid ((ZP1.out.below (one_alloc _ _)).below hb8); have XQ1 := Lib.hid ((XQ1.out.below (one_alloc _ _)).below hb8); have ZQ1 := Lib.hid ((HB.new w7 #[.string q1.ware, .int .i64 q1.lim, .int .i64 q1.byr, .slice q1.a q1.ps.length q1.cap] 24).below hb8); have XP2 := Lib.hid (hpc); clear hpc; clear hb8)
    | (go_at_call 57; (with_reducible refine (gLi _ (S8.out.al _).c1).mono ?_); rintro e w9 ⟨q2, hq2, rfl, hb9, hqc⟩; have S9 := ((S8.out.al _)).ch hb9; clear y0 y1 y2 y3 yl; obtain ⟨y0, y1, y2, y3, yl⟩ := S9.cells; have S9 := Lib.hid S9; have XA := Lib.hid ((XA.out.below (one_alloc _ _)).below hb9); have XB := Lib.hid ((XB.out.below (one_alloc _ _)).below hb9); have XP1 := Lib.hid ((XP1.out.below (one_alloc _ _)).below hb9); have ZP1 := Lib.hid ((ZP1.out.below (one_alloc _ _)).below hb9); have XQ1 := Lib.hid ((XQ1.out.below (one_alloc _ _)).below hb9); have ZQ1 := Lib.hid ((ZQ1.out.below (one_alloc _ _)).below hb9); have XP2 := Lib.hid ((XP2.out.below (one_alloc _ _)).below hb9); have ZP2 := Lib.hid ((HB.new w8 #[.string p2.ware, .int .i64 p2.lim, .int .i64 p2.byr, .slice p2.a p2.ps.length p2.cap] 24).below hb9); have XQ2 := Lib.hid (hqc); clear hqc; clear hb9)
    | (go_at_call 17; (with_reducible refine (ltold _).mono ?_); rintro e wT ⟨rfl, hbT⟩))
  · go_ret
    exact ⟨rfl, S1.out.below.ch2 hbT⟩
  obtain ⟨w10, hw10⟩ : ∃ w10, w10 = w9.alloc (Obj.cells #[.string q2.ware, .int .i64 q2.lim, .int .i64 q2.byr, .slice q2.a q2.ps.length q2.cap] 24) := ⟨_, rfl⟩
  rw [← hw10]
  have hB9 : Below w9.heap.size w9 w10 := by rw [hw10]; exact one_alloc _ _
  have S10 := S9.out.ch hB9
  have ZQ2 : HB w10 w9.heap.size #[.string q2.ware, .int .i64 q2.lim, .int .i64 q2.byr, .slice q2.a q2.ps.length q2.cap] 24 := by rw [hw10]; exact HB.new _ _ _
  have XA := XA.out.below hB9
  have XB := XB.out.below hB9
  have XP1 := XP1.out.below hB9
  have XQ1 := XQ1.out.below hB9
  have XP2 := XP2.out.below hB9
  have XQ2 := XQ2.out.below hB9
  have ZP1 := ZP1.out.below hB9
  have ZQ1 := ZQ1.out.below hB9
  have ZP2 := ZP2.out.below hB9
  obtain ⟨m0, m1, m2, m3, mf, ml⟩ := cell4w ZP1
  obtain ⟨n0, n1, n2, n3, nf, nl⟩ := cell4w ZQ1
  obtain ⟨o0, o1, o2, o3, of, ol⟩ := cell4w ZP2
  obtain ⟨p0, p1', p2', p3, pf, pl⟩ := cell4w ZQ2
  clear y0 y1 y2 y3 yl hw10
  obtain ⟨y0, y1, y2, y3, yl⟩ := S10.cells
  clear ZP1 ZQ1 ZP2 ZQ2 S9 hB9
  have S10 := Lib.hid S10
  have XA := Lib.hid XA
  have XB := Lib.hid XB
  have XP1 := Lib.hid XP1
  have XQ1 := Lib.hid XQ1
  have XP2 := Lib.hid XP2
  have XQ2 := Lib.hid XQ2
  apply SLG.rule0 ?hm1 [] [83, 84, 85, 86, 87, 88, 89, 90, 91, 92, 93, 94, 95, 96, 97, 98, 99, 100, 101, 102, 103, 104, 105, 106, 107, 108, 109, 110, 111, 112, 113, 114, 115, 116, 117, 118, 119, 120, 121, 122, 123, 124, 125, 126, 127, 128, 129, 130, 10] [SL.pu 83 [] (.bool true), SLF.pq 84 [0] (.bool true), SLF.pq 85 [1] (.agg #[.string c.ware, .int .i64 c.lim, .int .i64 c.byr, .slice c.a c.ps.length c.cap]), SL.pu 86 [1, 2] (.int .i64 E), SLF.pq 87 [1] (.agg #[.string c.ware, .int .i64 c.lim, .int .i64 c.byr, .slice c.a c.ps.length c.cap]), SL.pu 88 [1, 4] (.int .i64 E), SLF.pq 89 [1, 3, 5] (.bool true), SLF.pq 90 [1, 6] (.bool true), SLF.pq 91 [7] (.bool true), SLF.pq 92 [8] (.bool B1), SLF.pq 93 [8] (.bool B1), SLF.pq 94 [8, 9, 10] (.bool true), SLF.pq 95 [8, 11] (.bool true), SLF.pq 96 [12] (.bool true), SLF.pq 97 [13] (.int .i64 E1), SLF.pq 98 [13] (.int .i64 E1), SLF.pq 99 [13, 14, 15] (.bool true), SLF.pq 100 [13, 16] (.bool true), SLF.pq 101 [17] (.bool true), SLF.pq 102 [18] (.slice va LL.length vk), SLF.pq 103 [18] (.slice ua LL.length uk), SL.pu 104 [18, 19, 20] (.bool true), SLF.pq 105 [18, 21] (.bool true), SLF.pq 106 [22] (.bool true), SLF.pq 107 [23] (.int .i64 E2), SLF.pq 108 [23] (.int .i64 E2), SLF.pq 109 [23, 24, 25] (.bool true), SLF.pq 110 [23, 26] (.bool true), SLF.pq 111 [27] (.bool true), SLF.pq 112 [28] (.agg #[.string p1.ware, .int .i64 p1.lim, .int .i64 p1.byr, .slice p1.a p1.ps.length p1.cap]), SLF.pq 113 [28] (.agg #[.string q1.ware, .int .i64 q1.lim, .int .i64 q1.byr, .slice q1.a q1.ps.length q1.cap]), SL.pu 114 [28, 29, 30] (.bool true), SLF.pq 115 [28, 31] (.bool true), SLF.pq 116 [32] (.bool true), SLF.pq 117 [33] (.int .i64 E2), SLF.pq 118 [33] (.int .i64 E2), SLF.pq 119 [33, 34, 35] (.bool true), SLF.pq 120 [33, 36] (.bool true), SLF.pq 121 [37] (.bool true), SLF.pq 122 [38] (.agg #[.string p2.ware, .int .i64 p2.lim, .int .i64 p2.byr, .slice p2.a p2.ps.length p2.cap]), SLF.pq 123 [38] (.agg #[.string q2.ware, .int .i64 q2.lim, .int .i64 q2.byr, .slice q2.a q2.ps.length q2.cap]), SL.pu 124 [38, 39, 40] (.bool true), SLF.pq 125 [38, 41] (.bool true), SLF.pq 126 [42] (.bool true), SLF.pq 127 [43] (.int .i64 E3), SLF.pq 128 [43] (.int .i64 E3), SLF.pq 129 [43, 44, 45] (.bool true), SLF.pq 130 [43, 46] (.bool true), SLF.pq 10 [47] (.bool true)] [48] ?hck1 ?hkp1 (fun _ => []) ?hin1 ?hdj1 ?hfr1 ?ob1 ?en1
  case hm1 => kernel_rfl
  case hin1 => exact SL.none_held rfl
  case hdj1 => simp
  case hfr1 => intro us; simp only [SL.frame, SL.put']; simp; exact rfl
  case ob1 =>
    refine ⟨?_, ?_, ?_, ?_, ?_, ?_, ?_, ?_, ?_, ?_, ?_, ?_, ?_, ?_, ?_, ?_, ?_, ?_, ?_, ?_, ?_, ?_, ?_, ?_, ?_, ?_, ?_, ?_, ?_, ?_, ?_, ?_, ?_, ?_, ?_, ?_, ?_, ?_, ?_, ?_, ?_, ?_, ?_, ?_, ?_, ?_, ?_, ?_, ?_, trivial⟩
    iterate 1 rotate_left
    iterate 2
      focus
        as_aux_lemma =>
          intro us w' Fe hG hu hd hv Kx hK
          try dsimp only
          simp [SL.Used, SL.pu, SL.row, SL.box, SL.rowIn, SL.boxIn, SL.boxAt, SL.boxAtIn, SLF.pq, Act.put, SL.aw_sub, SL.aw_use, SL.aw_eat, SL.aw_V, SL.aw_quiet] at hu hK
          have hB5 : Below w10.heap.size w10 w' := hG.below'
          obtain ⟨hc5, hf5⟩ := bcell hB5
          have hs5 := hB5.size
          clear hv hG
          first
            | (refine SLF.wpo_do (SLF.wanted_free rfl) ?hd1 ?_; (case hd1 => intro c h; cases h))
            | (refine SLF.wpo_do (SLF.wanted_by rfl rfl ?hv1) ?hd1 ?_; (case hv1 => simp [hu]; done); (case hd1 => intro c h; cases h))
            | (refine' SLF.wpo_not (SLG.wanted_not rfl rfl ?hv1 ?hn1) ?_; (case hv1 => simp [hu]; exact rfl); (case hn1 => first | (simp; done) | (simp [undef]; done)))
          clear hd
          first
            | (go_step; exact hK _ _ _ (SL.Chg.refl _ _) (by first | exact rfl | (simp only [hu]; exact rfl) | exact hu | exact hu.1 | exact hu.2 | exact hu.2.1 | exact hu.2.2 | exact hu.2.2.1 | exact hu.2.2.2 | (simp [hu]; done)) rfl (by simp) rfl)
            | exact hK _ _ _ (SL.Chg.refl _ _) (by first | exact rfl | exact hu | exact hu.1 | exact hu.2 | exact hu.2.1 | exact hu.2.2 | exact hu.2.2.1 | exact hu.2.2.2 | (simp [hu]; done)) rfl (by simp) rfl
    iterate 1 rotate_left
    iterate 1
      focus
        as_aux_lemma =>
          intro us w' Fe hG hu hd hv Kx hK
          try dsimp only
          simp [SL.Used, SL.pu, SL.row, SL.box, SL.rowIn, SL.boxIn, SL.boxAt, SL.boxAtIn, SLF.pq, Act.put, SL.aw_sub, SL.aw_use, SL.aw_eat, SL.aw_V, SL.aw_quiet] at hu hK
          have hB5 : Below w10.heap.size w10 w' := hG.below'
          obtain ⟨hc5, hf5⟩ := bcell hB5
          have hs5 := hB5.size
          clear hv hG
          first
            | (refine SLF.wpo_do (SLF.wanted_free rfl) ?hd1 ?_; (case hd1 => intro c h; cases h))
            | (refine SLF.wpo_do (SLF.wanted_by rfl rfl ?hv1) ?hd1 ?_; (case hv1 => simp [hu]; done); (case hd1 => intro c h; cases h))
            | (refine' SLF.wpo_not (SLG.wanted_not rfl rfl ?hv1 ?hn1) ?_; (case hv1 => simp [hu]; exact rfl); (case hn1 => first | (simp; done) | (simp [undef]; done)))
          clear hd
          first
            | (go_step; exact hK _ _ _ (SL.Chg.refl _ _) (by first | exact rfl | (simp only [hu]; exact rfl) | exact hu | exact hu.1 | exact hu.2 | exact hu.2.1 | exact hu.2.2 | exact hu.2.2.1 | exact hu.2.2.2 | (simp [hu]; done)) rfl (by simp) rfl)
            | exact hK _ _ _ (SL.Chg.refl _ _) (by first | exact rfl | exact hu | exact hu.1 | exact hu.2 | exact hu.2.1 | exact hu.2.2 | exact hu.2.2.1 | exact hu.2.2.2 | (simp [hu]; done)) rfl (by simp) rfl
    iterate 1 rotate_left
    iterate 15
      focus
        as_aux_lemma =>
          intro us w' Fe hG hu hd hv Kx hK
          try dsimp only
          simp [SL.Used, SL.pu, SL.row, SL.box, SL.rowIn, SL.boxIn, SL.boxAt, SL.boxAtIn, SLF.pq, Act.put, SL.aw_sub, SL.aw_use, SL.aw_eat, SL.aw_V, SL.aw_quiet] at hu hK
          have hB5 : Below w10.heap.size w10 w' := hG.below'
          obtain ⟨hc5, hf5⟩ := bcell hB5
          have hs5 := hB5.size
          clear hv hG
          first
            | (refine SLF.wpo_do (SLF.wanted_free rfl) ?hd1 ?_; (case hd1 => intro c h; cases h))
            | (refine SLF.wpo_do (SLF.wanted_by rfl rfl ?hv1) ?hd1 ?_; (case hv1 => simp [hu]; done); (case hd1 => intro c h; cases h))
            | (refine' SLF.wpo_not (SLG.wanted_not rfl rfl ?hv1 ?hn1) ?_; (case hv1 => simp [hu]; exact rfl); (case hn1 => first | (simp; done) | (simp [undef]; done)))
          clear hd
          first
            | (go_step; exact hK _ _ _ (SL.Chg.refl _ _) (by first | exact rfl | (simp only [hu]; exact rfl) | exact hu | exact hu.1 | exact hu.2 | exact hu.2.1 | exact hu.2.2 | exact hu.2.2.1 | exact hu.2.2.2 | (simp [hu]; done)) rfl (by simp) rfl)
            | exact hK _ _ _ (SL.Chg.refl _ _) (by first | exact rfl | exact hu | exact hu.1 | exact hu.2 | exact hu.2.1 | exact hu.2.2 | exact hu.2.2.1 | exact hu.2.2.2 | (simp [hu]; done)) rfl (by simp) rfl
    iterate 1 rotate_left
    iterate 9
      focus
        as_aux_lemma =>
          intro us w' Fe hG hu hd hv Kx hK
          try dsimp only
          simp [SL.Used, SL.pu, SL.row, SL.box, SL.rowIn, SL.boxIn, SL.boxAt, SL.boxAtIn, SLF.pq, Act.put, SL.aw_sub, SL.aw_use, SL.aw_eat, SL.aw_V, SL.aw_quiet] at hu hK
          have hB5 : Below w10.heap.size w10 w' := hG.below'
          obtain ⟨hc5, hf5⟩ := bcell hB5
          have hs5 := hB5.size
          clear hv hG
          first
            | (refine SLF.wpo_do (SLF.wanted_free rfl) ?hd1 ?_; (case hd1 => intro c h; cases h))
            | (refine SLF.wpo_do (SLF.wanted_by rfl rfl ?hv1) ?hd1 ?_; (case hv1 => simp [hu]; done); (case hd1 => intro c h; cases h))
            | (refine' SLF.wpo_not (SLG.wanted_not rfl rfl ?hv1 ?hn1) ?_; (case hv1 => simp [hu]; exact rfl); (case hn1 => first | (simp; done) | (simp [undef]; done)))
          clear hd
          first
            | (go_step; exact hK _ _ _ (SL.Chg.refl _ _) (by first | exact rfl | (simp only [hu]; exact rfl) | exact hu | exact hu.1 | exact hu.2 | exact hu.2.1 | exact hu.2.2 | exact hu.2.2.1 | exact hu.2.2.2 | (simp [hu]; done)) rfl (by simp) rfl)
            | exact hK _ _ _ (SL.Chg.refl _ _) (by first | exact rfl | exact hu | exact hu.1 | exact hu.2 | exact hu.2.1 | exact hu.2.2 | exact hu.2.2.1 | exact hu.2.2.2 | (simp [hu]; done)) rfl (by simp) rfl
    iterate 1 rotate_left
    iterate 9
      focus
        as_aux_lemma =>
          intro us w' Fe hG hu hd hv Kx hK
          try dsimp only
          simp [SL.Used, SL.pu, SL.row, SL.box, SL.rowIn, SL.boxIn, SL.boxAt, SL.boxAtIn, SLF.pq, Act.put, SL.aw_sub, SL.aw_use, SL.aw_eat, SL.aw_V, SL.aw_quiet] at hu hK
          have hB5 : Below w10.heap.size w10 w' := hG.below'
          obtain ⟨hc5, hf5⟩ := bcell hB5
          have hs5 := hB5.size
          clear hv hG
          first
            | (refine SLF.wpo_do (SLF.wanted_free rfl) ?hd1 ?_; (case hd1 => intro c h; cases h))
            | (refine SLF.wpo_do (SLF.wanted_by rfl rfl ?hv1) ?hd1 ?_; (case hv1 => simp [hu]; done); (case hd1 => intro c h; cases h))
            | (refine' SLF.wpo_not (SLG.wanted_not rfl rfl ?hv1 ?hn1) ?_; (case hv1 => simp [hu]; exact rfl); (case hn1 => first | (simp; done) | (simp [undef]; done)))
          clear hd
          first
            | (go_step; exact hK _ _ _ (SL.Chg.refl _ _) (by first | exact rfl | (simp only [hu]; exact rfl) | exact hu | exact hu.1 | exact hu.2 | exact hu.2.1 | exact hu.2.2 | exact hu.2.2.1 | exact hu.2.2.2 | (simp [hu]; done)) rfl (by simp) rfl)
            | exact hK _ _ _ (SL.Chg.refl _ _) (by first | exact rfl | exact hu | exact hu.1 | exact hu.2 | exact hu.2.1 | exact hu.2.2 | exact hu.2.2.1 | exact hu.2.2.2 | (simp [hu]; done)) rfl (by simp) rfl
    iterate 1 rotate_left
    iterate 7
      focus
        as_aux_lemma =>
          intro us w' Fe hG hu hd hv Kx hK
          try dsimp only
          simp [SL.Used, SL.pu, SL.row, SL.box, SL.rowIn, SL.boxIn, SL.boxAt, SL.boxAtIn, SLF.pq, Act.put, SL.aw_sub, SL.aw_use, SL.aw_eat, SL.aw_V, SL.aw_quiet] at hu hK
          have hB5 : Below w10.heap.size w10 w' := hG.below'
          obtain ⟨hc5, hf5⟩ := bcell hB5
          have hs5 := hB5.size
          clear hv hG
          first
            | (refine SLF.wpo_do (SLF.wanted_free rfl) ?hd1 ?_; (case hd1 => intro c h; cases h))
            | (refine SLF.wpo_do (SLF.wanted_by rfl rfl ?hv1) ?hd1 ?_; (case hv1 => simp [hu]; done); (case hd1 => intro c h; cases h))
            | (refine' SLF.wpo_not (SLG.wanted_not rfl rfl ?hv1 ?hn1) ?_; (case hv1 => simp [hu]; exact rfl); (case hn1 => first | (simp; done) | (simp [undef]; done)))
          clear hd
          first
            | (go_step; exact hK _ _ _ (SL.Chg.refl _ _) (by first | exact rfl | (simp only [hu]; exact rfl) | exact hu | exact hu.1 | exact hu.2 | exact hu.2.1 | exact hu.2.2 | exact hu.2.2.1 | exact hu.2.2.2 | (simp [hu]; done)) rfl (by simp) rfl)
            | exact hK _ _ _ (SL.Chg.refl _ _) (by first | exact rfl | exact hu | exact hu.1 | exact hu.2 | exact hu.2.1 | exact hu.2.2 | exact hu.2.2.1 | exact hu.2.2.2 | (simp [hu]; done)) rfl (by simp) rfl
    · as_aux_lemma =>
      refine SLG.ob_sp rfl rfl rfl fun us w' Fe hG hu hd Kx hK => ?_
      try dsimp only
      simp [SL.Used, SL.pu, SL.row, SL.box, SL.rowIn, SL.boxIn, SL.boxAt, SL.boxAtIn, SLF.pq, Act.put, SL.aw_sub, SL.aw_use, SL.aw_eat, SL.aw_V, SL.aw_quiet] at hu
      have hB5 : Below w10.heap.size w10 w' := hG.below'
      obtain ⟨hc5, hf5⟩ := bcell hB5
      have hs5 := hB5.size
      refine SLF.wpo_do (SLF.wanted_free rfl) ?hd1 ?_
      case hd1 => intro c h; cases h
      go_step
      refine (ltold _).mono ?_
      rintro e w6 ⟨rfl, hb6⟩
      exact hK _ _ w6 [] (by simp [Act.put]; done) (.of_below hb6) ⟨rfl, rfl⟩ (fun j hj => by cases hj)
    · as_aux_lemma =>
      refine SLG.ob_sp rfl rfl rfl fun us w' Fe hG hu hd Kx hK => ?_
      try dsimp only
      simp [SL.Used, SL.pu, SL.row, SL.box, SL.rowIn, SL.boxIn, SL.boxAt, SL.boxAtIn, SLF.pq, Act.put, SL.aw_sub, SL.aw_use, SL.aw_eat, SL.aw_V, SL.aw_quiet] at hu
      have hB5 : Below w10.heap.size w10 w' := hG.below'
      obtain ⟨hc5, hf5⟩ := bcell hB5
      have hs5 := hB5.size
      first
        | (refine SLF.wpo_do (SLF.wanted_free rfl) ?hd1 ?_; (case hd1 => intro c h; cases h))
        | (refine SLF.wpo_do (SLF.wanted_by rfl rfl ?hv1) ?hd1 ?_; (case hv1 => simp [hu]; done); (case hd1 => intro c h; cases h))
        | (refine' SLF.wpo_not (SLG.wanted_not rfl rfl ?hv1 ?hn1) ?_; (case hv1 => simp [hu]; exact rfl); (case hn1 => first | (simp; done) | (simp [undef]; done)))
      go_step
      refine (fCk _ (S10.out.c1.below hB5)).mono ?_
      rintro e w6 ⟨rfl, hb6⟩
      exact hK _ _ w6 [] (by simp [Act.put]; done) (.of_below hb6) ⟨rfl, rfl⟩ (fun j hj => by cases hj)
    · as_aux_lemma =>
      refine SLG.ob_sp rfl rfl rfl fun us w' Fe hG hu hd Kx hK => ?_
      try dsimp only
      simp [SL.Used, SL.pu, SL.row, SL.box, SL.rowIn, SL.boxIn, SL.boxAt, SL.boxAtIn, SLF.pq, Act.put, SL.aw_sub, SL.aw_use, SL.aw_eat, SL.aw_V, SL.aw_quiet] at hu
      have hB5 : Below w10.heap.size w10 w' := hG.below'
      obtain ⟨hc5, hf5⟩ := bcell hB5
      have hs5 := hB5.size
      first
        | (refine SLF.wpo_do (SLF.wanted_free rfl) ?hd1 ?_; (case hd1 => intro c h; cases h))
        | (refine SLF.wpo_do (SLF.wanted_by rfl rfl ?hv1) ?hd1 ?_; (case hv1 => simp [hu]; done); (case hd1 => intro c h; cases h))
        | (refine' SLF.wpo_not (SLG.wanted_not rfl rfl ?hv1 ?hn1) ?_; (case hv1 => simp [hu]; exact rfl); (case hn1 => first | (simp; done) | (simp [undef]; done)))
      go_step
      refine (gCk _ (S10.out.c1.below hB5)).mono ?_
      rintro e w6 ⟨rfl, hb6⟩
      exact hK _ _ w6 [] (by simp [Act.put]; done) (.of_below hb6) ⟨rfl, rfl⟩ (fun j hj => by cases hj)
    · as_aux_lemma =>
      refine SLG.ob_sp rfl rfl rfl fun us w' Fe hG hu hd Kx hK => ?_
      try dsimp only
      simp [SL.Used, SL.pu, SL.row, SL.box, SL.rowIn, SL.boxIn, SL.boxAt, SL.boxAtIn, SLF.pq, Act.put, SL.aw_sub, SL.aw_use, SL.aw_eat, SL.aw_V, SL.aw_quiet] at hu
      have hB5 : Below w10.heap.size w10 w' := hG.below'
      obtain ⟨hc5, hf5⟩ := bcell hB5
      have hs5 := hB5.size
      first
        | (refine SLF.wpo_do (SLF.wanted_free rfl) ?hd1 ?_; (case hd1 => intro c h; cases h))
        | (refine SLF.wpo_do (SLF.wanted_by rfl rfl ?hv1) ?hd1 ?_; (case hv1 => simp [hu]; done); (case hd1 => intro c h; cases h))
        | (refine' SLF.wpo_not (SLG.wanted_not rfl rfl ?hv1 ?hn1) ?_; (case hv1 => simp [hu]; exact rfl); (case hn1 => first | (simp; done) | (simp [undef]; done)))
      go_step
      refine (r6sameInts _ _ _ _ _ _ LL _ (XA.out.below hB5).lat (XB.out.below hB5).lat).mono ?_
      rintro e w6 ⟨rfl, hb6⟩
      exact hK _ _ w6 [] (by simp [Act.put]; done) (.of_below hb6) ⟨rfl, rfl⟩ (fun j hj => by cases hj)
    · as_aux_lemma =>
      refine SLG.ob_sp rfl rfl rfl fun us w' Fe hG hu hd Kx hK => ?_
      try dsimp only
      simp [SL.Used, SL.pu, SL.row, SL.box, SL.rowIn, SL.boxIn, SL.boxAt, SL.boxAtIn, SLF.pq, Act.put, SL.aw_sub, SL.aw_use, SL.aw_eat, SL.aw_V, SL.aw_quiet] at hu
      have hB5 : Below w10.heap.size w10 w' := hG.below'
      obtain ⟨hc5, hf5⟩ := bcell hB5
      have hs5 := hB5.size
      first
        | (refine SLF.wpo_do (SLF.wanted_free rfl) ?hd1 ?_; (case hd1 => intro c h; cases h))
        | (refine SLF.wpo_do (SLF.wanted_by rfl rfl ?hv1) ?hd1 ?_; (case hv1 => simp [hu]; done); (case hd1 => intro c h; cases h))
        | (refine' SLF.wpo_not (SLG.wanted_not rfl rfl ?hv1 ?hn1) ?_; (case hv1 => simp [hu]; exact rfl); (case hn1 => first | (simp; done) | (simp [undef]; done)))
      go_step
      refine (fSame p1 q1 _ (hp1.trans hq1.symm) (XP1.out.below hB5) (XQ1.out.below hB5)).mono ?_
      rintro e w6 ⟨rfl, hb6⟩
      exact hK _ _ w6 [] (by simp [Act.put]; done) (.of_below hb6) ⟨rfl, rfl⟩ (fun j hj => by cases hj)
    · as_aux_lemma =>
      refine SLG.ob_sp rfl rfl rfl fun us w' Fe hG hu hd Kx hK => ?_
      try dsimp only
      simp [SL.Used, SL.pu, SL.row, SL.box, SL.rowIn, SL.boxIn, SL.boxAt, SL.boxAtIn, SLF.pq, Act.put, SL.aw_sub, SL.aw_use, SL.aw_eat, SL.aw_V, SL.aw_quiet] at hu
      have hB5 : Below w10.heap.size w10 w' := hG.below'
      obtain ⟨hc5, hf5⟩ := bcell hB5
      have hs5 := hB5.size
      first
        | (refine SLF.wpo_do (SLF.wanted_free rfl) ?hd1 ?_; (case hd1 => intro c h; cases h))
        | (refine SLF.wpo_do (SLF.wanted_by rfl rfl ?hv1) ?hd1 ?_; (case hv1 => simp [hu]; done); (case hd1 => intro c h; cases h))
        | (refine' SLF.wpo_not (SLG.wanted_not rfl rfl ?hv1 ?hn1) ?_; (case hv1 => simp [hu]; exact rfl); (case hn1 => first | (simp; done) | (simp [undef]; done)))
      go_step
      refine (fSame p2 q2 _ (hp2.trans hq2.symm) (XP2.out.below hB5) (XQ2.out.below hB5)).mono ?_
      rintro e w6 ⟨rfl, hb6⟩
      exact hK _ _ w6 [] (by simp [Act.put]; done) (.of_below hb6) ⟨rfl, rfl⟩ (fun j hj => by cases hj)
  case hck1 => kernel_rfl
  case hkp1 => kernel_rfl
  intro us w11 Fs hG hu hbd hd
  simp [SL.Used, SL.aw_sub, SLF.pq] at hu
  have hB11 := S10.out.below.ch2 hG.below'
  clear hbd hd hG
  go_wp2_with fail
  refine bodyPost_ret (v := .bool true) (by simp [results, Tryz.results13, go_sem, *]) rfl ⟨rfl, hB11⟩
end Go.Proofs.YtodkbfbbpfghiaaGreat
namespace Go.Proofs.YtodkbfbbpfghiaaGreat
open Go.ChangeShapes Go.WideShapes Go.ChangeAt Go.RowKit Go.Joins Go.Deep
set_option maxRecDepth 100000 in
theorem wholeCases_lifted (os : Os) (started : os.Started) (H : Type) (enc : TypeId × Value → H) :
    ReturnsInHanded {} Tryz.checked os 13 .any (Rows.wholeCasesSpec.pre6 enc Tryz.prog Tryz.f13 Rows.wholeCasesRow.domain false) (Rows.wholeCasesSpec.post enc Tryz.prog Tryz.f13 false true false false) := by
  refine returnsInHanded_of_change_sized (C := Tryz.checked) Tryz.own started (by kernel_rfl) Tryz.func13
    (ChangeSpec.witness6 (enc := enc) (C := Tryz.checked) false ⟨#[], #[.agg #[.string ⟨#[]⟩, .int .i64 0, .int .i64 0, .slice none 0 0], .int .i64 0, .int .i64 0, .int .i64 0, .int .i64 0], []⟩ 8 (by kernel_rfl) (by kernel_rfl) (by kernel_rfl) (by kernel_rfl)) ?_
  intro W base args ds gs before hval0 hW _ hsz0 _
  have hsz : (DataW.weightsEach Tryz.prog (Tryz.f13.params.toList ++ Rows.wholeCasesSpec.plain.varTypes Tryz.prog) (ds ++ gs)).all (· ≤ reachBytes) = true := hsz0
  clear hsz0
  have hval : ∀ (j : Nat) t v, Tryz.f13.params[j]? = some t → args[j]? = some v → Value.okWide Tryz.prog W .any base t v := hval0
  have hW' := hW
  obtain ⟨p, q, hA0, hV, rfl, _, _⟩ := hW
  have hA : DataW.TrodAll enc Tryz.prog W 0 (fun _ => true) true Tryz.f13.params.toList args.toList ds p := hA0
  rw [Tryz.params13] at hA hval hsz
  obtain ⟨v0, vs0, d0, ds0, p0, q0, hargs, rfl, rfl, h0, r0⟩ := trodAll_cons hA
  obtain ⟨v1, vs1, d1, ds1, p1, q1, rfl, rfl, rfl, h1, r1⟩ := trodAll_cons r0
  obtain ⟨v2, vs2, d2, ds2, p2, q2, rfl, rfl, rfl, h2, r2⟩ := trodAll_cons r1
  obtain ⟨v3, vs3, d3, ds3, p3, q3, rfl, rfl, rfl, h3, r3⟩ := trodAll_cons r2
  obtain ⟨v4, vs4, d4, ds4, p4, q4, rfl, rfl, rfl, h4, r4⟩ := trodAll_cons r3
  obtain ⟨rfl, rfl, rfl⟩ := trodAll_nil r4
  obtain rfl : args = #[v0, v1, v2, v3, v4] := by cases args; simp_all
  obtain ⟨rfl, rfl⟩ := trodVars_none hV
  clear hA0 hval0
  have hlt : ∀ x ∈ p0 ++ p1 ++ p2 ++ p3 ++ p4, x.block < W.heap.size := fun x hx => by have := hW'.lt x (by simpa using hx); simpa using this
  obtain ⟨c0, rfl, hb0, hn0⟩ := case_open (hval 0 24 v0 rfl rfl) h0 (fun n hn => by
    have := List.all_eq_true.1 hsz _ (DataW.weights_mem_each (j := 0) rfl rfl n hn)
    simpa using this)
  obtain ⟨x1, rfl⟩ := okWide_int Tryz.underlying3 (hval 1 3 v1 rfl rfl)
  obtain ⟨x2, rfl⟩ := okWide_int Tryz.underlying3 (hval 2 3 v2 rfl rfl)
  obtain ⟨x3, rfl⟩ := okWide_int Tryz.underlying3 (hval 3 3 v3 rfl rfl)
  obtain ⟨x4, rfl⟩ := okWide_int Tryz.underlying3 (hval 4 3 v4 rfl rfl)
  refine (law_cases c0 x1 x2 x3 x4 W hb0 hn0).mono fun e W' ⟨he, hw⟩ => ?_
  subst he
  exact ⟨_, rfl, ⟨_, _, _, [], _, [], hW', trodAll_mk1 (shut_bool Tryz.underlying4 _), (trodAll_cons_mk (Below.trod Tryz.laidOut (by kernel_rfl) (of_decide_eq_true (by kernel_rfl)) h0 hw (fun x hx => hlt x (by simp [hx]))) (trodAll_cons_mk (Below.trod Tryz.laidOut (by kernel_rfl) (of_decide_eq_true (by kernel_rfl)) h1 hw (fun x hx => hlt x (by simp [hx]))) (trodAll_cons_mk (Below.trod Tryz.laidOut (by kernel_rfl) (of_decide_eq_true (by kernel_rfl)) h2 hw (fun x hx => hlt x (by simp [hx]))) (trodAll_cons_mk (Below.trod Tryz.laidOut (by kernel_rfl) (of_decide_eq_true (by kernel_rfl)) h3 hw (fun x hx => hlt x (by simp [hx]))) (trodAll_cons_mk (Below.trod Tryz.laidOut (by kernel_rfl) (of_decide_eq_true (by kernel_rfl)) h4 hw (fun x hx => hlt x (by simp [hx]))) trodAll_mk0))))), rfl, hw.frame _, fun h => by cases h⟩⟩
theorem wholeCases_holds : Rows.WholeCasesSaid :=
  OpenClaim.holds_of_wide 13 Tryz.f13 rfl rfl rfl rfl rfl rfl rfl ⟨rfl, rfl, rfl, rfl, rfl⟩ rfl rfl rfl rfl rfl (by kernel_rfl) Tryz.func13 (by kernel_rfl)
    (of_decide_eq_true (by kernel_rfl)) (by unfold Func.isWrapper; rw [if_neg (of_decide_eq_false (by kernel_rfl))]; exact ⟨rfl, rfl⟩)
    (fun os started H enc _ => wholeCases_lifted os started H enc)
#print axioms wholeCases_holds
end Go.Proofs.YtodkbfbbpfghiaaGreat
