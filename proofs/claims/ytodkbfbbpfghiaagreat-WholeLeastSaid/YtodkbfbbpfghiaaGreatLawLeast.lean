/-
  The law Least, walked, and its statement.
-/
import Derived.Test.YtodkbfbbpfghiaaGreatPb29
import Derived.Test.YtodkbfbbpfghiaaGreatPb21
import Derived.Test.YtodkbfbbpfghiaaGreatPb14
import Derived.Test.YtodkbfbbpfghiaaGreatRows
import Derived.OpenShut
set_option linter.unusedSimpArgs false
set_option linter.unusedVariables false
set_option linter.unnecessarySimpa false
namespace Go.Proofs.YtodkbfbbpfghiaaGreat
open Go.RowKit Go.Shelf Go.Lib
set_option maxHeartbeats 8000000
set_option maxRecDepth 100000
theorem law_least (c : Cs) (w : World) (hc : CsAt w c) (hcr : c.ps.length ≤ c.cap) :
    Calls Tryz.prog 10 #[c.v] w fun e w' => e = .returned (.bool true) ∧ Below w.heap.size w w' := by
  have fFew := fun W (h : CsAt W c) => lfew c W h
  unfold BoolAny at fFew
  have fL := fun W (h : CsAt W c) => wLeast c W h
  have gL := fun W (h : CsAt W c) => r6Least c W h
  rw [show c.lst = c.leastI from rfl] at gL
  have fX := fun W (h : CsAt W c) => wWitness c W h
  have fY := fun W (h : CsAt W c) => wShow c W h
  have fN := fun W (h : CsAt W c) => wNumbers c W h
  have gN := fun W (h : CsAt W c) => r6Numbers c W h
  have gX := fun a k W (h : CsAt W c) (h2 : IntsAt W a c.witO.length k c.witO) => r6CheckWitness c a _ k c.witO W h h2
  have gY := fun a k W (h : CsAt W c) (h2 : RngsAt W a c.showO.length k c.showO) hr => r6CheckShow c a _ k c.showO c.leastI W h h2 hr
  have gD := fun lo hi W (h : CsAt W c) => r6Demand c lo hi W h
  unfold IntPost at fX
  unfold RngPost at fY
  simp only [Cs.v] at fFew fL gL fX fY fN gN gX gY gD ⊢
  generalize c.num = NM at *
  obtain ⟨⟨NL, NH⟩, NS⟩ := NM
  simp only at fN gN
  have S0 := LS.start w hc
  obtain ⟨y0, y1, y2, y3, yl⟩ := S0.cells
  have S0 := Lib.hid S0
  by_cases h0 : c.chk = 0
  · obtain ⟨hmm, hok, hsl⟩ := (Cs.chk_zero.1 h0).many'
    have hli : c.leastI = (leastN c.s : Int) := by unfold Cs.leastI; rw [if_pos h0]
    have hle := least_le_len hok
    have hX1 : c.wit c.witO = true := by unfold Cs.wit Cs.witO; rw [if_pos h0, h0, witS_wit hok]; rfl
    have hX2 : c.witO.length = leastN c.s := by unfold Cs.witO; rw [if_pos h0, witS_many hok]
    have hY1 : c.shw c.showO (leastN c.s : Int) = true := by unfold Cs.shw Cs.showO; rw [if_pos h0, h0, shwB_show hok, showL_sum hok]; simp
    have hYs : c.showO = showL c.s := by unfold Cs.showO; rw [if_pos h0]
    have hYl : c.showO.length ≤ 1000000 := by rw [hYs]; exact showL_small hok (by omega)
    have hCh : ∀ r ∈ c.showO, 0 < dem c.s r.1 r.2 := by rw [hYs]; exact fun r hr => ((showL_chain hok).each r hr).2.2.2
    have hSu : sumD c.s c.showO = leastN c.s := by rw [hYs]; exact showL_sum hok
    have gE : ∀ lo hi W, CsAt W c → Calls Tryz.prog 22 #[.agg #[.string c.ware, .int .i64 c.lim, .int .i64 c.byr, .slice c.a c.ps.length c.cap], .agg #[.int .i64 lo, .int .i64 hi]] W fun e w' => e = .returned (.tuple #[.int .i64 (dem c.s lo hi : Int), .int .i64 0]) ∧ Below W.heap.size W w' := fun lo hi W h => by
      have := gD lo hi W h
      unfold Cs.dem at this
      rw [if_pos h0, h0] at this
      exact this
    rw [hli] at fL gL gY
    simp only [h0, hX1, hY1] at fL gL fX fY fN gN gX gY
    have hN40 : leastN c.s ≤ 40 := by omega
    clear gD hX1 hY1 hYs hli hle hsl hok hmm h0
    generalize c.s = s at *
    generalize leastN s = N at *
    generalize c.witO = WX at *
    generalize c.showO = WY at *
    have HYl := Lib.hid hYl
    have HCh := Lib.hid hCh
    have HSu := Lib.hid hSu
    have HE := Lib.hid gE
    have n1 : ((WX.length : Int) == (N : Int)) = true := by rw [hX2]; simp
    have n2 : ((N : Int) == (N : Int)) = true := by simp
    have e1 : ((N : Int) != (N : Int)) = false := by simp
    have e2 : (NL != NL) = false := by simp
    have e3 : (NH != NH) = false := by simp
    have e4 : (NS != NS) = false := by simp
    have HN := Lib.hid hN40
    clear hYl hCh hSu hX2 hN40 gE
    go_enter Tryz.func10, Tryz.ntmps10
    go_wp2_with (first
      | (go_at_call 16; (with_reducible refine (fFew _ S0.out.c1).mono ?_); rintro e w1 ⟨b, rfl, hb1⟩; have S1 := (S0.out).ch hb1; clear y0 y1 y2 y3 yl; obtain ⟨y0, y1, y2, y3, yl⟩ := S1.cells; have S1 := Lib.hid S1; cases b; clear hb1)
      | (go_at_call 31; (with_reducible refine (fL _ S1.out.c1).mono ?_); rintro e w2 ⟨rfl, hb2⟩; have S2 := (S1.out).ch hb2; clear y0 y1 y2 y3 yl; obtain ⟨y0, y1, y2, y3, yl⟩ := S2.cells; have S2 := Lib.hid S2; clear hb2)
      | (go_at_call 42; (with_reducible refine (gL _ S2.out.c1).mono ?_); rintro e w3 ⟨rfl, hb3⟩; have S3 := (S2.out).ch hb3; clear y0 y1 y2 y3 yl; obtain ⟨y0, y1, y2, y3, yl⟩ := S3.cells; have S3 := Lib.hid S3; clear hb3)
      | (go_at_call 43; (with_reducible refine (fX _ S3.out.c1).mono ?_); rintro e w4 ⟨xa, xk, rfl, hb4, hx, _⟩; have S4 := (S3.out).ch hb4; clear y0 y1 y2 y3 yl; obtain ⟨y0, y1, y2, y3, yl⟩ := S4.cells; have S4 := Lib.hid S4; have XX := Lib.hid (hx); clear hx; clear hb4)
      | (go_at_call 44; (with_reducible refine (fY _ S4.out.c1).mono ?_); rintro e w5 ⟨sa, sk, rfl, hb5, hs⟩; have S5 := (S4.out).ch hb5; clear y0 y1 y2 y3 yl; obtain ⟨y0, y1, y2, y3, yl⟩ := S5.cells; have S5 := Lib.hid S5; have XX := Lib.hid (XX.out.below hb5); have XS := Lib.hid (hs); clear hs; clear hb5)
      | (go_at_call 32; (with_reducible refine (fN _ S5.out.c1).mono ?_); rintro e w6 ⟨rfl, hb6⟩; have S6 := (S5.out).ch hb6; clear y0 y1 y2 y3 yl; obtain ⟨y0, y1, y2, y3, yl⟩ := S6.cells; have S6 := Lib.hid S6; have XX := Lib.hid (XX.out.below hb6); have XS := Lib.hid (XS.out.below hb6); clear hb6)
      | (go_at_call 45; (with_reducible refine (gN _ S6.out.c1).mono ?_); rintro e w7 ⟨rfl, hb7⟩; have S7 := (S6.out).ch hb7; clear y0 y1 y2 y3 yl; obtain ⟨y0, y1, y2, y3, yl⟩ := S7.cells; have S7 := Lib.hid S7; have XX := Lib.hid (XX.out.below hb7); have XS := Lib.hid (XS.out.below hb7); clear hb7)
      | (go_at_call 24; (with_reducible refine (gX _ _ _ S7.out.c1 XX.out).mono ?_); rintro e w8 ⟨rfl, hb8⟩; have S8 := (S7.out).ch hb8; clear y0 y1 y2 y3 yl; obtain ⟨y0, y1, y2, y3, yl⟩ := S8.cells; have S8 := Lib.hid S8; have XX := Lib.hid (XX.out.below hb8); have XS := Lib.hid (XS.out.below hb8); clear hb8)
      | (go_at_call 26; (with_reducible refine (gY _ _ _ S8.out.c1 XS.out HYl.out).mono ?_); rintro e w9 ⟨rfl, hb9⟩; have S9 := (S8.out).ch hb9; clear y0 y1 y2 y3 yl; obtain ⟨y0, y1, y2, y3, yl⟩ := S9.cells; have S9 := Lib.hid S9; have XX := Lib.hid (XX.out.below hb9); have XS := Lib.hid (XS.out.below hb9); clear hb9)
      | (go_at_call 17; (with_reducible refine (ltold _).mono ?_); rintro e wT ⟨rfl, hbT⟩))
    · go_ret
      exact ⟨rfl, S1.out.below.ch2 hbT⟩
    go_loopw [23, 24] (fun sm i wr => ∃ k : Nat, k ≤ WY.length ∧ sm = .int .i64 (sumD s (WY.take k)) ∧ i = .int .i64 k ∧ Below w9.heap.size w9 wr) (fun _ i _ => WY.length - (RowKit.intOf i).toNat)
    case atStart => exact ⟨0, Nat.zero_le _, rfl, rfl, Below.refl _ _⟩
    case round =>
      obtain ⟨k, hk', rfl, rfl, hB⟩ := hrel
      have SR := Lib.hid (S9.out.ch hB)
      have XR := Lib.hid (XS.out.below hB)
      clear y0 y1 y2 y3 yl
      obtain ⟨y0, y1, y2, y3, yl⟩ := SR.out.cells
      have hnn : (0 : Int) ≤ k := by omega
      by_cases hlt : k < WY.length
      · have i1 : (k : Int) < (WY.length : Int) := by omega
        obtain ⟨b, o, rfl, hbl, d0, d1⟩ := XR.out.get hlt
        have hpos : 0 < dem s (WY.getD k default).1 (WY.getD k default).2 := HCh.out _ (by rw [List.getD_eq_getElem?_getD, List.getElem?_eq_getElem hlt]; exact List.getElem_mem hlt)
        have hst := sumD_take (s := s) hlt
        have hsb := sumD_part s WY (k + 1)
        rw [HSu.out, hst] at hsb
        have Hst := Lib.hid hst
        clear hst
        obtain ⟨x, hx⟩ : ∃ x, (WY.getD k default).1 = x := ⟨_, rfl⟩
        obtain ⟨y, hy⟩ : ∃ y, (WY.getD k default).2 = y := ⟨_, rfl⟩
        rw [hx] at d0
        rw [hy] at d1
        rw [hx, hy] at hpos hsb Hst
        have hDm := HE.out x y
        generalize dem s x y = D at *
        generalize hS : sumD s (WY.take k) = S at *
        have hN := HN.out
        have hyl := HYl.out
        have c1 : decide ((D : Int) < 1) = false := by simp; omega
        have hw1 : IntKind.i64.wrap ((S : Int) + (D : Int)) = (S : Int) + (D : Int) := IntWalk.i64_in _ (by omega)
        have Hpos := Lib.hid hpos
        clear hx hy hS hsb hN hpos
        go_wp2_with fail
        apply SLG.rule0 ?hm1 [] [134, 135, 136, 137, 138, 139, 133, 140, 141, 25, 26] [SLF.pq 134 [] _, SLF.pq 135 [] _, SLF.pq 136 [] _, SLF.pq 137 [1, 2] _, SLF.pq 138 [3] _, SL.pu 139 [0, 4] (.tuple #[.int .i64 D, .int .i64 0]), SLF.pq 133 [5] _, SLF.pq 140 [6] _, SLF.pq 141 [6] _, SLF.pq 25 [7] _, SLF.pq 26 [8] _] [9] ?hck1 ?hkp1 (fun _ => []) ?hin1 ?hdj1 ?hfr1 ?ob1 ?en1
        case hm1 => kernel_rfl
        case hin1 => exact SL.none_held rfl
        case hdj1 => simp
        case hfr1 => intro us; simp only [SL.frame, SL.put']; simp; exact rfl
        case ob1 =>
          refine ⟨?_, ?_, ?_, ?_, ?_, ?_, ?_, ?_, ?_, ?_, ?_, trivial⟩
          all_goals first
            | (intro us w' Fe hG hu hd hv Kx hK
               try dsimp only
               simp [SL.Used, SL.pu, SL.row, SL.box, SL.rowIn, SL.boxIn, SL.boxAt, SL.boxAtIn, SLF.pq, Act.put, SL.aw_sub, SL.aw_use, SL.aw_eat, SL.aw_V, SL.aw_quiet] at hu hK
               have hB5 : Below wr.heap.size wr w' := hG.below'
               obtain ⟨hc5, hf5⟩ := bcell hB5
               have hs5 := hB5.size
               clear hv hG
               refine SLF.wpo_do (SLF.wanted_free rfl) ?hd1 ?_
               case hd1 => intro c h; cases h
               clear hd
               first
                 | (go_step; exact hK _ _ _ (SL.Chg.refl _ _) (by first | exact rfl | (simp only [hu]; exact rfl)) rfl (by simp) rfl)
                 | exact hK _ _ _ (SL.Chg.refl _ _) rfl rfl (by simp) rfl)
            | skip
          · refine SLG.ob_sp rfl rfl rfl fun us w' Fe hG hu hd Kx hK => ?_
            try dsimp only
            simp [SL.Used, SL.pu, SL.row, SL.box, SL.rowIn, SL.boxIn, SL.boxAt, SL.boxAtIn, SLF.pq, Act.put, SL.aw_sub, SL.aw_use, SL.aw_eat, SL.aw_V, SL.aw_quiet] at hu
            have hB5 : Below wr.heap.size wr w' := hG.below'
            obtain ⟨hc5, hf5⟩ := bcell hB5
            have hs5 := hB5.size
            refine SLF.wpo_do (SLF.wanted_free rfl) ?hd1 ?_
            case hd1 => intro c h; cases h
            go_step
            refine (hDm _ (SR.out.c1.below hB5)).mono ?_
            rintro e w6 ⟨rfl, hb6⟩
            exact hK _ _ w6 [] (by simp [Act.put]; done) (.of_below hb6) ⟨rfl, rfl⟩ (fun j hj => by cases hj)
        case hck1 => kernel_rfl
        case hkp1 => kernel_rfl
        intro us wE Fs hG hu hbd hd
        simp [SL.Used, SLF.pq] at hu
        obtain ⟨u25, _⟩ := hu
        have hBE := hG.below'
        simp only [u25]
        clear hbd hd hG
        go_wp2_with fail
        go_roundw
        case rel => exact ⟨k + 1, by omega, by rw [Hst.out]; simp, by go_num, hB.ch2 hBE⟩
        case measure => simp [RowKit.intOf]; omega
      · have hk2 : k = WY.length := by omega
        subst hk2
        rw [List.take_length, HSu.out]
        go_wp2_with (go_at_call 17; (with_reducible refine (ltold _).mono ?_); rintro e wT ⟨rfl, hbT⟩)
        go_ret
        exact ⟨rfl, SR.out.below.ch2 hbT⟩
  · have hX : c.witO = [] := by unfold Cs.witO; rw [if_neg h0]
    have hY : c.showO = [] := by unfold Cs.showO; rw [if_neg h0]
    have b0 : (c.chk == 0) = false := by simpa using h0
    rw [hX] at fX
    rw [hY] at fY
    clear gX gY gD h0 hX hY
    generalize c.leastI = LI at *
    generalize c.chk = E at *
    have e1 : (LI != LI) = false := by simp
    have e2 : (NL != NL) = false := by simp
    have e3 : (NH != NH) = false := by simp
    have e4 : (NS != NS) = false := by simp
    have e5 : (E != E) = false := by simp
    go_enter Tryz.func10, Tryz.ntmps10
    go_wp2_with (first
      | (go_at_call 16; (with_reducible refine (fFew _ S0.out.c1).mono ?_); rintro e w1 ⟨b, rfl, hb1⟩; have S1 := (S0.out).ch hb1; clear y0 y1 y2 y3 yl; obtain ⟨y0, y1, y2, y3, yl⟩ := S1.cells; have S1 := Lib.hid S1; cases b; clear hb1)
      | (go_at_call 31; (with_reducible refine (fL _ S1.out.c1).mono ?_); rintro e w2 ⟨rfl, hb2⟩; have S2 := (S1.out).ch hb2; clear y0 y1 y2 y3 yl; obtain ⟨y0, y1, y2, y3, yl⟩ := S2.cells; have S2 := Lib.hid S2; clear hb2)
      | (go_at_call 42; (with_reducible refine (gL _ S2.out.c1).mono ?_); rintro e w3 ⟨rfl, hb3⟩; have S3 := (S2.out).ch hb3; clear y0 y1 y2 y3 yl; obtain ⟨y0, y1, y2, y3, yl⟩ := S3.cells; have S3 := Lib.hid S3; clear hb3)
      | (go_at_call 43; (with_reducible refine (fX _ S3.out.c1).mono ?_); rintro e w4 ⟨xa, xk, rfl, hb4, hx, _⟩; have S4 := (S3.out).ch hb4; clear y0 y1 y2 y3 yl; obtain ⟨y0, y1, y2, y3, yl⟩ := S4.cells; have S4 := Lib.hid S4; have XX := Lib.hid (hx); clear hx; clear hb4)
      | (go_at_call 44; (with_reducible refine (fY _ S4.out.c1).mono ?_); rintro e w5 ⟨sa, sk, rfl, hb5, hs⟩; have S5 := (S4.out).ch hb5; clear y0 y1 y2 y3 yl; obtain ⟨y0, y1, y2, y3, yl⟩ := S5.cells; have S5 := Lib.hid S5; have XX := Lib.hid (XX.out.below hb5); have XS := Lib.hid (hs); clear hs; clear hb5)
      | (go_at_call 32; (with_reducible refine (fN _ S5.out.c1).mono ?_); rintro e w6 ⟨rfl, hb6⟩; have S6 := (S5.out).ch hb6; clear y0 y1 y2 y3 yl; obtain ⟨y0, y1, y2, y3, yl⟩ := S6.cells; have S6 := Lib.hid S6; have XX := Lib.hid (XX.out.below hb6); have XS := Lib.hid (XS.out.below hb6); clear hb6)
      | (go_at_call 45; (with_reducible refine (gN _ S6.out.c1).mono ?_); rintro e w7 ⟨rfl, hb7⟩; have S7 := (S6.out).ch hb7; clear y0 y1 y2 y3 yl; obtain ⟨y0, y1, y2, y3, yl⟩ := S7.cells; have S7 := Lib.hid S7; have XX := Lib.hid (XX.out.below hb7); have XS := Lib.hid (XS.out.below hb7); clear hb7)
      | (go_at_call 17; (with_reducible refine (ltold _).mono ?_); rintro e w8 ⟨rfl, hb8⟩; have S8 := (S7.out).ch hb8; clear y0 y1 y2 y3 yl; obtain ⟨y0, y1, y2, y3, yl⟩ := S8.cells; have S8 := Lib.hid S8; have XX := Lib.hid (XX.out.below hb8); have XS := Lib.hid (XS.out.below hb8); clear hb8)
      | (go_at_call 17; (with_reducible refine (ltold _).mono ?_); rintro e wT ⟨rfl, hbT⟩))
    all_goals go_ret
    all_goals first
      | exact ⟨rfl, S8.out.below⟩
      | exact ⟨rfl, S1.out.below.ch2 hbT⟩
end Go.Proofs.YtodkbfbbpfghiaaGreat
namespace Go.Proofs.YtodkbfbbpfghiaaGreat
open Go.ChangeShapes Go.WideShapes Go.ChangeAt Go.RowKit Go.Joins Go.Deep
set_option maxRecDepth 100000 in
theorem wholeLeast_lifted (os : Os) (started : os.Started) (H : Type) (enc : TypeId × Value → H) :
    ReturnsInHanded {} Tryz.checked os 10 .any (Rows.wholeLeastSpec.pre6 enc Tryz.prog Tryz.f10 Rows.wholeLeastRow.domain false) (Rows.wholeLeastSpec.post enc Tryz.prog Tryz.f10 false true false false) := by
  refine returnsInHanded_of_change_sized (C := Tryz.checked) Tryz.own started (by kernel_rfl) Tryz.func10
    (ChangeSpec.witness6 (enc := enc) (C := Tryz.checked) false ⟨#[], #[.agg #[.string ⟨#[]⟩, .int .i64 0, .int .i64 0, .slice none 0 0]], []⟩ 8 (by kernel_rfl) (by kernel_rfl) (by kernel_rfl) (by kernel_rfl)) ?_
  intro W base args ds gs before hval0 hW _ hsz0 _
  have hsz : (DataW.weightsEach Tryz.prog (Tryz.f10.params.toList ++ Rows.wholeLeastSpec.plain.varTypes Tryz.prog) (ds ++ gs)).all (· ≤ reachBytes) = true := hsz0
  clear hsz0
  have hval : ∀ (j : Nat) t v, Tryz.f10.params[j]? = some t → args[j]? = some v → Value.okWide Tryz.prog W .any base t v := hval0
  have hW' := hW
  obtain ⟨p, q, hA0, hV, rfl, _, _⟩ := hW
  have hA : DataW.TrodAll enc Tryz.prog W 0 (fun _ => true) true Tryz.f10.params.toList args.toList ds p := hA0
  rw [Tryz.params10] at hA hval hsz
  obtain ⟨v0, d0, rfl, rfl, h0⟩ := trodAll_one hA
  obtain ⟨rfl, rfl⟩ := trodVars_none hV
  clear hA0 hval0
  simp only [List.append_nil] at hW'
  have hlt : ∀ x ∈ p, x.block < W.heap.size := fun x hx => by simpa using hW'.lt x hx
  obtain ⟨c0, rfl, hb0, hn0⟩ := case_open (hval 0 24 v0 rfl rfl) h0 (fun n hn => by
    have := List.all_eq_true.1 hsz _ (DataW.weights_mem_each (j := 0) rfl rfl n hn)
    simpa using this)
  refine (law_least c0 W hb0 hn0).mono fun e W' ⟨he, hw⟩ => ?_
  subst he
  exact ⟨_, rfl, ⟨_, _, _, [], _, [], hW', trodAll_mk1 (shut_bool Tryz.underlying4 _), trodAll_mk1 (Below.trod Tryz.laidOut (by kernel_rfl) (of_decide_eq_true (by kernel_rfl)) h0 hw hlt), rfl, hw.frame _, fun h => by cases h⟩⟩
theorem wholeLeast_holds : Rows.WholeLeastSaid :=
  OpenClaim.holds_of_wide 10 Tryz.f10 rfl rfl rfl rfl rfl rfl rfl ⟨rfl, rfl, rfl, rfl, rfl⟩ rfl rfl rfl rfl rfl (by kernel_rfl) Tryz.func10 (by kernel_rfl)
    (of_decide_eq_true (by kernel_rfl)) (by unfold Func.isWrapper; rw [if_neg (of_decide_eq_false (by kernel_rfl))]; exact ⟨rfl, rfl⟩)
    (fun os started H enc _ => wholeLeast_lifted os started H enc)
#print axioms wholeLeast_holds
end Go.Proofs.YtodkbfbbpfghiaaGreat
