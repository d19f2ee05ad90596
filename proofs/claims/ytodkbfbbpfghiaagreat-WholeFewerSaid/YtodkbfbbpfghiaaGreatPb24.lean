/-
  Lemmas and walks for the laws on roads and boards: what each function of the program answers, for every input.
-/
import Derived.Test.YtodkbfbbpfghiaaGreatPb23
import Derived.Test.YtodkbfbbpfghiaaGreatPb12
import Derived.Test.YtodkbfbbpfghiaaGreatPb21
import Derived.Test.YtodkbfbbpfghiaaGreatPb09
import Derived.Test.YtodkbfbbpfghiaaGreatPb04
import Derived.Shelf.Spec.SlicesInsertGrow
import Derived.Test.YtodkbfbbpfghiaaGreatPb22
import Derived.Test.YtodkbfbbpfghiaaGreatPb13
import Derived.Test.YtodkbfbbpfghiaaGreatPb10
set_option linter.unusedSimpArgs false
set_option linter.unusedVariables false
set_option linter.unnecessarySimpa false
namespace Go.Proofs.YtodkbfbbpfghiaaGreat
open Go.RowKit Go.Shelf
set_option maxHeartbeats 4000000
set_option maxRecDepth 100000
theorem wsplit (a : Option Addr) (ca m : Nat) (v : List Int) (n : Int) (w : World) (hv : IntsAt w a m ca v) (hl : v.length ≤ 100) (hr : ∀ k, k ≤ v.length → ∀ x ∈ splN n v k, 0 ≤ x ∧ x ≤ 1000) :
    Calls Tryz.prog 107 #[.slice a m ca, .int .i64 n] w (RowPost w 3 1 v.length ((numL (splN n v v.length)).map (.int .i64))) := by
  obtain rfl := hv.len
  have hCl := cloneI a v.length ca v w hv (by omega)
  obtain ⟨Q, hQ⟩ : ∃ Q, RowPost w 3 1 v.length ((numL (splN n v v.length)).map (.int .i64)) = Q := ⟨_, rfl⟩
  rw [hQ]
  have HQ := Lib.hid hQ
  have Hr := Lib.hid hr
  clear hQ hr
  go_enter Tryz.func107, Tryz.ntmps107
  go_wp2_with fail
  go_step3
  go_wp2_with (go_at_call 111; (with_reducible refine hCl.mono ?_); rintro e w2 ⟨v2, rfl, hb2, ho2⟩; obtain ⟨oa, oc, rfl, hoa⟩ := owns_slice ho2)
  have hbo := SL.row_bounds ho2
  obtain ⟨EE, hEE⟩ : ∃ EE, (Value.slice oa v.length oc).ownBlock.toList = EE := ⟨_, rfl⟩
  rw [hEE] at hbo
  have HEE := Lib.hid hEE
  have Hbo := Lib.hid hbo
  have ho0 : w2.ownsRow w.heap.size 3 1 (.slice oa v.length oc) v.length ((splN n v 0).map (.int .i64)) := ho2
  clear ho2 hbo hEE hoa
  go_step3
  go_wp2_with fail
  go_loopw [11] (fun i wr => ∃ k : Nat, k ≤ v.length ∧ i = .int .i64 k ∧ SL.Chg EE w2 wr ∧ wr.ownsRow w.heap.size 3 1 (.slice oa v.length oc) v.length ((splN n v k).map (.int .i64))) (fun i _ => v.length - (RowKit.intOf i).toNat)
  case atStart => exact ⟨0, Nat.zero_le _, rfl, SL.Chg.refl _ _, ho0⟩
  case round =>
    obtain ⟨k, hk, rfl, hC, ho⟩ := hrel
    clear ho0
    have hnn : (0 : Int) ≤ k := by omega
    by_cases hlt : k < v.length
    · have i1 : (k : Int) < (v.length : Int) := by omega
      have hX := splN_succ n v k
      have hXl := splN_len n v k
      have hst := fun h => @splN_stop n v k h v.length (by omega)
      have hxr := Hr.out k hk
      have hNx := fun x h => Hr.out v.length (Nat.le_refl _) x h
      generalize hX1 : splN n v (k + 1) = X1 at *
      have HX1 := Lib.hid hX1
      generalize splN n v k = X at *
      have HO := Lib.hid ho
      have HC := Lib.hid hC
      have hVe := fun W h => wvessels oa v.length oc X W h (fun x hx => by have := hxr x hx; omega)
      have hIX : IntsAt wr oa v.length oc X := IntsAt.of_owns ho (by omega)
      obtain ⟨g, eo, _, gbl, hgc⟩ := owns_some ho (by omega)
      subst eo
      have hxk := hxr _ (mem_getD (l := X) (i := k) (by omega))
      clear hX1 ho hC hxr
      generalize hV : vesL X = V at *
      clear hV
      by_cases hge : n ≤ V
      · have HXX := Lib.hid (hst hge)
        have hd1 : decide (n ≤ V) = true := decide_eq_true hge
        have hN := fun a ca W h => wnumbered a ca v.length X W h (by omega) (fun x hx => by have := hNx x (by rw [HXX.out]; exact hx); omega)
        rw [hXl] at hN
        rw [HXX.out] at HQ
        clear hst hX hge hNx
        have hBW := hb2.trans (HC.out.belowW hb2.size fun k hk => (Hbo.out k hk).1)
        have HN := Lib.hid hN
        clear hN
        go_wp2_with (first
          | (go_at_call 138; (with_reducible refine (hVe _ hIX).mono ?_); rintro e w3 ⟨rfl, hb3⟩)
          | (go_at_call 89; (with_reducible refine (HN.out _ _ _ (hIX.below hb3)).mono ?_); rintro e w4 ⟨v4, rfl, hb4, ho4⟩))
        try rw [Exit.noGoto_ret]
        rw [← HQ.out]
        exact ⟨_, rfl, (hBW.ch2 hb3).ch2 hb4, SL.row_base ho4 (hBW.ch2 hb3).size⟩
      · have hd1 : decide (n ≤ V) = false := decide_eq_false hge
        have hd2 : V < n := by omega
        obtain ⟨x, hxx⟩ : ∃ x, X.getD k 0 = x := ⟨_, rfl⟩
        obtain ⟨B, hBB⟩ : ∃ B, (X.take k).contains x = B := ⟨_, rfl⟩
        rw [hxx, hBB] at hX
        have hCo := fun W h => containsI (some ⟨g, 0, none⟩) k oc (X.take k) x W h
        rw [hBB] at hCo
        have hgE : g ∈ EE := by rw [← HEE.out]; simp [Value.ownBlock]
        have hk6 : X1 = if B = true then X.set k V else X := by rw [hX]; simp [hd2]
        have HK := Lib.hid hk6
        have hIX3 := fun W (h : Below wr.heap.size wr W) => hIX.below h
        have HXK := Lib.hid (map_getD (X := X) (q := k) (by omega))
        have Hxx := Lib.hid hxx
        clear hst hX hge hNx hxk hk6 hBB hxx
        go_wp2_with (go_at_call 138; (with_reducible refine (hVe _ hIX).mono ?_); rintro e w3 ⟨rfl, hb3⟩)
        have i2 : (k : Int) ≤ (oc : Int) := by omega
        have kc : w3.cell? ⟨g, k, none⟩ = some (.int .i64 x) := ((HO.out.up hb3 (Nat.le_refl _)).cellAt k (by omega)).trans (by rw [HXK.out, Hxx.out])
        have gb3 : g < w3.heap.size := Nat.lt_of_lt_of_le gbl hb3.size
        have hI3 := hIX.below hb3
        clear hVe hd2
        apply SLG.rule0 ?hm1 [] [21, 22, 23, 24, 25, 26, 27, 28, 20] [SLF.pq 21 [] _, SLF.pq 22 [] _, SLF.pq 23 [0, 1] _, SLF.pq 24 [] _, SLF.pq 25 [] _, SLF.pq 26 [3, 4] _, SLF.pq 27 [5] _, SL.pu 28 [2, 6] (.bool B), SLF.pq 20 [7] _] [8] ?hck1 ?hkp1 (fun _ => []) ?hin1 ?hdj1 ?hfr1 ?ob1 ?en1
        case hm1 => kernel_rfl
        case hin1 => exact SL.none_held rfl
        case hdj1 => simp
        case hfr1 => intro us; simp only [SL.frame, SL.put']; simp; exact rfl
        case ob1 =>
          refine ⟨?_, ?_, ?_, ?_, ?_, ?_, ?_, ?_, ?_, trivial⟩
          all_goals first
            | (intro us w' Fe hG hu hd hv Kx hK
               try dsimp only
               simp [SL.Used, SL.pu, SL.row, SL.box, SL.rowIn, SL.boxIn, SL.boxAt, SL.boxAtIn, SLF.pq, Act.put, SL.aw_sub, SL.aw_use, SL.aw_eat, SL.aw_V, SL.aw_quiet] at hu hK
               have hB5 : Below w3.heap.size w3 w' := hG.below'
               obtain ⟨hc5, hf5⟩ := bcell hB5
               have hs5 := hB5.size
               clear hv hG
               refine SLF.wpo_do (SLF.wanted_free rfl) ?hd1 ?_
               case hd1 => intro c h; cases h
               clear hd
               first
                 | (go_step; exact hK _ _ _ (SL.Chg.refl _ _) (by first | exact rfl | (simp only [hu]; exact rfl)) rfl (by simp) rfl)
                 | exact hK _ _ _ (SL.Chg.refl _ _) rfl rfl (by simp) rfl)
            | skip
          · refine SLG.ob_sp rfl rfl rfl fun us w' Fe hG hu hd Kx hK => ?_
            try dsimp only
            simp [SL.Used, SL.pu, SL.row, SL.box, SL.rowIn, SL.boxIn, SL.boxAt, SL.boxAtIn, SLF.pq, Act.put, SL.aw_sub, SL.aw_use, SL.aw_eat, SL.aw_V, SL.aw_quiet] at hu
            have hB5 : Below w3.heap.size w3 w' := hG.below'
            obtain ⟨hc5, hf5⟩ := bcell hB5
            have hs5 := hB5.size
            refine SLF.wpo_do (SLF.wanted_free rfl) ?hd1 ?_
            case hd1 => intro c h; cases h
            go_step
            refine (hCo w' ((hI3.below hB5).take (by omega) (by simp))).mono ?_
            rintro e w6 ⟨rfl, hb6⟩
            exact hK _ _ w6 [] (by simp [Act.put]; done) (.of_below hb6) ⟨rfl, rfl⟩ (fun j hj => by cases hj)
        case hck1 => kernel_rfl
        case hkp1 => kernel_rfl
        intro us w5 Fs hG hu hbd hd
        simp [SL.Used, SLF.pq] at hu
        obtain ⟨u20, _⟩ := hu
        have hB5 : Below w3.heap.size w3 w5 := hG.below'
        have hB35 := hb3.ch2 hB5
        have hO5 := HO.out.up hB35 (Nat.le_refl _)
        have HC5 := Lib.hid (HC.out.trans (.of_below hB35))
        simp only [u20]
        clear hbd hd hG
        cases B
        · have HO5 := Lib.hid hO5
          clear hO5
          go_wp2_with fail
          go_roundw
          case rel => exact ⟨k + 1, by omega, by go_num, HC5.out, by rw [HX1.out, HK.out, if_neg (by simp)]; exact HO5.out⟩
          case measure => simp [RowKit.intOf]; omega
        · have kc5 := (hO5.cellAt k (by omega)).trans HXK.out
          have kf5 := hO5.frozenAt k
          have HS := Lib.hid (hO5.stored k (.int .i64 V)).1
          have HgE := Lib.hid hgE
          clear hO5 hgE kc
          go_wp2_with fail
          go_roundw
          case rel => exact ⟨k + 1, by omega, by go_num, HC5.out.trans (.setCell _ HgE.out _), by rw [HX1.out, HK.out, if_pos rfl, List.map_set]; exact HS.out⟩
          case measure => simp [RowKit.intOf]; omega
    · have hk2 : k = v.length := by omega
      subst hk2
      have hXl := splN_len n v v.length
      have hN := fun a ca W h => wnumbered a ca v.length (splN n v v.length) W h (by omega) (fun x hx => by have := Hr.out _ (Nat.le_refl _) x hx; omega)
      rw [hXl] at hN
      generalize splN n v v.length = X at *
      have HO := Lib.hid ho
      have HC := Lib.hid hC
      clear ho hC
      have hIA := IntsAt.of_owns HO.out (by omega)
      have hBW := hb2.trans (HC.out.belowW hb2.size fun k hk => (Hbo.out k hk).1)
      have HN := Lib.hid hN
      clear hN
      go_wp2_with (go_at_call 89; (with_reducible refine (HN.out _ _ _ hIA).mono ?_); rintro e w4 ⟨v4, rfl, hb4, ho4⟩)
      try rw [Exit.noGoto_ret]
      rw [← HQ.out]
      exact ⟨_, rfl, hBW.ch2 hb4, SL.row_base ho4 (hBW.size)⟩
theorem wNumbers (c : Cs) (w : World) (hc : CsAt w c) :
    Calls Tryz.prog 32 #[c.v] w fun e w' => e = .returned (.tuple #[.int .i64 c.num.1.1, .int .i64 c.num.1.2, .bool c.num.2, .int .i64 c.chk]) ∧ Below w.heap.size w w' := by
  have hC := fun w1 (h : CsAt w1 c) => wlaid0 c w1 h
  have hz := @Cs.chk_zero c
  have hr : c.num = if c.chk = 0 ∧ (leastN c.s : Int) ≤ c.most then (((leastN c.s : Int), c.most), true) else ((0, 0), false) := rfl
  generalize c.num = R at *
  generalize c.chk = E at *
  by_cases h0 : E = 0
  · subst h0
    obtain ⟨hm, hok, hsl⟩ := (hz.1 rfl).many'
    have hO := fun w1 a ca f cf (hs : SpansAt w1 a ca f cf c.ps.length c.s) => wleast a ca f cf _ c.s w1 hs (by omega) hok
    have hMo := fun N w1 a ca f cf (h : TabAt w1 N c a ca f cf) => wmost c N a ca f cf w1 h (by omega)
    simp only [ne_eq, not_true, false_implies, true_and, true_implies] at hC hr
    unfold spV at hO
    clear hz hm hok hsl
    generalize leastN c.s = L at *
    generalize c.most = M at *
    obtain ⟨ware, lim, byr, a, cap, ps⟩ := c
    simp only [Cs.v] at *
    have hB0 := one_alloc w (Obj.cells #[.string ware, .int .i64 lim, .int .i64 byr, .slice a ps.length cap] 24)
    have hbx := hc.below hB0
    by_cases hLM : (L : Int) ≤ M
    · have hd : decide (M < (L : Int)) = false := by simp only [decide_eq_false_iff_not]; omega
      rw [if_pos hLM] at hr
      subst hr
      have HL := Lib.hid hLM
      clear hLM
      go_enter Tryz.func32, Tryz.ntmps32
      go_wp2_with (first
        | (go_at_call 75; (with_reducible refine (hC _ hbx).mono ?_); rintro e w1 ⟨N, a1, ca, f1, cf, rfl, hb1, hN, hT⟩; obtain ⟨t0, t1, t2, t3, t4, t5⟩ := hT.get; have hNl := hT.lt)
        | (go_at_call 80; (with_reducible refine (hO _ _ _ _ _ hT.sp).mono ?_); rintro e w2 ⟨rfl, hb2⟩)
        | (go_at_call 85; (with_reducible refine (hMo _ _ _ _ _ _ (hT.below hb2)).mono ?_); rintro e w3 ⟨rfl, hb3⟩))
      refine bodyPost_ret (v := .tuple #[.int .i64 L, .int .i64 M, .bool true, .int .i64 0]) (by simp [results, Tryz.results32, go_sem, *]) rfl ⟨rfl, ((hB0.ch2 hb1).ch2 hb2).ch2 hb3⟩
    · have hd : decide (M < (L : Int)) = true := by simp only [decide_eq_true_eq]; omega
      rw [if_neg hLM] at hr
      subst hr
      have HL := Lib.hid hLM
      clear hLM
      go_enter Tryz.func32, Tryz.ntmps32
      go_wp2_with (first
        | (go_at_call 75; (with_reducible refine (hC _ hbx).mono ?_); rintro e w1 ⟨N, a1, ca, f1, cf, rfl, hb1, hN, hT⟩; obtain ⟨t0, t1, t2, t3, t4, t5⟩ := hT.get; have hNl := hT.lt)
        | (go_at_call 80; (with_reducible refine (hO _ _ _ _ _ hT.sp).mono ?_); rintro e w2 ⟨rfl, hb2⟩)
        | (go_at_call 85; (with_reducible refine (hMo _ _ _ _ _ _ (hT.below hb2)).mono ?_); rintro e w3 ⟨rfl, hb3⟩))
      refine bodyPost_ret (v := .tuple #[.int .i64 0, .int .i64 0, .bool false, .int .i64 0]) (by simp [results, Tryz.results32, go_sem, *]) rfl ⟨rfl, ((hB0.ch2 hb1).ch2 hb2).ch2 hb3⟩
  · have h2 : (E != 0) = true := by simpa using h0
    rw [if_neg (fun h => h0 h.1)] at hr
    subst hr
    have hC2 := fun w1 h => (hC w1 h).mono fun e w' hh => hh.1 h0
    clear hz h0 hC
    obtain ⟨ware, lim, byr, a, cap, ps⟩ := c
    simp only [Cs.v] at *
    have hB0 := one_alloc w (Obj.cells #[.string ware, .int .i64 lim, .int .i64 byr, .slice a ps.length cap] 24)
    have hbx := hc.below hB0
    go_enter Tryz.func32, Tryz.ntmps32
    go_wp2_with (go_at_call 75; (with_reducible refine (hC2 _ hbx).mono ?_); rintro e w1 ⟨rfl, hb1⟩)
    refine bodyPost_ret (v := .tuple #[.int .i64 0, .int .i64 0, .bool false, .int .i64 E]) (by simp [results, Tryz.results32, go_sem, *]) rfl ⟨rfl, hB0.ch2 hb1⟩
def Cs.asgO (c : Cs) (n : Int) : List Int × Bool := if c.chk = 0 ∧ (leastN c.s : Int) ≤ n ∧ n ≤ c.most then (asgL c.s n, true) else ([], false)
/-- Numbers, whether there are any, and an error. -/
def IntBPost (w : World) (l : List Int) (b : Bool) (E : Int) (e : Ending) (w' : World) : Prop := ∃ a k, e = .returned (.tuple #[.slice a l.length k, .bool b, .int .i64 E]) ∧ Below w.heap.size w w' ∧ IntsAt w' a l.length k l ∧ l.length ≤ k
theorem asgL_len (s : List Pn) (n : Int) : (asgL s n).length = s.length := by unfold asgL; rw [numL_len, splN_len, numL_len, fewL_len]
/-- The vessels of a table's spans. -/
theorem wsplitOf (s : List Pn) (hs : OkS s) (hn : s.length ≤ 100) {n : Int} (h1 : (leastN s : Int) ≤ n) (h2 : n ≤ s.length) (a : Option Addr) (ca : Nat) (w : World) (hv : IntsAt w a s.length ca (numL (fewL s))) :
    Calls Tryz.prog 107 #[.slice a s.length ca, .int .i64 n] w (RowPost w 3 1 s.length ((asgL s n).map (.int .i64))) := by
  have hl : (numL (fewL s)).length = s.length := by rw [numL_len, fewL_len]
  obtain ⟨f1, f2⟩ := numL_full (fewL s)
  rw [firsts_few hs] at f2
  have := wsplit a ca s.length (numL (fewL s)) n w hv (by omega) (fun k hk x hx => by
    have g := splN_ok f1 (by omega : vesL (numL (fewL s)) ≤ n) hk
    have a1 := g.full.1 x hx
    have a2 := (vesL_spec (splN n (numL (fewL s)) k)).2.1 x hx
    have a3 := g.le
    omega)
  rw [hl] at this
  exact this
theorem wnumberedOf (s : List Pn) (hs : OkS s) (hn : s.length ≤ 100) (a : Option Addr) (ca : Nat) (w : World) (hv : IntsAt w a s.length ca (fewL s)) :
    Calls Tryz.prog 89 #[.slice a s.length ca] w (RowPost w 3 1 s.length ((numL (fewL s)).map (.int .i64))) := by
  have hl := fewL_len s
  have hle := least_le_len hs
  have := wnumbered a ca s.length (fewL s) w hv (by omega) (fun x hx => by
    obtain ⟨i, hi, rfl⟩ := List.getElem_of_mem hx
    obtain ⟨v, h1, h2, _⟩ := fewL_spec hs (p := i) (by omega)
    have e : (fewL s).getD i 0 = (fewL s)[i] := by simp [List.getD_eq_getElem?_getD, hi]
    rw [← e, h1]
    omega)
  rw [hl] at this
  exact this
theorem wAssign (c : Cs) (n : Int) (w : World) (hc : CsAt w c) :
    Calls Tryz.prog 60 #[c.v, .int .i64 n] w (IntBPost w (c.asgO n).1 (c.asgO n).2 c.chk) := by
  have hC := fun w1 (h : CsAt w1 c) => wlaid0 c w1 h
  have hz := @Cs.chk_zero c
  have hr : c.asgO n = if c.chk = 0 ∧ (leastN c.s : Int) ≤ n ∧ n ≤ c.most then (asgL c.s n, true) else ([], false) := rfl
  generalize c.asgO n = R at *
  generalize c.chk = E at *
  by_cases h0 : E = 0
  · subst h0
    obtain ⟨hm, hok, hsl⟩ := (hz.1 rfl).many'
    have hO := fun w1 a ca f cf (hs : SpansAt w1 a ca f cf c.ps.length c.s) => wleast a ca f cf _ c.s w1 hs (by omega) hok
    have hMo := fun N w1 a ca f cf (h : TabAt w1 N c a ca f cf) => wmost c N a ca f cf w1 h (by omega)
    have hFe := fun w1 a ca f cf (hs : SpansAt w1 a ca f cf c.ps.length c.s) => wfewest a ca f cf _ c.s w1 hs (by omega) hok
    have hNu := fun a ca W h => wnumberedOf c.s hok (by omega) a ca W h
    have hmo : c.most ≤ c.ps.length := by unfold Cs.most; split <;> omega
    have hSp := fun h1 h2 a ca W h => @wsplitOf c.s hok (by omega) n h1 h2 a ca W h
    have hfl := fewL_len c.s
    have hal := asgL_len c.s n
    have hnl : (numL (fewL c.s)).length = c.s.length := by rw [numL_len, hfl]
    simp only [ne_eq, not_true, false_implies, true_and, true_implies] at hC hr
    rw [← hsl] at hmo
    rw [hsl] at hFe hNu hSp hfl hal hnl
    rw [hsl] at hmo
    unfold spV at hO hFe
    generalize leastN c.s = L at *
    generalize hMM : c.most = M at *
    generalize fewL c.s = FL at *
    generalize numL FL = NL at *
    generalize asgL c.s n = AL at *
    clear hz hok hMM
    obtain ⟨ware, lim, byr, a, cap, ps⟩ := c
    simp only [Cs.v] at *
    have hB0 := one_alloc w (Obj.cells #[.string ware, .int .i64 lim, .int .i64 byr, .slice a ps.length cap] 24)
    have hbx := hc.below hB0
    have hps : ps.length ≤ 40 := by omega
    clear hm hsl
    by_cases d1 : n < (L : Int)
    · have e1 : decide (n < (L : Int)) = true := decide_eq_true d1
      rw [if_neg (by omega)] at hr
      subst hr
      clear d1 hFe hNu hSp
      go_enter Tryz.func60, Tryz.ntmps60
      go_wp2_with (first
        | (go_at_call 75; (with_reducible refine (hC _ hbx).mono ?_); rintro e w1 ⟨N, a1, ca, f1, cf, rfl, hb1, hN, hT⟩; obtain ⟨t0, t1, t2, t3, t4, t5⟩ := hT.get; have hNl := hT.lt)
        | (go_at_call 80; (with_reducible refine (hO _ _ _ _ _ hT.sp).mono ?_); rintro e w2 ⟨rfl, hb2⟩)
        | (go_at_call 85; (with_reducible refine (hMo _ _ _ _ _ _ (hT.below hb2)).mono ?_); rintro e w3 ⟨rfl, hb3⟩; obtain ⟨s0, s1, s2, s3, s4, s5⟩ := ((hT.below hb2).below hb3).get)
        )
      refine bodyPost_ret (v := .tuple #[.slice none 0 0, .bool false, .int .i64 0]) (by simp [results, Tryz.results60, go_sem, *]) rfl ⟨none, 0, rfl, (hB0.ch2 hb1).ch2 hb2, IntsAt.nilAt _, Nat.le_refl _⟩
    by_cases d2 : M < n
    · have e1 : decide (n < (L : Int)) = false := decide_eq_false d1
      have e2 : decide (M < n) = true := decide_eq_true d2
      rw [if_neg (by omega)] at hr
      subst hr
      clear d1 d2 hFe hNu hSp
      go_enter Tryz.func60, Tryz.ntmps60
      go_wp2_with (first
        | (go_at_call 75; (with_reducible refine (hC _ hbx).mono ?_); rintro e w1 ⟨N, a1, ca, f1, cf, rfl, hb1, hN, hT⟩; obtain ⟨t0, t1, t2, t3, t4, t5⟩ := hT.get; have hNl := hT.lt)
        | (go_at_call 80; (with_reducible refine (hO _ _ _ _ _ hT.sp).mono ?_); rintro e w2 ⟨rfl, hb2⟩)
        | (go_at_call 85; (with_reducible refine (hMo _ _ _ _ _ _ (hT.below hb2)).mono ?_); rintro e w3 ⟨rfl, hb3⟩; obtain ⟨s0, s1, s2, s3, s4, s5⟩ := ((hT.below hb2).below hb3).get)
        )
      refine bodyPost_ret (v := .tuple #[.slice none 0 0, .bool false, .int .i64 0]) (by simp [results, Tryz.results60, go_sem, *]) rfl ⟨none, 0, rfl, ((hB0.ch2 hb1).ch2 hb2).ch2 hb3, IntsAt.nilAt _, Nat.le_refl _⟩
    · have e1 : decide (n < (L : Int)) = false := decide_eq_false d1
      have e2 : decide (M < n) = false := decide_eq_false d2
      rw [if_pos (by omega)] at hr
      subst hr
      have HSp := Lib.hid (hSp (by omega) (by omega))
      have Hal := Lib.hid hal
      have Hfl := Lib.hid hfl
      have Hnl := Lib.hid hnl
      clear d1 d2 hSp hal hfl hnl
      go_enter Tryz.func60, Tryz.ntmps60
      go_wp2_with (first
        | (go_at_call 75; (with_reducible refine (hC _ hbx).mono ?_); rintro e w1 ⟨N, a1, ca, f1, cf, rfl, hb1, hN, hT⟩; obtain ⟨t0, t1, t2, t3, t4, t5⟩ := hT.get; have hNl := hT.lt)
        | (go_at_call 80; (with_reducible refine (hO _ _ _ _ _ hT.sp).mono ?_); rintro e w2 ⟨rfl, hb2⟩)
        | (go_at_call 85; (with_reducible refine (hMo _ _ _ _ _ _ (hT.below hb2)).mono ?_); rintro e w3 ⟨rfl, hb3⟩; obtain ⟨s0, s1, s2, s3, s4, s5⟩ := ((hT.below hb2).below hb3).get)
        | (go_at_call 88; (with_reducible refine (hFe _ _ _ _ _ ((hT.below hb2).below hb3).sp).mono ?_); rintro e w4 ⟨v4, rfl, hb4, ho4⟩; obtain ⟨ra4, rc4, rfl, _⟩ := owns_slice ho4; have HO4 := Lib.hid ho4; clear ho4)
        | (go_at_call 89; (with_reducible refine (hNu _ _ _ ((IntsAt.of_owns HO4.out (by rw [Hfl.out]; omega)))).mono ?_); rintro e w5 ⟨v5, rfl, hb5, ho5⟩; obtain ⟨ra5, rc5, rfl, _⟩ := owns_slice ho5; have HO5 := Lib.hid ho5; clear ho5)
        | (go_at_call 107; (with_reducible refine (HSp.out _ _ _ ((IntsAt.of_owns HO5.out (by rw [Hnl.out]; omega)))).mono ?_); rintro e w6 ⟨v6, rfl, hb6, ho6⟩; obtain ⟨ra6, rc6, rfl, _⟩ := owns_slice ho6; have HO6 := Lib.hid ho6; clear ho6)
        )
      have hBE := (((((hB0.ch2 hb1).ch2 hb2).ch2 hb3).ch2 hb4).ch2 hb5).ch2 hb6
      have hI6 := IntsAt.of_owns HO6.out (by rw [Hal.out]; omega)
      have hrm := owns_room HO6.out
      rw [← Hal.out] at hI6 hrm
      refine bodyPost_ret (v := .tuple #[.slice ra6 ps.length rc6, .bool true, .int .i64 0]) (by simp [results, Tryz.results60, go_sem, *]) rfl ⟨ra6, rc6, by rw [Hal.out], hBE, hI6, hrm⟩
  · have h2 : (E != 0) = true := by simpa using h0
    rw [if_neg (fun h => h0 h.1)] at hr
    subst hr
    have hC2 := fun w1 h => (hC w1 h).mono fun e w' hh => hh.1 h0
    clear hz h0 hC
    obtain ⟨ware, lim, byr, a, cap, ps⟩ := c
    simp only [Cs.v] at *
    have hB0 := one_alloc w (Obj.cells #[.string ware, .int .i64 lim, .int .i64 byr, .slice a ps.length cap] 24)
    have hbx := hc.below hB0
    go_enter Tryz.func60, Tryz.ntmps60
    go_wp2_with (go_at_call 75; (with_reducible refine (hC2 _ hbx).mono ?_); rintro e w1 ⟨rfl, hb1⟩)
    refine bodyPost_ret (v := .tuple #[.slice none 0 0, .bool false, .int .i64 E]) (by simp [results, Tryz.results60, go_sem, *]) rfl ⟨none, 0, rfl, hB0.ch2 hb1, IntsAt.nilAt _, Nat.le_refl _⟩
theorem wassigned1 (c : Cs) (N : Nat) (a : Option Addr) (ca : Nat) (f : Option Addr) (cf : Nat) (al : Option Addr) (m cl : Nat) (l : List Int) (PB : Nat) (w : World) (ht : TabAt w N c a ca f cf)
    (hl : IntsAt w al m cl l) (hroom : l.length ≤ cl) (hin : ∀ x ∈ l, 0 ≤ x ∧ x < c.ps.length) (h1 : w.cell? ⟨PB, 0, none⟩ = some (.pointer (some ⟨N, 0, none⟩))) :
    Calls Tryz.prog 121 #[.slice al m cl, .pointer (some ⟨PB, 0, none⟩)] w fun e w' => e = .returned (.bool (!oneB c.s (natL l))) ∧ Below w.heap.size w w' := by
  have hsl : c.s.length = c.ps.length := pns_len _
  have hO := fun W (hs : SpansAt W a ca f cf c.ps.length c.s) (hl : IntsAt W al m cl l) => wone a ca f cf _ c.s al m cl l W hs hl hroom (by rw [hsl]; exact hin)
  obtain ⟨t0, t1, t2, t3, t4, t5⟩ := ht.get
  have hNl := ht.lt
  have hsp := ht.sp
  generalize oneB c.s (natL l) = B at *
  unfold spV at hO
  clear hin
  go_enter Tryz.func121, Tryz.ntmps121
  go_wp2_with (go_at_call 97; (with_reducible refine (hO _ hsp hl).mono ?_); rintro e w2 ⟨rfl, hb2⟩)
  go_ret
  exact ⟨rfl, hb2⟩
theorem chg_setCells {E : List Nat} {g : Nat} (hE : g ∈ E) : ∀ (vs : List Value) (o : Nat) (w : World), SL.Chg E w (w.setCells g o vs)
  | [], _, w => .refl _ _
  | v :: r, o, w => (SL.Chg.setCell w (p := ⟨g, o, none⟩) hE v).trans (chg_setCells hE r (o + 1) _)
theorem chg_drew (E : List Nat) (w : World) : SL.Chg E w w.drew := ⟨rfl, rfl, rfl, Nat.le_refl _, fun _ _ _ => rfl⟩
theorem row_cellsP {w : World} {G c : Nat} {L : List Value} (hz : G < w.heap.size) (hp : ∀ j u, L[j]? = some u → w.cell? ⟨G, j, none⟩ = some u) : RowAt w (some ⟨G, 0, none⟩) c L :=
  ⟨fun h => (by cases h), fun x hx => by
    obtain rfl := Option.some.inj hx
    exact ⟨rfl, hz, fun j u hj => by rw [Nat.zero_add]; exact hp j u hj⟩⟩
theorem put_get {V : List Value} {i : Nat} {y : Value} (hi : i ≤ V.length) {j : Nat} {u : Value} (h : (V.take i ++ y :: V.drop i)[j]? = some u) : (j < i ∧ V[j]? = some u) ∨ (j = i ∧ u = y) ∨ (i < j ∧ j ≤ V.length ∧ V[j - 1]? = some u) := by
  have hl : (V.take i).length = i := by rw [List.length_take]; omega
  rw [List.getElem?_append] at h
  split at h
  · rename_i h1
    rw [hl] at h1
    rw [List.getElem?_take_of_lt h1] at h
    exact .inl ⟨h1, h⟩
  · rename_i h1
    rw [hl] at h1 h
    rcases Nat.eq_or_lt_of_le (Nat.le_of_not_lt h1) with e | e
    · subst e
      simp at h
      exact .inr (.inl ⟨rfl, h.symm⟩)
    · obtain ⟨d, rfl⟩ : ∃ d, j = i + (d + 1) := ⟨j - i - 1, by omega⟩
      rw [show i + (d + 1) - i = d + 1 by omega, List.getElem?_cons_succ, List.getElem?_drop] at h
      have := (List.getElem?_eq_some_iff.1 h).1
      exact .inr (.inr ⟨by omega, by omega, by rw [show i + (d + 1) - 1 = i + d by omega]; exact h⟩)
theorem winsert (v0 : Value) (n i base : Nat) (v : List Int) (x : Int) (VB : Nat) (w : World) (h : w.ownsRow base 3 1 v0 n (v.map (.int .i64))) (hi : i ≤ n) (hn : n ≤ 1000)
    (hVB : w.heap[VB]? = some (.cells #[.int .i64 x] 3 (0, 0))) (hne : VB ∉ v0.ownBlock.toList) :
    Calls Tryz.prog 90 #[v0, .int .i64 i, .slice (some ⟨VB, 0, none⟩) 1 1] w fun e w' => ∃ a k, e = .returned (.slice a (n + 1) k) ∧ IntsAt w' a (n + 1) k (putAt v i x) ∧ SL.Chg v0.ownBlock.toList w w' := by
  have hvl : v.length = n := by have := h.1; simpa using this
  have hpl : (putAt v i x).length = n + 1 := by rw [putAt_len (by omega), hvl]
  have hmap : (putAt v i x).map (Value.int .i64) = (v.map (.int .i64)).take i ++ .int .i64 x :: (v.map (.int .i64)).drop i := by
    unfold putAt
    rw [List.map_append, List.map_cons, List.map_take, List.map_drop]
  have hfin : ∀ (w' : World) (G k : Nat), G < w'.heap.size → (∀ j u, ((v.map (Value.int .i64)).take i ++ .int .i64 x :: (v.map (.int .i64)).drop i)[j]? = some u → w'.cell? ⟨G, j, none⟩ = some u) → IntsAt w' (some ⟨G, 0, none⟩) (n + 1) k (putAt v i x) := fun w' G k hz hp =>
    ⟨hpl.symm, by omega, by rw [hmap]; exact row_cellsP hz hp⟩
  have hvs : ∀ j u, [Value.int .i64 x][j]? = some u → w.cell? ⟨VB, 0 + j, none⟩ = some u := fun j u hj => ((RowAt.of_heap hVB : RowAt w (some ⟨VB, 0, none⟩) 1 [Value.int .i64 x]).at_ _ rfl).2.2 j u hj
  have h1v : ∀ u ∈ [Value.int .i64 x], u.oneCell' = true := by simp [Value.oneCell']
  have h1c : ∀ u ∈ v.map (Value.int .i64), u.oneCell' = true := ones_int v
  have hVl : (v.map (Value.int .i64)).length = n := by rw [List.length_map, hvl]
  generalize v.map (Value.int .i64) = V at *
  have hzI : ∀ k, (Builtin.zeroCells (Value.int .i64 0).cells k).size = k := fun k => by simp [Builtin.zeroCells, Value.cells]
  have h' := h
  obtain ⟨hl, ⟨rfl, e0⟩ | ⟨g, c, cur, rfl, hbg, hg, g1, g2, g3, g4⟩⟩ := h
  · subst e0
    obtain rfl : V = [] := List.eq_nil_of_length_eq_zero hVl
    obtain rfl : i = 0 := by omega
    refine (Any2.slices_Insert_int_end_grow Tryz.insertA none 0 0 VB 0 1 1 [] [.int .i64 x] w (by omega) (by omega) (by omega) (by omega) rfl rfl (fun _ => rfl) (fun a h => by cases h) hvs h1v).mono ?_
    rintro e w' ⟨rfl, rfl⟩
    refine ⟨_, _, rfl, hfin _ _ _ (by simp) (fun j u hj => ?_), (chg_drew _ w).trans (.alloc _ _ _)⟩
    refine ((SL.cells_of (World.alloc_heap_new w.drew _)).1 j).trans ?_
    simp at hj ⊢
    rcases List.getElem?_eq_some_iff.1 hj with ⟨hj1, hj2⟩
    simp at hj1 hj2
    subst hj1
    simp [Array.getElem?_append, hj2]
  · rw [Nat.mul_one] at g3 g4
    have hrow := RowAt.of_owns h'
    have hgl : g < w.heap.size := (Array.getElem?_eq_some_iff.1 hg).1
    have hcs : ∀ j u, V[j]? = some u → w.cell? ⟨g, 0 + j, none⟩ = some u := fun j u hj => (hrow.at_ _ rfl).2.2 j u hj
    have hcs0 : ∀ j u, V[j]? = some u → w.cell? ⟨g, j, none⟩ = some u := fun j u hj => by have := hcs j u hj; rwa [Nat.zero_add] at this
    have hsome : ∀ j, j < c → (w.cell? ⟨g, j, none⟩).isSome = true := fun j hj => by
      rw [(SL.cells_of hg).1, Array.getElem?_eq_getElem (by omega)]; rfl
    have hfz : ∀ j, w.frozen? ⟨g, j, none⟩ = false := (SL.cells_of hg).2
    have hgE : g ∈ (Value.slice (some ⟨g, 0, none⟩) n c).ownBlock.toList := by simp [Value.ownBlock]
    have hVg : VB ≠ g := fun e => hne (e ▸ hgE)
    have hc63 : c ≤ 9223372036854775807 := by unfold maxLen at g2; omega
    by_cases hin : i < n
    · have hdl : (V.drop i).length = n - i := by rw [List.length_drop, hVl]
      by_cases hroom : n + 1 ≤ c
      · refine (Any2.slices_Insert_int_shift Tryz.insertA g 0 n c i VB 0 1 1 V [.int .i64 x] w hin (by omega) hroom hc63 hVg hVl rfl hcs (fun j hj => by rw [Nat.zero_add]; exact hsome j (by omega)) (fun j _ => by rw [Nat.zero_add]; exact hfz j) hvs h1c h1v 3 3 1 cur.size (by simp [World.shape?, hVB]) (by simp [World.shape?, hg]) (by omega) ((SL.cells_of hVB).2 0) ((SL.cells_of hVB).2 1)).mono ?_
        rintro e w' ⟨rfl, rfl⟩
        have hC : SL.Chg (Value.slice (some ⟨g, 0, none⟩) n c).ownBlock.toList w ((w.drew.setCells g (0 + (i + 1)) (V.drop i)).setCells g (0 + i) [.int .i64 x]) := ((chg_drew _ w).trans (chg_setCells hgE _ _ _)).trans (chg_setCells hgE _ _ _)
        refine ⟨_, _, rfl, hfin _ _ _ (Nat.lt_of_lt_of_le hgl hC.size) (fun j u hj => ?_), hC⟩
        rcases put_get (by omega) hj with ⟨a1, a2⟩ | ⟨a1, a2⟩ | ⟨a1, a3, a2⟩
        · rw [World.cell?_setCells_out g _ _ _ _ (fun _ _ => .inl (by simp <;> omega)), World.cell?_setCells_out g _ _ _ _ (fun _ _ => .inl (by simp <;> omega))]
          exact hcs0 j u a2
        · subst a1 a2
          have := World.cell?_setCells_in g [.int .i64 x] (0 + j) (w.drew.setCells g (0 + (j + 1)) (V.drop j)) (fun q hq => by
            simp at hq
            subst hq
            rw [World.cell?_setCells_out g _ _ _ _ (fun _ _ => .inl (by simp <;> omega)), show 0 + j + 0 = j by omega]
            exact hsome j (by omega)) 0 (by simp)
          rw [show 0 + j + 0 = j by omega] at this
          simpa using this
        · rw [World.cell?_setCells_out g _ _ _ _ (fun _ _ => .inr (by simp <;> omega))]
          have := World.cell?_setCells_in g (V.drop i) (0 + (i + 1)) w.drew (fun q hq => by
            rw [show 0 + (i + 1) + q = i + 1 + q by omega]
            exact hsome _ (by omega)) (j - (i + 1)) (by omega)
          rw [show 0 + (i + 1) + (j - (i + 1)) = j by omega] at this
          rw [this, List.getElem_drop, ← a2, List.getElem?_eq_getElem (by omega)]
          congr 2
          omega
      · refine (Any2.slices_Insert_int_grow Tryz.insertA g 0 n c i VB 0 1 1 V [.int .i64 x] w hin (by omega) g1 (by omega) (by omega) hVl rfl hcs hvs h1c h1v).mono ?_
        rintro e w' ⟨rfl, rfl⟩
        generalize hA : (V.take i).toArray ++ Builtin.zeroCells (Value.int .i64 0).cells (n + 1 - i) ++ Builtin.zeroCells (Value.int .i64 0).cells (grownCap w (n + 1) c (Tryz.insertA_ren.t 3) - (n + 1)) = A
        have hAs : n + 1 ≤ A.size := by
          rw [← hA]
          simp only [Array.size_append, hzI, List.size_toArray, List.length_take]
          omega
        have hAt : ∀ j u, j < i → V[j]? = some u → A[j]? = some u := fun j u hj hu => by
          rw [← hA, ← Array.getElem?_toList]
          simp only [Array.toList_append, List.append_assoc]
          rw [List.getElem?_append_left (by simp; omega), List.getElem?_take_of_lt hj]
          exact hu
        have hnew := (SL.cells_of (World.alloc_heap_new w (Obj.cells A (Tryz.insertA_ren.t 3)))).1
        have h1 : SL.Chg [w.heap.size] (w.alloc (.cells A (Tryz.insertA_ren.t 3))) ((((w.alloc (.cells A (Tryz.insertA_ren.t 3))).drew.setCells w.heap.size i [.int .i64 x]).drew).setCells w.heap.size (i + 1) (V.drop i)) := (((chg_drew _ _).trans (chg_setCells (by simp) _ _ _)).trans (chg_drew _ _)).trans (chg_setCells (by simp) _ _ _)
        have hC : SL.Chg (Value.slice (some ⟨g, 0, none⟩) n c).ownBlock.toList w ((((w.alloc (.cells A (Tryz.insertA_ren.t 3))).drew.setCells w.heap.size i [.int .i64 x]).drew).setCells w.heap.size (i + 1) (V.drop i)) := .of_below ((one_alloc w _).trans (h1.belowW (by simp) (fun k hk => by simp at hk; omega)))
        have hS : w.heap.size < (w.alloc (.cells A (Tryz.insertA_ren.t 3))).heap.size := by simp
        refine ⟨_, _, rfl, hfin _ _ _ (Nat.lt_of_lt_of_le hS h1.size) (fun j u hj => ?_), hC⟩
        have hsm : ∀ j, j < n + 1 → ((w.alloc (.cells A (Tryz.insertA_ren.t 3))).cell? ⟨w.heap.size, j, none⟩).isSome = true := fun j hj => by
          rw [hnew, Array.getElem?_eq_getElem (by omega)]; rfl
        rcases put_get (by omega) hj with ⟨a1, a2⟩ | ⟨a1, a2⟩ | ⟨a1, a3, a2⟩
        · rw [World.cell?_setCells_out _ _ _ _ _ (fun _ _ => .inl (by simp <;> omega))]
          refine (World.cell?_setCells_out w.heap.size [.int .i64 x] i (w.alloc (.cells A (Tryz.insertA_ren.t 3))).drew _ (fun _ _ => .inl (by simp <;> omega))).trans ?_
          exact (hnew j).trans (hAt j u a1 a2)
        · subst a1 a2
          rw [World.cell?_setCells_out _ _ _ _ _ (fun _ _ => .inl (by simp))]
          have := World.cell?_setCells_in w.heap.size [.int .i64 x] j (w.alloc (.cells A (Tryz.insertA_ren.t 3))).drew (fun q hq => by
            simp at hq
            subst hq
            exact hsm _ (by omega)) 0 (by simp)
          simpa using this
        · have := World.cell?_setCells_in w.heap.size (V.drop i) (i + 1) ((w.alloc (.cells A (Tryz.insertA_ren.t 3))).drew.setCells w.heap.size i [.int .i64 x]).drew (fun q hq => by
            show (((w.alloc (.cells A (Tryz.insertA_ren.t 3))).drew.setCells w.heap.size i [.int .i64 x]).cell? _).isSome = true
            rw [World.cell?_setCells_out _ _ _ _ _ (fun _ _ => .inr (by simp <;> omega))]
            exact hsm _ (by omega)) (j - (i + 1)) (by omega)
          rw [show i + 1 + (j - (i + 1)) = j by omega] at this
          rw [this, List.getElem_drop, ← a2, List.getElem?_eq_getElem (by omega)]
          congr 2
          omega
    · obtain rfl : i = n := by omega
      have hd : V.drop i = [] := List.drop_of_length_le (by omega)
      have ht : V.take i = V := List.take_of_length_le (by omega)
      by_cases hroom : i + 1 ≤ c
      · refine (Any2.slices_Insert_int_end_room Tryz.insertA g 0 i c VB 0 1 1 [.int .i64 x] w (by omega) hroom hc63 rfl (fun j hj => by rw [show 0 + i + j = i by omega]; exact hsome i (by omega)) (fun j hj => hfz _) hvs h1v).mono ?_
        rintro e w' ⟨rfl, rfl⟩
        refine ⟨_, _, rfl, hfin _ _ _ (Nat.lt_of_lt_of_le hgl (chg_setCells hgE _ _ _).size) (fun j u hj => ?_), chg_setCells hgE _ _ _⟩
        rcases put_get (by omega) hj with ⟨a1, a2⟩ | ⟨a1, a2⟩ | ⟨a1, a2, _⟩
        · rw [World.cell?_setCells_out g _ _ _ _ (fun _ _ => .inl (by simp <;> omega))]
          exact hcs0 j u a2
        · subst a1 a2
          have := World.cell?_setCells_in g [.int .i64 x] (0 + j) w (fun q hq => by simp at hq; subst hq; rw [show 0 + j + 0 = j by omega]; exact hsome j (by omega)) 0 (by simp)
          rw [show 0 + j + 0 = j by omega] at this
          simpa using this
        · omega
      · refine (Any2.slices_Insert_int_end_grow Tryz.insertA (some ⟨g, 0, none⟩) i c VB 0 1 1 V [.int .i64 x] w (by omega) g1 (by omega) (by omega) hVl rfl (fun h => by cases h) (fun a ha j u hj => ?_) hvs h1v).mono ?_
        · obtain rfl := Option.some.inj ha
          have e : (⟨g, 0, none⟩ : Addr).add j = ⟨g, j, none⟩ := by unfold Addr.add; by_cases h : j = 0 <;> simp [h]
          rw [e]
          exact hcs0 j u hj
        rintro e w' ⟨rfl, rfl⟩
        refine ⟨_, _, rfl, hfin _ _ _ (by simp) (fun j u hj => ?_), (chg_drew _ w).trans (.alloc _ _ _)⟩
        refine ((SL.cells_of (World.alloc_heap_new w.drew _)).1 j).trans ?_
        rw [ht, hd] at hj
        rw [← Array.getElem?_toList]
        simp only [Array.toList_append]
        rw [List.getElem?_append_left (by have := (List.getElem?_eq_some_iff.1 hj).1; simpa using this)]
        exact hj
theorem clB_minmax (s : List Pn) (a b : Nat) : clB s (min a b) (max a b) = clB s a b := by
  rcases Nat.le_total a b with h | h
  · rw [Nat.min_eq_left h, Nat.max_eq_right h]
  · rw [Nat.min_eq_right h, Nat.max_eq_left h, clB_comm]
theorem Cs.joiN_tog (c : Cs) (a b : Nat) : c.joiN a b = (!clB c.s (min a b) (max a b) && c.togB (min a b) (max a b)) := by
  rw [clB_minmax]; rfl
def Cs.jntB (c : Cs) (x y : Int) : Bool := decide (c.two x y = 0) && c.joiN x.toNat y.toNat
def Cs.jntO (c : Cs) (x y : Int) : List Int := if c.jntB x y then jointL c.s (min x.toNat y.toNat) (max x.toNat y.toNat) else []
/-- Two different parts, the lesser first. -/
theorem Cs.two_nat {c : Cs} {x y : Int} (h : c.two x y = 0) : ∃ X Y : Nat, x = X ∧ y = Y ∧ min X Y < max X Y ∧ max X Y < c.ps.length ∧ min x y = (min X Y : Nat) ∧ max x y = (max X Y : Nat) := by
  obtain ⟨_, hx, hy, hne⟩ := Cs.two_zero h
  refine ⟨x.toNat, y.toNat, ?_⟩
  omega
theorem jointL_len {s : List Pn} {A B : Nat} (hB : B < s.length) : (jointL s A B).length = s.length := by
  unfold jointL
  rw [numL_len, putAt_len (by rw [fewL_len, merS_len hB]; omega), fewL_len, merS_len hB]
  omega
theorem wJoint (c : Cs) (x y : Int) (w : World) (hc : CsAt w c) :
    Calls Tryz.prog 35 #[c.v, .int .i64 x, .int .i64 y] w (IntBPost w (c.jntO x y) (c.jntB x y) (c.two x y)) := by
  have hC := fun w1 (h : CsAt w1 c) => wpair c x y w1 h
  unfold PairPost at hC
  have hz := @Cs.two_nat c x y
  have hz2 := @Cs.two_zero c x y
  have hb : c.jntB x y = (decide (c.two x y = 0) && c.joiN x.toNat y.toNat) := rfl
  have ho : c.jntO x y = if c.jntB x y then jointL c.s (min x.toNat y.toNat) (max x.toNat y.toNat) else [] := rfl
  have hP := Lib.hid (show ∀ a k e w', e = .returned (.tuple #[.slice a (c.jntO x y).length k, .bool (c.jntB x y), .int .i64 (c.two x y)]) → Below w.heap.size w w' → IntsAt w' a (c.jntO x y).length k (c.jntO x y) → (c.jntO x y).length ≤ k → IntBPost w (c.jntO x y) (c.jntB x y) (c.two x y) e w' from fun a k e w' h1 h2 h3 h4 => ⟨a, k, h1, h2, h3, h4⟩)
  generalize IntBPost w (c.jntO x y) (c.jntB x y) (c.two x y) = Post at *
  generalize c.jntO x y = O at *
  generalize c.jntB x y = JB at *
  generalize c.two x y = E at *
  by_cases h0 : E = 0
  · subst h0
    obtain ⟨X, Y, rfl, rfl, hAB, hBn, eA, eB⟩ := hz rfl
    obtain ⟨hm, hok, hsl⟩ := (hz2 rfl).1.many'
    rw [Cs.joiN_tog] at hb
    simp only [Int.toNat_natCast, decide_true, Bool.true_and] at hb ho
    rw [eA, eB] at hC
    clear hz hz2 eA eB
    generalize min X Y = A at *
    generalize max X Y = B at *
    simp only [ne_eq, not_true, false_implies, true_and, true_implies] at hC
    have hTo := fun W N a ca f cf (h : TabAt W N c a ca f cf) => wtogether c N a ca f cf A B W h hAB hBn hok (by omega)
    unfold TogPost at hTo
    have hjo := fun (hT : clB c.s A B = false) => jointL_ok hok hAB (by omega) hT
    have hml := merS_len (s := c.s) (a := A) (b := B) (by omega)
    have hokM := fun (hT : clB c.s A B = false) => hok.merS hAB (by omega) hT
    cases hT : clB c.s A B with
    | true =>
      rw [hT] at hb
      simp only [Bool.not_true, Bool.false_and] at hb
      subst hb
      simp only [Bool.false_eq_true, if_false] at ho
      subst ho
      simp only [hT, true_implies, Bool.true_eq_false, false_implies, and_true] at hTo
      have HP := Lib.hid hP.out
      clear hP hjo hokM hT hok
      obtain ⟨ware, lim, byr, a, cap, ps⟩ := c
      simp only [Cs.v] at *
      have hB0 := one_alloc w (Obj.cells #[.string ware, .int .i64 lim, .int .i64 byr, .slice a ps.length cap] 24)
      have hbx := hc.below hB0
      go_enter Tryz.func35, Tryz.ntmps35
      go_wp2_with (first
        | (go_at_call 67; (with_reducible refine (hC _ hbx).mono ?_); rintro e w1 ⟨N, a1, ca, f1, cf, rfl, hb1, hN, hT⟩)
        | (go_at_call 87; (with_reducible refine (hTo _ _ _ _ _ _ hT).mono ?_); rintro e w2 ⟨rfl, hb2⟩))
      have hBE := (hB0.ch2 hb1).ch2 hb2
      have hzE := hBE.size
      refine bodyPost_ret (v := .tuple #[.slice none 0 0, .bool false, .int .i64 0]) (by simp [results, Tryz.results35, go_sem, *]) rfl (HP.out none 0 _ _ rfl ?_ (IntsAt.nilAt _) (Nat.le_refl _))
      (repeat (first | (with_reducible exact hBE) | ((with_reducible refine Below.setCell ?_ ?_ _); rotate_left; focus (first | omega | (simp; done) | (simp; omega))) | ((with_reducible refine Below.alloc ?_ ?_ _); rotate_left; focus (first | omega | (simp; done) | (simp; omega)))))
    | false =>
      rw [hT] at hb
      simp only [Bool.not_false, Bool.true_and] at hb
      simp only [hT, Bool.false_eq_true, false_implies, true_and, true_implies] at hTo
      cases hTB : c.togB A B with
      | false =>
        rw [hTB] at hb hTo
        subst hb
        simp only [Bool.false_eq_true, if_false] at ho
        subst ho
        have HP := Lib.hid hP.out
        clear hP hjo hokM hT hok hTB
        obtain ⟨ware, lim, byr, a, cap, ps⟩ := c
        simp only [Cs.v] at *
        have hB0 := one_alloc w (Obj.cells #[.string ware, .int .i64 lim, .int .i64 byr, .slice a ps.length cap] 24)
        have hbx := hc.below hB0
        go_enter Tryz.func35, Tryz.ntmps35
        go_wp2_with (first
          | (go_at_call 67; (with_reducible refine (hC _ hbx).mono ?_); rintro e w1 ⟨N, a1, ca, f1, cf, rfl, hb1, hN, hT⟩)
          | (go_at_call 87; (with_reducible refine (hTo _ _ _ _ _ _ hT).mono ?_); rintro e w2 ⟨a2, c2, f2, g2, rfl, hb2, ho2⟩; clear ho2))
        have hBE := (hB0.ch2 hb1).ch2 hb2
        have hzE := hBE.size
        refine bodyPost_ret (v := .tuple #[.slice none 0 0, .bool false, .int .i64 0]) (by simp [results, Tryz.results35, go_sem, *]) rfl (HP.out none 0 _ _ rfl ?_ (IntsAt.nilAt _) (Nat.le_refl _))
        (repeat (first | (with_reducible exact hBE) | ((with_reducible refine Below.setCell ?_ ?_ _); rotate_left; focus (first | omega | (simp; done) | (simp; omega))) | ((with_reducible refine Below.alloc ?_ ?_ _); rotate_left; focus (first | omega | (simp; done) | (simp; omega)))))
      | true =>
        rw [hTB] at hb hTo
        subst hb
        simp only [if_true] at ho
        have hjl : (jointL c.s A B).length = c.s.length := jointL_len (by omega)
        have hjd : jointL c.s A B = numL (putAt (fewL (merS c.s A B)) B ((fewL (merS c.s A B)).getD A 0)) := rfl
        have hSm : (merS c.s A B).length ≤ 100000 := by omega
        have hFe := fun w1 a ca f cf (h : SpansAt w1 a ca f cf (merS c.s A B).length (merS c.s A B)) => wfewest a ca f cf _ (merS c.s A B) w1 h (by omega) (hokM hT)
        have hfl := fewL_len (merS c.s A B)
        have hrg : ∀ x ∈ fewL (merS c.s A B), -1000000000 ≤ x ∧ x ≤ 1000000000 := fun x hx => by
          obtain ⟨i, hi, rfl⟩ := List.getElem_of_mem hx
          obtain ⟨v, h1, h2, _⟩ := fewL_spec (hokM hT) (p := i) (by omega)
          have e : (fewL (merS c.s A B)).getD i 0 = (fewL (merS c.s A B))[i] := by simp [List.getD_eq_getElem?_getD, hi]
          have := least_le_len (hokM hT)
          rw [← e, h1]
          omega
        have hXA : ((fewL (merS c.s A B)).map (Value.int .i64))[A]? = some (.int .i64 ((fewL (merS c.s A B)).getD A 0)) := map_getD (by omega)
        have hXm : (fewL (merS c.s A B)).getD A 0 ∈ fewL (merS c.s A B) := mem_getD (by omega)
        have hJn : c.s.length = c.ps.length := hsl
        generalize jointL c.s A B = J at *
        generalize merS c.s A B = S at *
        generalize fewL S = FL at *
        generalize FL.getD A 0 = X at *
        have hVl : (putAt FL B X).length = c.ps.length := by rw [putAt_len (by omega)]; omega
        have hVr : ∀ x ∈ putAt FL B X, -1000000000 ≤ x ∧ x ≤ 1000000000 := fun x hx => by
          unfold putAt at hx
          rcases List.mem_append.1 hx with h | h
          · exact hrg x (List.mem_of_mem_take h)
          · rcases List.mem_cons.1 h with rfl | h
            · exact hrg _ hXm
            · exact hrg x (List.mem_of_mem_drop h)
        have hNu := fun W a k (h : IntsAt W a c.ps.length k (putAt FL B X)) => wnumbered a k _ _ W h (by rw [hVl]; omega) hVr
        have hIn := fun W G k RB (h : W.ownsRow RB 3 1 (.slice (some ⟨G, 0, none⟩) (c.ps.length - 1) k) (c.ps.length - 1) (FL.map (.int .i64))) VB h1 h2 => winsert (.slice (some ⟨G, 0, none⟩) (c.ps.length - 1) k) (c.ps.length - 1) B RB FL X VB W h (by omega) (by omega) h1 h2
        have hK1 : S.length = c.ps.length - 1 := by omega
        have hc1 : c.ps.length - 1 + 1 = c.ps.length := by omega
        have hAK : A < c.ps.length - 1 := by omega
        rw [hVl, ← hjd] at hNu
        rw [hK1] at hTo hFe
        rw [hc1] at hIn
        rw [hJn] at hjl
        have HK1 := Lib.hid hK1
        have Hjl := Lib.hid hjl
        have hps : c.ps.length ≤ 40 := by omega
        unfold RowPost spV at hFe
        unfold RowPost at hNu
        subst ho
        have HP := Lib.hid hP.out
        have HSm := Lib.hid hSm
        have HXA := Lib.hid hXA
        clear hP hjo hokM hT hok hTB hrg hXm hVr hVl hjd hfl hJn hsl hml hm hjl hK1 hSm hXA
        obtain ⟨ware, lim, byr, a, cap, ps⟩ := c
        simp only [Cs.v] at *
        have hB0 := one_alloc w (Obj.cells #[.string ware, .int .i64 lim, .int .i64 byr, .slice a ps.length cap] 24)
        have hbx := hc.below hB0
        have i1 : (A : Int) < ((ps.length - 1 : Nat) : Int) := by omega
        have i2 : (0 : Int) ≤ A := by omega
        go_enter Tryz.func35, Tryz.ntmps35
        go_wp2_with (first
          | (go_at_call 67; (with_reducible refine (hC _ hbx).mono ?_); rintro e w1 ⟨N, a1, ca, f1, cf, rfl, hb1, hN, hT⟩)
          | (go_at_call 87; (with_reducible refine (hTo _ _ _ _ _ _ hT).mono ?_); rintro e w2 ⟨a2, c2, f2, g2, rfl, hb2, ho2⟩; have HO2 := Lib.hid ho2; clear ho2)
          | (go_at_call 88; (with_reducible refine (hFe _ _ _ _ _ (by have h := (HO2.out.up (one_alloc _ (Obj.cells #[.slice a2 (ps.length - 1) c2, .slice f2 (ps.length - 1) g2] 83))).spans HSm.out; rw [HK1.out] at h; exact h)).mono ?_); rintro e w4 ⟨v4, rfl, hb4, ho4⟩; obtain ⟨ra4, rc4, rfl, _⟩ := owns_slice ho4; obtain ⟨G4, rfl, hg4, hg4', _⟩ := owns_some ho4 (by omega); have k4 := (ho4.cellAt A (by omega)).trans HXA.out; have HO4 := Lib.hid ho4; clear ho4)
          | (go_at_call 90; (with_reducible refine (hIn _ _ _ _ (HO4.out.up (one_alloc _ (Obj.cells #[.int .i64 X] 3)) (Nat.le_refl _)) _ (World.alloc_heap_new _ _) (by simp [Value.ownBlock]; omega)).mono ?_); rintro e w5 ⟨ra5, rc5, rfl, hi5, hch5⟩; have HC5 := Lib.hid hch5; have HI5 := Lib.hid hi5; clear hch5 hi5)
          | (go_at_call 89; (with_reducible refine (hNu _ _ _ HI5.out).mono ?_); rintro e w6 ⟨v6, rfl, hb6, ho6⟩; obtain ⟨ra6, rc6, rfl, _⟩ := owns_slice ho6; have HO6 := Lib.hid ho6; clear ho6))
        have hBA := ((((hB0.ch2 hb1).ch2 hb2).ch2 (one_alloc _ (Obj.cells #[.slice a2 (ps.length - 1) c2, .slice f2 (ps.length - 1) g2] 83))).ch2 hb4).ch2 (one_alloc _ (Obj.cells #[.int .i64 X] 3))
        have hzA := ((hB0.ch2 hb1).ch2 hb2).size
        have hBE := (hBA.trans (HC5.out.belowW hBA.size (by simp [Value.ownBlock] at hg4 ⊢; omega))).ch2 hb6 (by have := (hBA.trans (HC5.out.belowW hBA.size (by simp [Value.ownBlock] at hg4 ⊢; omega))).size; omega)
        have hI6 := IntsAt.of_owns HO6.out (by rw [Hjl.out]; omega)
        have hrm := owns_room HO6.out
        rw [← Hjl.out] at hI6 hrm
        refine bodyPost_ret (v := .tuple #[.slice ra6 ps.length rc6, .bool true, .int .i64 0]) (by simp [results, Tryz.results35, go_sem, *]) rfl (HP.out ra6 rc6 _ _ (by rw [Hjl.out]) hBE hI6 hrm)
  · have h2 : (E != 0) = true := by simpa using h0
    have hC2 := fun w1 h => (hC w1 h).mono fun e w' hh => hh.1 h0
    have hJ : JB = false := by rw [hb]; simp [h0]
    subst hJ
    simp only [Bool.false_eq_true, if_false] at ho
    subst ho
    have HP := Lib.hid hP.out
    obtain ⟨ware, lim, byr, a, cap, ps⟩ := c
    simp only [Cs.v] at *
    have hB0 := one_alloc w (Obj.cells #[.string ware, .int .i64 lim, .int .i64 byr, .slice a ps.length cap] 24)
    have hbx := hc.below hB0
    clear h0 hz hz2 hC hP hb
    go_enter Tryz.func35, Tryz.ntmps35
    go_wp2_with (go_at_call 67; (with_reducible refine (hC2 _ hbx).mono ?_); rintro e w1 ⟨t, rfl, hb1⟩)
    have hBE := hB0.ch2 hb1
    refine bodyPost_ret (v := .tuple #[.slice none 0 0, .bool false, .int .i64 E]) (by simp [results, Tryz.results35, go_sem, *]) rfl (HP.out none 0 _ _ rfl ?_ (IntsAt.nilAt _) (Nat.le_refl _))
    (repeat (first | (with_reducible exact hBE) | ((with_reducible refine Below.setCell ?_ ?_ _); rotate_left; focus (first | omega | (simp; done) | (simp; omega))) | ((with_reducible refine Below.alloc ?_ ?_ _); rotate_left; focus (first | omega | (simp; done) | (simp; omega)))))
end Go.Proofs.YtodkbfbbpfghiaaGreat
