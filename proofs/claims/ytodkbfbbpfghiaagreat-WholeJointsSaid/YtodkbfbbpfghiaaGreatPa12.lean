/-
  Lemmas and walks for the laws on roads and boards: what each function of the program answers, for every input.
-/
import Derived.Test.YtodkbfbbpfghiaaGreatPa11
import Derived.Test.YtodkbfbbpfghiaaGreatPa10
set_option linter.unusedSimpArgs false
set_option linter.unusedVariables false
set_option linter.unnecessarySimpa false
namespace Go.Proofs.YtodkbfbbpfghiaaGreat
open Go.RowKit Go.Shelf
set_option maxHeartbeats 40000000
set_option maxRecDepth 100000
/-- Two parts can be of one vessel. -/
def Cs.joiN (c : Cs) (a b : Nat) : Bool := !clB c.s a b && (decide (c.lim = 0) || decide ((leastN (merS c.s (min a b) (max a b)) : Int) ≤ c.lim))
theorem MixAt.pns {c : Cs} {a b : Nat} {g : Pt} (hg : GluOf g (c.ps.getD a default) (c.ps.getD b default)) (ha : a < c.ps.length) (hb : b < c.ps.length) : pns (mixPt c.ps a b g) = merS (pns c.ps) a b := by
  obtain ⟨sa, sc, ra, rc, rfl⟩ := hg
  exact mixPt_pns ha hb (gluPt_n _ _ _ _ _ _)
theorem r6Joined (c : Cs) (x y : Int) (w : World) (hc : CsAt w c) (h0 : c.two x y = 0) :
    Calls Tryz.prog 40 #[c.v, .int .i64 x, .int .i64 y] w fun e w' => e = .returned (.bool (c.joiN x.toNat y.toNat)) ∧ Below w.heap.size w w' := by
  obtain ⟨hok, hx, hy, hne⟩ := Cs.two_zero h0
  obtain ⟨X, rfl⟩ : ∃ X : Nat, x = X := ⟨x.toNat, by omega⟩
  obtain ⟨Y, rfl⟩ : ∃ Y : Nat, y = Y := ⟨y.toNat, by omega⟩
  have hmany := hok.many
  have heach := hok.each
  have hoks := hok.oks
  have hr : c.joiN X Y = (!clB (pns c.ps) X Y && (decide (c.lim = 0) || decide ((leastN (merS (pns c.ps) (min X Y) (max X Y)) : Int) ≤ c.lim))) := rfl
  have hpn := fun a b g hg ha hb => @MixAt.pns c a b g hg ha hb
  simp only [Int.toNat_natCast]
  generalize c.joiN X Y = R at *
  obtain ⟨ware, lim, byr, a, cap, ps⟩ := c
  simp only [Cs.v] at *
  have hB0 := one_alloc w (Obj.cells #[.string ware, .int .i64 lim, .int .i64 byr, .slice a ps.length cap] 24)
  have hbx := hc.below hB0
  have hk := fun w1 (h : CsAt w1 ⟨ware, lim, byr, a, cap, ps⟩) => r6clash_any a _ cap ps X Y w1 h.ps (by omega) (by omega)
  cases hcl : clB (pns ps) X Y
  · simp only [hcl, Bool.not_false, Bool.true_and] at hk hr
    by_cases hl : lim = 0
    · subst hl
      have HR : Hid (R = true) := Lib.hid (by rw [hr]; simp)
      clear hr hcl hpn
      go_enter Tryz.func40, Tryz.ntmps40
      go_wp2_with fail
      apply SLG.rule0 ?hm1 [] [7, 8, 9, 10, 11, 12, 13, 14, 15, 16, 17, 18, 19, 20, 21, 22, 23, 24, 25, 26, 27, 28, 29, 30, 31, 32, 6] [SLF.pq 7 [] _, SLF.pq 8 [0] _, SLF.pq 9 [] _, SLF.pq 10 [] _, SL.pu 11 [1, 2, 3] (.bool false), SLF.pq 12 [4] _, SLF.pq 13 [5] _, SLF.pq 14 [6] _, SLF.pq 15 [6, 7] _, SLF.pq 16 [6, 8] _, SLF.pq 17 [6, 9] _, SLF.pq 18 [10] _, SLF.pq 19 [10, 11] _, SLF.pq 20 [10] _, SLF.pq 21 [10] _, SLF.pq 22 [10, 13, 14] _, SLF.pq 23 [10] _, SLF.pq 24 [10] _, SLF.pq 25 [10, 16, 17] _, SLF.pq 26 [10, 12, 15, 18] _, SLF.pq 27 [10, 19] _, SLF.pq 28 [10] _, SLF.pq 29 [10, 21] _, SLF.pq 30 [10, 20, 22] _, SLF.pq 31 [6, 10, 23] _, SLF.pq 32 [6, 24] _, SLF.pq 6 [25] _] [26] ?hck1 ?hkp1 (fun _ => []) ?hin1 ?hdj1 ?hfr1 ?ob1 ?en1
      case hm1 => kernel_rfl
      case hin1 => exact SL.none_held rfl
      case hdj1 => simp
      case hfr1 => intro us; simp only [SL.frame, SL.put']; simp; exact rfl
      case ob1 =>
        refine ⟨?_, ?_, ?_, ?_, ?_, ?_, ?_, ?_, ?_, ?_, ?_, ?_, ?_, ?_, ?_, ?_, ?_, ?_, ?_, ?_, ?_, ?_, ?_, ?_, ?_, ?_, ?_, trivial⟩
        all_goals first
          | (intro us w' Fe hG hu hd hv Kx hK
             try dsimp only
             simp [SL.Used, SL.pu, SL.row, SL.box, SL.rowIn, SL.boxIn, SL.boxAt, SL.boxAtIn, SLF.pq, Act.put, SL.aw_sub, SL.aw_use, SL.aw_eat, SL.aw_V, SL.aw_quiet] at hu hK
             have hB5 : Below (w.alloc (Obj.cells #[.string ware, .int .i64 0, .int .i64 byr, .slice a ps.length cap] 24)).heap.size (w.alloc (Obj.cells #[.string ware, .int .i64 0, .int .i64 byr, .slice a ps.length cap] 24)) w' := hG.below'
             obtain ⟨hc5, hf5⟩ := bcell hB5
             have hs5 := hB5.size
             have hx5 := hbx.below hB5
             clear hv hG
             first
               | (refine SLF.wpo_do (SLF.wanted_free rfl) ?hd1 ?_; (case hd1 => intro c h; cases h))
               | (refine SLF.wpo_do (SLF.wanted_by rfl rfl ?hv1) ?hd1 ?_; (case hv1 => simp [hu]; done); (case hd1 => intro c h; cases h))
               | (refine' SLF.wpo_not (SLG.wanted_not rfl rfl ?hv1 ?hn1) ?_; (case hv1 => simp [hu]; exact rfl); (case hn1 => first | (simp; done) | (simp [undef]; done)))
             clear hd
             first
               | (go_step; exact hK _ _ _ (SL.Chg.refl _ _) (by first | exact rfl | (simp only [hu]; exact rfl)) rfl (by simp) rfl)
               | exact hK _ _ _ (SL.Chg.refl _ _) rfl rfl (by simp) rfl)
          | skip
        · refine SLG.ob_sp rfl rfl rfl fun us w' Fe hG hu hd Kx hK => ?_
          try dsimp only
          simp [SL.Used, SL.pu, SL.row, SL.box, SL.rowIn, SL.boxIn, SL.boxAt, SL.boxAtIn, SLF.pq, Act.put, SL.aw_sub, SL.aw_use, SL.aw_eat, SL.aw_V, SL.aw_quiet] at hu
          have hB5 : Below (w.alloc (Obj.cells #[.string ware, .int .i64 0, .int .i64 byr, .slice a ps.length cap] 24)).heap.size (w.alloc (Obj.cells #[.string ware, .int .i64 0, .int .i64 byr, .slice a ps.length cap] 24)) w' := hG.below'
          obtain ⟨hc5, hf5⟩ := bcell hB5
          have hs5 := hB5.size
          have hx5 := hbx.below hB5
          refine SLF.wpo_do (SLF.wanted_free rfl) ?hd1 ?_
          case hd1 => intro c h; cases h
          go_step
          refine (hk _ (hbx.below (hG.below'))).mono ?_
          rintro e w6 ⟨rfl, hb6⟩
          exact hK _ _ w6 _ (by simp [Act.put]; done) (.of_below hb6) ⟨rfl, rfl⟩ (fun k hk => by cases hk)
      case hck1 => kernel_rfl
      case hkp1 => kernel_rfl
      intro us w5 Fs hG hu hbd hd
      simp [SL.Used, SL.pu, SLF.pq] at hu
      have hB5 : Below w.heap.size w w5 := hB0.trans ((hG.below').mono (by simp))
      clear hbd hd hG
      obtain ⟨u6, _⟩ := hu
      simp only [u6]
      go_wp2_with fail
      go_ret
      exact ⟨by rw [HR.out]; simp [u6], hB5⟩
    · have hle : (lim == 0) = false := by simpa using hl
      have hdl : decide (lim = 0) = false := by simpa using hl
      rw [hdl, Bool.false_or] at hr
      rcases (by omega : X < Y ∨ Y < X) with hlt | hlt
      · have eA : min X Y = X := by omega
        have eB : max X Y = Y := by omega
        have i1 : decide ((Y : Int) < X) = false := by simp; omega
        have i2 : decide ((X : Int) < Y) = true := by simp; omega
        have i3 : ¬ (Y < X) := by omega
        rw [eA, eB] at hr
        have hms := hoks.merS hlt (by rw [pns_len]; omega) hcl
        have hm := fun w1 (h : CsAt w1 ⟨ware, lim, byr, a, cap, ps⟩) h1 h2 => r6mix a cap ps X Y w1 h.ps hlt (by omega) (by omega) h1 h2
        have hpA := ptB_small (heach _ (Pt.mem (show X < ps.length by omega)))
        have hpB := ptB_small (heach _ (Pt.mem (show Y < ps.length by omega)))
        have hm2 := fun w1 h => hm w1 h ⟨by omega, by omega⟩ ⟨by omega, by omega⟩
        have hpp : ∀ g, GluOf g (ps.getD X default) (ps.getD Y default) → pns (mixPt ps X Y g) = merS (pns ps) X Y := fun g hg => hpn X Y g hg (by show _ < ps.length; omega) (by show _ < ps.length; omega)
        have HML := Lib.hid (fun g => mixPt_len (a := X) (g := g) (show Y < ps.length by omega))
        obtain ⟨M, hM⟩ : ∃ M, leastN (merS (pns ps) X Y) = M := ⟨_, rfl⟩
        have HM := Lib.hid hM
        rw [hM] at hr
        have HR := Lib.hid hr
        clear hr hcl hpn eA eB hm hl hM
        generalize hPA : ps.getD X default = PA at *
        generalize hPB : ps.getD Y default = PB at *
        have HPA := Lib.hid hPA
        have HPB := Lib.hid hPB
        clear hPA hPB
        go_enter Tryz.func40, Tryz.ntmps40
        go_wp2_with fail
        apply SLG.rule0 ?hm2 [] [7, 8, 9, 10, 11, 12, 13, 14, 15, 16, 17, 18, 19, 20, 21, 22, 23, 24, 25, 26, 27, 28, 29, 30, 31, 32, 6] [SLF.pq 7 [] _, SLF.pq 8 [0] _, SLF.pq 9 [] _, SLF.pq 10 [] _, SL.pu 11 [1, 2, 3] (.bool false), SLF.pq 12 [4] _, SLF.pq 13 [5] _, SLF.pq 14 [6] _, SLF.pq 15 [6, 7] _, SLF.pq 16 [6, 8] _, SLF.pq 17 [6, 9] _, SLF.pq 18 [10] _, SLF.pq 19 [10, 11] _, SLF.pq 20 [10] _, SLF.pq 21 [10] _, SLF.pq 22 [10, 13, 14] _, SLF.pq 23 [10] _, SLF.pq 24 [10] _, SLF.pq 25 [10, 16, 17] _, SL.aw 26 [10, 12, 15, 18] [] (fun x => .ex fun g : Pt => .sep (.pure (GluOf g PA PB)) (.sepd (.row w.heap.size 49 8 x (mixPt ps X Y g).length (pcs (mixPt ps X Y g))) (.own w.heap.size g))), SL.pu 27 [10, 19] (.int .i64 M), SLF.pq 28 [10] _, SLF.pq 29 [10, 21] _, SLF.pq 30 [10, 20, 22] _, SLF.pq 31 [6, 10, 23] _, SLF.pq 32 [6, 24] _, SLF.pq 6 [25] _] [26] ?hck2 ?hkp2 (fun _ => []) ?hin2 ?hdj2 ?hfr2 ?ob2 ?en2
        case hm2 => kernel_rfl
        case hin2 => exact SL.none_held rfl
        case hdj2 => simp
        case hfr2 => intro us; simp only [SL.frame, SL.put']; simp; exact rfl
        case ob2 =>
          refine ⟨?_, ?_, ?_, ?_, ?_, ?_, ?_, ?_, ?_, ?_, ?_, ?_, ?_, ?_, ?_, ?_, ?_, ?_, ?_, ?_, ?_, ?_, ?_, ?_, ?_, ?_, ?_, trivial⟩
          all_goals first
            | (intro us w' Fe hG hu hd hv Kx hK
               try dsimp only
               simp [SL.Used, SL.pu, SL.row, SL.box, SL.rowIn, SL.boxIn, SL.boxAt, SL.boxAtIn, SLF.pq, Act.put, SL.aw_sub, SL.aw_use, SL.aw_eat, SL.aw_V, SL.aw_quiet] at hu hK
               have hB5 : Below (w.alloc (Obj.cells #[.string ware, .int .i64 lim, .int .i64 byr, .slice a ps.length cap] 24)).heap.size (w.alloc (Obj.cells #[.string ware, .int .i64 lim, .int .i64 byr, .slice a ps.length cap] 24)) w' := hG.below'
               obtain ⟨hc5, hf5⟩ := bcell hB5
               have hs5 := hB5.size
               have hx5 := hbx.below hB5
               clear hv hG
               first
                 | (refine SLF.wpo_do (SLF.wanted_free rfl) ?hd2 ?_; (case hd2 => intro c h; cases h))
                 | (refine SLF.wpo_do (SLF.wanted_by rfl rfl ?hv2) ?hd2 ?_; (case hv2 => simp [hu]; done); (case hd2 => intro c h; cases h))
                 | (refine' SLF.wpo_not (SLG.wanted_not rfl rfl ?hv2 ?hn2) ?_; (case hv2 => simp [hu]; exact rfl); (case hn2 => first | (simp; done) | (simp [undef]; done)))
               clear hd
               first
                 | (go_step; exact hK _ _ _ (SL.Chg.refl _ _) (by first | exact rfl | (simp only [hu]; exact rfl)) rfl (by simp) rfl)
                 | exact hK _ _ _ (SL.Chg.refl _ _) rfl rfl (by simp) rfl)
            | skip
          · refine SLG.ob_sp rfl rfl rfl fun us w' Fe hG hu hd Kx hK => ?_
            try dsimp only
            simp [SL.Used, SL.pu, SL.row, SL.box, SL.rowIn, SL.boxIn, SL.boxAt, SL.boxAtIn, SLF.pq, Act.put, SL.aw_sub, SL.aw_use, SL.aw_eat, SL.aw_V, SL.aw_quiet] at hu
            have hB5 : Below (w.alloc (Obj.cells #[.string ware, .int .i64 lim, .int .i64 byr, .slice a ps.length cap] 24)).heap.size (w.alloc (Obj.cells #[.string ware, .int .i64 lim, .int .i64 byr, .slice a ps.length cap] 24)) w' := hG.below'
            obtain ⟨hc5, hf5⟩ := bcell hB5
            have hs5 := hB5.size
            have hx5 := hbx.below hB5
            refine SLF.wpo_do (SLF.wanted_free rfl) ?hd2 ?_
            case hd2 => intro c h; cases h
            go_step
            refine (hk _ (hbx.below (hG.below'))).mono ?_
            rintro e w6 ⟨rfl, hb6⟩
            exact hK _ _ w6 _ (by simp [Act.put]; done) (.of_below hb6) ⟨rfl, rfl⟩ (fun k hk => by cases hk)
          · refine SLG.ob_sp rfl rfl rfl fun us w' Fe hG hu hd Kx hK => ?_
            try dsimp only
            simp [SL.Used, SL.pu, SL.row, SL.box, SL.rowIn, SL.boxIn, SL.boxAt, SL.boxAtIn, SLF.pq, Act.put, SL.aw_sub, SL.aw_use, SL.aw_eat, SL.aw_V, SL.aw_quiet] at hu
            have hB5 : Below (w.alloc (Obj.cells #[.string ware, .int .i64 lim, .int .i64 byr, .slice a ps.length cap] 24)).heap.size (w.alloc (Obj.cells #[.string ware, .int .i64 lim, .int .i64 byr, .slice a ps.length cap] 24)) w' := hG.below'
            obtain ⟨hc5, hf5⟩ := bcell hB5
            have hs5 := hB5.size
            have hx5 := hbx.below hB5
            first
              | (refine SLF.wpo_do (SLF.wanted_free rfl) ?hd2 ?_; (case hd2 => intro c h; cases h))
              | (refine SLF.wpo_do (SLF.wanted_by rfl rfl ?hv2) ?hd2 ?_; (case hv2 => simp [hu]; done); (case hd2 => intro c h; cases h))
              | (refine' SLF.wpo_not (SLG.wanted_not rfl rfl ?hv2 ?hn2) ?_; (case hv2 => simp [hu]; exact rfl); (case hn2 => first | (simp; done) | (simp [undef]; done)))
            have hs := Nat.le_trans hB0.size hs5
            go_step
            refine (hm2 _ hx5).mono ?_
            rintro e w6 ⟨v, g, hg, rfl, hb6, hmx⟩
            rw [HPA.out, HPB.out] at hg
            refine hK _ v w6 _ (by simp [Act.put]; done) (.of_below hb6) (SL.aw_in ⟨g, _, _, ⟨hg, rfl⟩, ⟨_, _, ⟨SL.row_base hmx.row hs, rfl⟩, ⟨hmx.own.base hs, rfl⟩, hmx.apart, rfl⟩, rfl⟩) ?_
            intro k hk
            right
            rcases List.mem_append.1 (show k ∈ v.ownBlock.toList ++ g.blocks from hk) with h | h
            · exact SL.row_bounds hmx.row k h
            · exact hmx.own.bounds k h
          · refine SLG.ob_sp rfl rfl rfl fun us w' Fe hG hu hd Kx hK => ?_
            try dsimp only
            simp [SL.Used, SL.pu, SL.row, SL.box, SL.rowIn, SL.boxIn, SL.boxAt, SL.boxAtIn, SLF.pq, Act.put, SL.aw_sub, SL.aw_use, SL.aw_eat, SL.aw_V, SL.aw_quiet] at hu
            have hB5 : Below (w.alloc (Obj.cells #[.string ware, .int .i64 lim, .int .i64 byr, .slice a ps.length cap] 24)).heap.size (w.alloc (Obj.cells #[.string ware, .int .i64 lim, .int .i64 byr, .slice a ps.length cap] 24)) w' := hG.below'
            obtain ⟨hc5, hf5⟩ := bcell hB5
            have hs5 := hB5.size
            have hx5 := hbx.below hB5
            first
              | (refine SLF.wpo_do (SLF.wanted_free rfl) ?hd2 ?_; (case hd2 => intro c h; cases h))
              | (refine SLF.wpo_do (SLF.wanted_by rfl rfl ?hv2) ?hd2 ?_; (case hv2 => simp [hu]; done); (case hd2 => intro c h; cases h))
              | (refine' SLF.wpo_not (SLG.wanted_not rfl rfl ?hv2 ?hn2) ?_; (case hv2 => simp [hu]; exact rfl); (case hn2 => first | (simp; done) | (simp [undef]; done)))
            obtain ⟨g, F1, F2, ⟨hg, rfl⟩, ⟨F3, F4, ⟨ho, rfl⟩, ⟨hgo, rfl⟩, hap, rfl⟩, _⟩ := SL.aw_out hu.2
            have hmx : MixAt w' w.heap.size (us 26) (mixPt ps X Y g) g := ⟨ho, hgo, hap⟩
            have hgs := ascOf_len (PA.sh ++ PB.sh)
            have hgr := ascOf_len (PA.re ++ PB.re)
            rw [← hg.sh, List.length_append] at hgs
            rw [← hg.re, List.length_append] at hgr
            obtain ⟨va, vc, e26, _, hpa⟩ := hmx.at_ (by omega) (by omega) (by omega) (fun p hp => hx5.ps.each p hp)
            have hL := r6least va _ vc _ w' hpa (by rw [hpp g hg]; exact hms) (by have := HML.out g; omega)
            rw [hpp g hg, HM.out] at hL
            clear hpa hmx hgs hgr ho hgo hap hu
            go_step
            refine hL.mono ?_
            rintro e w6 ⟨rfl, hb6⟩
            exact hK _ _ w6 _ (by simp [Act.put]; done) (.of_below hb6) ⟨rfl, rfl⟩ (fun k hk => by cases hk)
        case hck2 => kernel_rfl
        case hkp2 => kernel_rfl
        intro us w5 Fs hG hu hbd hd
        simp [SL.Used, SL.pu, SLF.pq] at hu
        have hB5 : Below w.heap.size w w5 := hB0.trans ((hG.below').mono (by simp))
        clear hbd hd hG
        obtain ⟨u6, _⟩ := hu
        simp only [u6]
        go_wp2_with fail
        go_ret
        exact ⟨by rw [HR.out]; simp [u6], hB5⟩
      · have eA : min X Y = Y := by omega
        have eB : max X Y = X := by omega
        have i1 : decide ((Y : Int) < X) = true := by simp; omega
        have i2 : decide ((X : Int) < Y) = false := by simp; omega
        have i3 : ¬ (X < Y) := by omega
        rw [eA, eB] at hr
        have hms := hoks.merS hlt (by rw [pns_len]; omega) (by rw [clB_comm]; exact hcl)
        have hm := fun w1 (h : CsAt w1 ⟨ware, lim, byr, a, cap, ps⟩) h1 h2 => r6mix a cap ps Y X w1 h.ps hlt (by omega) (by omega) h1 h2
        have hpA := ptB_small (heach _ (Pt.mem (show Y < ps.length by omega)))
        have hpB := ptB_small (heach _ (Pt.mem (show X < ps.length by omega)))
        have hm2 := fun w1 h => hm w1 h ⟨by omega, by omega⟩ ⟨by omega, by omega⟩
        have hpp : ∀ g, GluOf g (ps.getD Y default) (ps.getD X default) → pns (mixPt ps Y X g) = merS (pns ps) Y X := fun g hg => hpn Y X g hg (by show _ < ps.length; omega) (by show _ < ps.length; omega)
        have HML := Lib.hid (fun g => mixPt_len (a := Y) (g := g) (show X < ps.length by omega))
        obtain ⟨M, hM⟩ : ∃ M, leastN (merS (pns ps) Y X) = M := ⟨_, rfl⟩
        have HM := Lib.hid hM
        rw [hM] at hr
        have HR := Lib.hid hr
        clear hr hcl hpn eA eB hm hl hM
        generalize hPA : ps.getD Y default = PA at *
        generalize hPB : ps.getD X default = PB at *
        have HPA := Lib.hid hPA
        have HPB := Lib.hid hPB
        clear hPA hPB
        go_enter Tryz.func40, Tryz.ntmps40
        go_wp2_with fail
        apply SLG.rule0 ?hm3 [] [7, 8, 9, 10, 11, 12, 13, 14, 15, 16, 17, 18, 19, 20, 21, 22, 23, 24, 25, 26, 27, 28, 29, 30, 31, 32, 6] [SLF.pq 7 [] _, SLF.pq 8 [0] _, SLF.pq 9 [] _, SLF.pq 10 [] _, SL.pu 11 [1, 2, 3] (.bool false), SLF.pq 12 [4] _, SLF.pq 13 [5] _, SLF.pq 14 [6] _, SLF.pq 15 [6, 7] _, SLF.pq 16 [6, 8] _, SLF.pq 17 [6, 9] _, SLF.pq 18 [10] _, SLF.pq 19 [10, 11] _, SLF.pq 20 [10] _, SLF.pq 21 [10] _, SLF.pq 22 [10, 13, 14] _, SLF.pq 23 [10] _, SLF.pq 24 [10] _, SLF.pq 25 [10, 16, 17] _, SL.aw 26 [10, 12, 15, 18] [] (fun x => .ex fun g : Pt => .sep (.pure (GluOf g PA PB)) (.sepd (.row w.heap.size 49 8 x (mixPt ps Y X g).length (pcs (mixPt ps Y X g))) (.own w.heap.size g))), SL.pu 27 [10, 19] (.int .i64 M), SLF.pq 28 [10] _, SLF.pq 29 [10, 21] _, SLF.pq 30 [10, 20, 22] _, SLF.pq 31 [6, 10, 23] _, SLF.pq 32 [6, 24] _, SLF.pq 6 [25] _] [26] ?hck3 ?hkp3 (fun _ => []) ?hin3 ?hdj3 ?hfr3 ?ob3 ?en3
        case hm3 => kernel_rfl
        case hin3 => exact SL.none_held rfl
        case hdj3 => simp
        case hfr3 => intro us; simp only [SL.frame, SL.put']; simp; exact rfl
        case ob3 =>
          refine ⟨?_, ?_, ?_, ?_, ?_, ?_, ?_, ?_, ?_, ?_, ?_, ?_, ?_, ?_, ?_, ?_, ?_, ?_, ?_, ?_, ?_, ?_, ?_, ?_, ?_, ?_, ?_, trivial⟩
          all_goals first
            | (intro us w' Fe hG hu hd hv Kx hK
               try dsimp only
               simp [SL.Used, SL.pu, SL.row, SL.box, SL.rowIn, SL.boxIn, SL.boxAt, SL.boxAtIn, SLF.pq, Act.put, SL.aw_sub, SL.aw_use, SL.aw_eat, SL.aw_V, SL.aw_quiet] at hu hK
               have hB5 : Below (w.alloc (Obj.cells #[.string ware, .int .i64 lim, .int .i64 byr, .slice a ps.length cap] 24)).heap.size (w.alloc (Obj.cells #[.string ware, .int .i64 lim, .int .i64 byr, .slice a ps.length cap] 24)) w' := hG.below'
               obtain ⟨hc5, hf5⟩ := bcell hB5
               have hs5 := hB5.size
               have hx5 := hbx.below hB5
               clear hv hG
               first
                 | (refine SLF.wpo_do (SLF.wanted_free rfl) ?hd3 ?_; (case hd3 => intro c h; cases h))
                 | (refine SLF.wpo_do (SLF.wanted_by rfl rfl ?hv3) ?hd3 ?_; (case hv3 => simp [hu]; done); (case hd3 => intro c h; cases h))
                 | (refine' SLF.wpo_not (SLG.wanted_not rfl rfl ?hv3 ?hn3) ?_; (case hv3 => simp [hu]; exact rfl); (case hn3 => first | (simp; done) | (simp [undef]; done)))
               clear hd
               first
                 | (go_step; exact hK _ _ _ (SL.Chg.refl _ _) (by first | exact rfl | (simp only [hu]; exact rfl)) rfl (by simp) rfl)
                 | exact hK _ _ _ (SL.Chg.refl _ _) rfl rfl (by simp) rfl)
            | skip
          · refine SLG.ob_sp rfl rfl rfl fun us w' Fe hG hu hd Kx hK => ?_
            try dsimp only
            simp [SL.Used, SL.pu, SL.row, SL.box, SL.rowIn, SL.boxIn, SL.boxAt, SL.boxAtIn, SLF.pq, Act.put, SL.aw_sub, SL.aw_use, SL.aw_eat, SL.aw_V, SL.aw_quiet] at hu
            have hB5 : Below (w.alloc (Obj.cells #[.string ware, .int .i64 lim, .int .i64 byr, .slice a ps.length cap] 24)).heap.size (w.alloc (Obj.cells #[.string ware, .int .i64 lim, .int .i64 byr, .slice a ps.length cap] 24)) w' := hG.below'
            obtain ⟨hc5, hf5⟩ := bcell hB5
            have hs5 := hB5.size
            have hx5 := hbx.below hB5
            refine SLF.wpo_do (SLF.wanted_free rfl) ?hd3 ?_
            case hd3 => intro c h; cases h
            go_step
            refine (hk _ (hbx.below (hG.below'))).mono ?_
            rintro e w6 ⟨rfl, hb6⟩
            exact hK _ _ w6 _ (by simp [Act.put]; done) (.of_below hb6) ⟨rfl, rfl⟩ (fun k hk => by cases hk)
          · refine SLG.ob_sp rfl rfl rfl fun us w' Fe hG hu hd Kx hK => ?_
            try dsimp only
            simp [SL.Used, SL.pu, SL.row, SL.box, SL.rowIn, SL.boxIn, SL.boxAt, SL.boxAtIn, SLF.pq, Act.put, SL.aw_sub, SL.aw_use, SL.aw_eat, SL.aw_V, SL.aw_quiet] at hu
            have hB5 : Below (w.alloc (Obj.cells #[.string ware, .int .i64 lim, .int .i64 byr, .slice a ps.length cap] 24)).heap.size (w.alloc (Obj.cells #[.string ware, .int .i64 lim, .int .i64 byr, .slice a ps.length cap] 24)) w' := hG.below'
            obtain ⟨hc5, hf5⟩ := bcell hB5
            have hs5 := hB5.size
            have hx5 := hbx.below hB5
            first
              | (refine SLF.wpo_do (SLF.wanted_free rfl) ?hd3 ?_; (case hd3 => intro c h; cases h))
              | (refine SLF.wpo_do (SLF.wanted_by rfl rfl ?hv3) ?hd3 ?_; (case hv3 => simp [hu]; done); (case hd3 => intro c h; cases h))
              | (refine' SLF.wpo_not (SLG.wanted_not rfl rfl ?hv3 ?hn3) ?_; (case hv3 => simp [hu]; exact rfl); (case hn3 => first | (simp; done) | (simp [undef]; done)))
            have hs := Nat.le_trans hB0.size hs5
            go_step
            refine (hm2 _ hx5).mono ?_
            rintro e w6 ⟨v, g, hg, rfl, hb6, hmx⟩
            rw [HPA.out, HPB.out] at hg
            refine hK _ v w6 _ (by simp [Act.put]; done) (.of_below hb6) (SL.aw_in ⟨g, _, _, ⟨hg, rfl⟩, ⟨_, _, ⟨SL.row_base hmx.row hs, rfl⟩, ⟨hmx.own.base hs, rfl⟩, hmx.apart, rfl⟩, rfl⟩) ?_
            intro k hk
            right
            rcases List.mem_append.1 (show k ∈ v.ownBlock.toList ++ g.blocks from hk) with h | h
            · exact SL.row_bounds hmx.row k h
            · exact hmx.own.bounds k h
          · refine SLG.ob_sp rfl rfl rfl fun us w' Fe hG hu hd Kx hK => ?_
            try dsimp only
            simp [SL.Used, SL.pu, SL.row, SL.box, SL.rowIn, SL.boxIn, SL.boxAt, SL.boxAtIn, SLF.pq, Act.put, SL.aw_sub, SL.aw_use, SL.aw_eat, SL.aw_V, SL.aw_quiet] at hu
            have hB5 : Below (w.alloc (Obj.cells #[.string ware, .int .i64 lim, .int .i64 byr, .slice a ps.length cap] 24)).heap.size (w.alloc (Obj.cells #[.string ware, .int .i64 lim, .int .i64 byr, .slice a ps.length cap] 24)) w' := hG.below'
            obtain ⟨hc5, hf5⟩ := bcell hB5
            have hs5 := hB5.size
            have hx5 := hbx.below hB5
            first
              | (refine SLF.wpo_do (SLF.wanted_free rfl) ?hd3 ?_; (case hd3 => intro c h; cases h))
              | (refine SLF.wpo_do (SLF.wanted_by rfl rfl ?hv3) ?hd3 ?_; (case hv3 => simp [hu]; done); (case hd3 => intro c h; cases h))
              | (refine' SLF.wpo_not (SLG.wanted_not rfl rfl ?hv3 ?hn3) ?_; (case hv3 => simp [hu]; exact rfl); (case hn3 => first | (simp; done) | (simp [undef]; done)))
            obtain ⟨g, F1, F2, ⟨hg, rfl⟩, ⟨F3, F4, ⟨ho, rfl⟩, ⟨hgo, rfl⟩, hap, rfl⟩, _⟩ := SL.aw_out hu.2
            have hmx : MixAt w' w.heap.size (us 26) (mixPt ps Y X g) g := ⟨ho, hgo, hap⟩
            have hgs := ascOf_len (PA.sh ++ PB.sh)
            have hgr := ascOf_len (PA.re ++ PB.re)
            rw [← hg.sh, List.length_append] at hgs
            rw [← hg.re, List.length_append] at hgr
            obtain ⟨va, vc, e26, _, hpa⟩ := hmx.at_ (by omega) (by omega) (by omega) (fun p hp => hx5.ps.each p hp)
            have hL := r6least va _ vc _ w' hpa (by rw [hpp g hg]; exact hms) (by have := HML.out g; omega)
            rw [hpp g hg, HM.out] at hL
            clear hpa hmx hgs hgr ho hgo hap hu
            go_step
            refine hL.mono ?_
            rintro e w6 ⟨rfl, hb6⟩
            exact hK _ _ w6 _ (by simp [Act.put]; done) (.of_below hb6) ⟨rfl, rfl⟩ (fun k hk => by cases hk)
        case hck3 => kernel_rfl
        case hkp3 => kernel_rfl
        intro us w5 Fs hG hu hbd hd
        simp [SL.Used, SL.pu, SLF.pq] at hu
        have hB5 : Below w.heap.size w w5 := hB0.trans ((hG.below').mono (by simp))
        clear hbd hd hG
        obtain ⟨u6, _⟩ := hu
        simp only [u6]
        go_wp2_with fail
        go_ret
        exact ⟨by rw [HR.out]; simp [u6], hB5⟩
  · simp only [hcl, Bool.not_true, Bool.false_and] at hk hr
    have HR : Hid (R = false) := Lib.hid hr
    clear hr hcl hpn
    go_enter Tryz.func40, Tryz.ntmps40
    go_wp2_with fail
    apply SLG.rule0 ?hm4 [] [7, 8, 9, 10, 11, 12, 13, 14, 15, 16, 17, 18, 19, 20, 21, 22, 23, 24, 25, 26, 27, 28, 29, 30, 31, 32, 6] [SLF.pq 7 [] _, SLF.pq 8 [0] _, SLF.pq 9 [] _, SLF.pq 10 [] _, SL.pu 11 [1, 2, 3] (.bool true), SLF.pq 12 [4] _, SLF.pq 13 [5] _, SLF.pq 14 [6] _, SLF.pq 15 [6, 7] _, SLF.pq 16 [6, 8] _, SLF.pq 17 [6, 9] _, SLF.pq 18 [10] _, SLF.pq 19 [10, 11] _, SLF.pq 20 [10] _, SLF.pq 21 [10] _, SLF.pq 22 [10, 13, 14] _, SLF.pq 23 [10] _, SLF.pq 24 [10] _, SLF.pq 25 [10, 16, 17] _, SLF.pq 26 [10, 12, 15, 18] _, SLF.pq 27 [10, 19] _, SLF.pq 28 [10] _, SLF.pq 29 [10, 21] _, SLF.pq 30 [10, 20, 22] _, SLF.pq 31 [6, 10, 23] _, SLF.pq 32 [6, 24] _, SLF.pq 6 [25] _] [26] ?hck4 ?hkp4 (fun _ => []) ?hin4 ?hdj4 ?hfr4 ?ob4 ?en4
    case hm4 => kernel_rfl
    case hin4 => exact SL.none_held rfl
    case hdj4 => simp
    case hfr4 => intro us; simp only [SL.frame, SL.put']; simp; exact rfl
    case ob4 =>
      refine ⟨?_, ?_, ?_, ?_, ?_, ?_, ?_, ?_, ?_, ?_, ?_, ?_, ?_, ?_, ?_, ?_, ?_, ?_, ?_, ?_, ?_, ?_, ?_, ?_, ?_, ?_, ?_, trivial⟩
      all_goals first
        | (intro us w' Fe hG hu hd hv Kx hK
           try dsimp only
           simp [SL.Used, SL.pu, SL.row, SL.box, SL.rowIn, SL.boxIn, SL.boxAt, SL.boxAtIn, SLF.pq, Act.put, SL.aw_sub, SL.aw_use, SL.aw_eat, SL.aw_V, SL.aw_quiet] at hu hK
           have hB5 : Below (w.alloc (Obj.cells #[.string ware, .int .i64 lim, .int .i64 byr, .slice a ps.length cap] 24)).heap.size (w.alloc (Obj.cells #[.string ware, .int .i64 lim, .int .i64 byr, .slice a ps.length cap] 24)) w' := hG.below'
           obtain ⟨hc5, hf5⟩ := bcell hB5
           have hs5 := hB5.size
           have hx5 := hbx.below hB5
           clear hv hG
           first
             | (refine SLF.wpo_do (SLF.wanted_free rfl) ?hd4 ?_; (case hd4 => intro c h; cases h))
             | (refine SLF.wpo_do (SLF.wanted_by rfl rfl ?hv4) ?hd4 ?_; (case hv4 => simp [hu]; done); (case hd4 => intro c h; cases h))
             | (refine' SLF.wpo_not (SLG.wanted_not rfl rfl ?hv4 ?hn4) ?_; (case hv4 => simp [hu]; exact rfl); (case hn4 => first | (simp; done) | (simp [undef]; done)))
           clear hd
           first
             | (go_step; exact hK _ _ _ (SL.Chg.refl _ _) (by first | exact rfl | (simp only [hu]; exact rfl)) rfl (by simp) rfl)
             | exact hK _ _ _ (SL.Chg.refl _ _) rfl rfl (by simp) rfl)
        | skip
      · refine SLG.ob_sp rfl rfl rfl fun us w' Fe hG hu hd Kx hK => ?_
        try dsimp only
        simp [SL.Used, SL.pu, SL.row, SL.box, SL.rowIn, SL.boxIn, SL.boxAt, SL.boxAtIn, SLF.pq, Act.put, SL.aw_sub, SL.aw_use, SL.aw_eat, SL.aw_V, SL.aw_quiet] at hu
        have hB5 : Below (w.alloc (Obj.cells #[.string ware, .int .i64 lim, .int .i64 byr, .slice a ps.length cap] 24)).heap.size (w.alloc (Obj.cells #[.string ware, .int .i64 lim, .int .i64 byr, .slice a ps.length cap] 24)) w' := hG.below'
        obtain ⟨hc5, hf5⟩ := bcell hB5
        have hs5 := hB5.size
        have hx5 := hbx.below hB5
        refine SLF.wpo_do (SLF.wanted_free rfl) ?hd4 ?_
        case hd4 => intro c h; cases h
        go_step
        refine (hk _ (hbx.below (hG.below'))).mono ?_
        rintro e w6 ⟨rfl, hb6⟩
        exact hK _ _ w6 _ (by simp [Act.put]; done) (.of_below hb6) ⟨rfl, rfl⟩ (fun k hk => by cases hk)
    case hck4 => kernel_rfl
    case hkp4 => kernel_rfl
    intro us w5 Fs hG hu hbd hd
    simp [SL.Used, SL.pu, SLF.pq] at hu
    have hB5 : Below w.heap.size w w5 := hB0.trans ((hG.below').mono (by simp))
    clear hbd hd hG
    obtain ⟨u6, _⟩ := hu
    simp only [u6]
    go_wp2_with fail
    go_ret
    exact ⟨by rw [HR.out]; simp [u6], hB5⟩
set_option maxHeartbeats 4000000
/-- What is a bar of two parts. -/
def Cs.barN (c : Cs) (a b : Nat) (l : List Int) : Bool := if clB c.s a b then decide (l.length = 0) else decide (0 < c.lim) && decide ((l.length : Int) = c.lim + 1) && witB (merS c.s (min a b) (max a b)) [] l
def Cs.bar (c : Cs) (x y : Int) (l : List Int) : Bool := decide (c.two x y = 0) && c.barN x.toNat y.toNat l
theorem ret2_bool {a b : Bool} {x : Value} (h : a = b) : Ending.returned (.tuple #[.bool a, x]) = .returned (.tuple #[.bool b, x]) := by rw [h]
theorem r6CheckBar (c : Cs) (x y : Int) (al : Option Addr) (m cl : Nat) (l : List Int) (w : World) (hc : CsAt w c) (hl : IntsAt w al m cl l) (hls : l.length ≤ 1000000) :
    Calls Tryz.prog 38 #[c.v, .int .i64 x, .int .i64 y, .slice al m cl] w fun e w' => e = .returned (.tuple #[.bool (c.bar x y l), .int .i64 (c.two x y)]) ∧ Below w.heap.size w w' := by
  have hT := fun w1 (h : CsAt w1 c) => r6two c x y w1 h
  have hz := @Cs.two_zero c x y
  have hr : c.bar x y l = (decide (c.two x y = 0) && c.barN x.toNat y.toNat l) := rfl
  obtain rfl := hl.len
  generalize c.bar x y l = R at *
  generalize c.two x y = E at *
  by_cases h0 : E = 0
  · subst h0
    obtain ⟨hok, hx, hy, hne⟩ := hz rfl
    obtain ⟨X, rfl⟩ : ∃ X : Nat, x = X := ⟨x.toNat, by omega⟩
    obtain ⟨Y, rfl⟩ : ∃ Y : Nat, y = Y := ⟨y.toNat, by omega⟩
    have hmany := hok.many
    have heach := hok.each
    have hoks := hok.oks
    have hlim := hok.lim
    have hpn := fun a b g hg ha hb => @MixAt.pns c a b g hg ha hb
    unfold Cs.barN Cs.s at hr
    simp only [Int.toNat_natCast, decide_true, Bool.true_and] at hr
    obtain ⟨ware, lim, byr, a, cap, ps⟩ := c
    simp only [Cs.v] at *
    have hB0 := one_alloc w (Obj.cells #[.string ware, .int .i64 lim, .int .i64 byr, .slice a ps.length cap] 24)
    have hbx := hc.below hB0
    have hlx := hl.below hB0
    have hk := fun w1 (h : CsAt w1 ⟨ware, lim, byr, a, cap, ps⟩) => r6clash_any a _ cap ps X Y w1 h.ps (by omega) (by omega)
    cases hcl : clB (pns ps) X Y
    · simp only [hcl, Bool.false_eq_true, if_false] at hk hr
      rcases (by omega : X < Y ∨ Y < X) with hlt | hlt
      · have eA : min X Y = X := by omega
        have eB : max X Y = Y := by omega
        have i1 : decide ((Y : Int) < X) = false := by simp; omega
        have i2 : decide ((X : Int) < Y) = true := by simp; omega
        have i3 : ¬ (Y < X) := by omega
        rw [eA, eB] at hr
        have hms := hoks.merS hlt (by rw [pns_len]; omega) hcl
        have hm := fun w1 (h : CsAt w1 ⟨ware, lim, byr, a, cap, ps⟩) h1 h2 => r6mix a cap ps X Y w1 h.ps hlt (by omega) (by omega) h1 h2
        have hpA := ptB_small (heach _ (Pt.mem (show X < ps.length by omega)))
        have hpB := ptB_small (heach _ (Pt.mem (show Y < ps.length by omega)))
        have hm2 := fun w1 h => hm w1 h ⟨by omega, by omega⟩ ⟨by omega, by omega⟩
        have hpp : ∀ g, GluOf g (ps.getD X default) (ps.getD Y default) → pns (mixPt ps X Y g) = merS (pns ps) X Y := fun g hg => hpn X Y g hg (by show _ < ps.length; omega) (by show _ < ps.length; omega)
        have HML := Lib.hid (fun g => mixPt_len (a := X) (g := g) (show Y < ps.length by omega))
        obtain ⟨W, hW⟩ : ∃ W, witB (merS (pns ps) X Y) [] l = W := ⟨_, rfl⟩
        have HW := Lib.hid hW
        rw [hW] at hr
        have HR := Lib.hid hr
        clear hr hcl hpn eA eB hm hW
        generalize hPA : ps.getD X default = PA at *
        generalize hPB : ps.getD Y default = PB at *
        have HPA := Lib.hid hPA
        have HPB := Lib.hid hPB
        clear hPA hPB
        go_enter Tryz.func38, Tryz.ntmps38
        go_wp2_with (first
          | (go_at_call 71; (with_reducible refine (hT _ hbx).mono ?_); rintro e w1 ⟨rfl, hb1⟩; obtain ⟨hc1, hf1⟩ := bcell hb1; have hz1 := lt_size hb1 (b := w.heap.size) (by first | assumption | omega | (simp; done) | (simp; omega)); have hby := hbx.below hb1; have hly := hlx.below hb1)
          | (go_at_call 72; (with_reducible refine (hk _ hby).mono ?_); rintro e w2 ⟨rfl, hb2⟩; obtain ⟨hc2, hf2⟩ := bcell hb2; have hz2 := lt_size hb2 (b := w.heap.size) (by first | assumption | omega | (simp; done) | (simp; omega)); have hbz := hby.below hb2; have hlz := hly.below hb2)
          | (go_at_call 73; (with_reducible refine (hm2 _ hbz).mono ?_); rintro e w3 ⟨v, g, hg, rfl, hb3, hmx⟩
             rw [HPA.out, HPB.out] at hg
             have hgs := ascOf_len (PA.sh ++ PB.sh)
             have hgr := ascOf_len (PA.re ++ PB.re)
             rw [← hg.sh, List.length_append] at hgs
             rw [← hg.re, List.length_append] at hgr
             obtain ⟨va, vc, rfl, _, hpa⟩ := hmx.at_ (by omega) (by omega) (by omega) (fun p hp => (hbz.below hb3).ps.each p hp)
             have hL := r6witness va _ vc _ al l.length cl l w3 hpa (hlz.below hb3)
             rw [hpp g hg, HW.out] at hL
             clear hpa hmx hgs hgr)
          | (go_at_call 79; (with_reducible refine hL.mono ?_); rintro e w4 ⟨rfl, hb4⟩))
        all_goals
          clear hc1 hf1 hc2 hf2 hT hk hm2 hpp hz
          go_ret2
          refine ⟨ret2_bool ?_, by first | exact ((hB0.ch2 hb1).ch2 hb2).ch2 (hb3.ch2 hb4) | exact (hB0.ch2 hb1).ch2 hb2⟩
          rw [HR.out]
          clear HR HW HML
          first
            | grind
            | (trace_state; fail)
      · have eA : min X Y = Y := by omega
        have eB : max X Y = X := by omega
        have i1 : decide ((Y : Int) < X) = true := by simp; omega
        have i2 : decide ((X : Int) < Y) = false := by simp; omega
        have i3 : ¬ (X < Y) := by omega
        rw [eA, eB] at hr
        have hms := hoks.merS hlt (by rw [pns_len]; omega) (by rw [clB_comm]; exact hcl)
        have hm := fun w1 (h : CsAt w1 ⟨ware, lim, byr, a, cap, ps⟩) h1 h2 => r6mix a cap ps Y X w1 h.ps hlt (by omega) (by omega) h1 h2
        have hpA := ptB_small (heach _ (Pt.mem (show Y < ps.length by omega)))
        have hpB := ptB_small (heach _ (Pt.mem (show X < ps.length by omega)))
        have hm2 := fun w1 h => hm w1 h ⟨by omega, by omega⟩ ⟨by omega, by omega⟩
        have hpp : ∀ g, GluOf g (ps.getD Y default) (ps.getD X default) → pns (mixPt ps Y X g) = merS (pns ps) Y X := fun g hg => hpn Y X g hg (by show _ < ps.length; omega) (by show _ < ps.length; omega)
        have HML := Lib.hid (fun g => mixPt_len (a := Y) (g := g) (show X < ps.length by omega))
        obtain ⟨W, hW⟩ : ∃ W, witB (merS (pns ps) Y X) [] l = W := ⟨_, rfl⟩
        have HW := Lib.hid hW
        rw [hW] at hr
        have HR := Lib.hid hr
        clear hr hcl hpn eA eB hm hW
        generalize hPA : ps.getD Y default = PA at *
        generalize hPB : ps.getD X default = PB at *
        have HPA := Lib.hid hPA
        have HPB := Lib.hid hPB
        clear hPA hPB
        go_enter Tryz.func38, Tryz.ntmps38
        go_wp2_with (first
          | (go_at_call 71; (with_reducible refine (hT _ hbx).mono ?_); rintro e w1 ⟨rfl, hb1⟩; obtain ⟨hc1, hf1⟩ := bcell hb1; have hz1 := lt_size hb1 (b := w.heap.size) (by first | assumption | omega | (simp; done) | (simp; omega)); have hby := hbx.below hb1; have hly := hlx.below hb1)
          | (go_at_call 72; (with_reducible refine (hk _ hby).mono ?_); rintro e w2 ⟨rfl, hb2⟩; obtain ⟨hc2, hf2⟩ := bcell hb2; have hz2 := lt_size hb2 (b := w.heap.size) (by first | assumption | omega | (simp; done) | (simp; omega)); have hbz := hby.below hb2; have hlz := hly.below hb2)
          | (go_at_call 73; (with_reducible refine (hm2 _ hbz).mono ?_); rintro e w3 ⟨v, g, hg, rfl, hb3, hmx⟩
             rw [HPA.out, HPB.out] at hg
             have hgs := ascOf_len (PA.sh ++ PB.sh)
             have hgr := ascOf_len (PA.re ++ PB.re)
             rw [← hg.sh, List.length_append] at hgs
             rw [← hg.re, List.length_append] at hgr
             obtain ⟨va, vc, rfl, _, hpa⟩ := hmx.at_ (by omega) (by omega) (by omega) (fun p hp => (hbz.below hb3).ps.each p hp)
             have hL := r6witness va _ vc _ al l.length cl l w3 hpa (hlz.below hb3)
             rw [hpp g hg, HW.out] at hL
             clear hpa hmx hgs hgr)
          | (go_at_call 79; (with_reducible refine hL.mono ?_); rintro e w4 ⟨rfl, hb4⟩))
        all_goals
          clear hc1 hf1 hc2 hf2 hT hk hm2 hpp hz
          go_ret2
          refine ⟨ret2_bool ?_, by first | exact ((hB0.ch2 hb1).ch2 hb2).ch2 (hb3.ch2 hb4) | exact (hB0.ch2 hb1).ch2 hb2⟩
          rw [HR.out]
          clear HR HW HML
          first
            | grind
            | (trace_state; fail)
    · simp only [hcl, if_true] at hk hr
      have HR := Lib.hid hr
      clear hr hcl hpn
      go_enter Tryz.func38, Tryz.ntmps38
      go_wp2_with (first
        | (go_at_call 71; (with_reducible refine (hT _ hbx).mono ?_); rintro e w1 ⟨rfl, hb1⟩; obtain ⟨hc1, hf1⟩ := bcell hb1; have hz1 := lt_size hb1 (b := w.heap.size) (by first | assumption | omega | (simp; done) | (simp; omega)); have hby := hbx.below hb1; have hly := hlx.below hb1)
        | (go_at_call 72; (with_reducible refine (hk _ hby).mono ?_); rintro e w2 ⟨rfl, hb2⟩))
      clear hc1 hf1 hT hk hz
      go_ret2
      refine ⟨ret2_bool ?_, (hB0.ch2 hb1).ch2 hb2⟩
      rw [HR.out]
      clear HR
      rw [Bool.eq_iff_iff]
      simp only [beq_iff_eq, decide_eq_true_eq]
      omega
  · have h2 : (E != 0) = true := by simpa using h0
    have hd : decide (E = 0) = false := by simpa using h0
    rw [hd] at hr
    simp only [Bool.false_and] at hr
    subst hr
    obtain ⟨ware, lim, byr, a, cap, ps⟩ := c
    simp only [Cs.v] at *
    have hB0 := one_alloc w (Obj.cells #[.string ware, .int .i64 lim, .int .i64 byr, .slice a ps.length cap] 24)
    have hbx := hc.below hB0
    clear h0 hz hd
    go_enter Tryz.func38, Tryz.ntmps38
    go_wp2_with (go_at_call 71; refine (hT _ hbx).mono ?_; rintro e w1 ⟨rfl, hb1⟩)
    go_ret2
    exact ⟨rfl, hB0.ch2 hb1⟩
theorem comL_snoc (s : List Pn) (l : List Nat) (i : Nat) : comL s (l ++ [i]) = (max (comL s l).1 (s.getD i default).lo, min (comL s l).2 (s.getD i default).hi) := by simp [comL]
theorem natL_snoc {l : List Int} {k : Nat} (hk : k < l.length) : natL (l.take (k + 1)) = natL (l.take k) ++ [(l.getD k 0).toNat] := by
  unfold natL
  rw [List.take_succ_eq_append_getElem hk, List.map_append]
  simp [List.getD_eq_getElem?_getD, List.getElem?_eq_getElem hk]
theorem cell2w {W : World} {N : Nat} {u v : Value} {t : TypeId} (h : W.heap[N]? = some (.cells #[u, v] t (0, 0))) : W.cell? ⟨N, 0, none⟩ = some u ∧ W.cell? ⟨N, 1, none⟩ = some v ∧ (∀ i, W.frozen? ⟨N, i, none⟩ = false) ∧ N < W.heap.size := by
  have h0 := (SL.cells_of h).1 0
  have h1 := (SL.cells_of h).1 1
  exact ⟨by simpa using h0, by simpa using h1, (SL.cells_of h).2, (Array.getElem?_eq_some_iff.1 h).1⟩
/-- The parts of a vessel. -/
def ofV (v : List Int) (n k : Nat) : List Int := pickL (fun i => decide (v.getD i 0 = (n : Int))) k
/-- The colours of the vessels. -/
def colN (s : List Pn) (v : List Int) (n : Nat) : List (Int × Int) := (List.range n).map fun i => comL s (natL (ofV v i v.length))
def Cs.colE (c : Cs) (v : List Int) : Int := if c.chk = 0 then (if c.asg v then 0 else 1) else c.chk
def Cs.colL (c : Cs) (v : List Int) (m : Nat) : List (Int × Int) := if c.colE v = 0 then colN c.s v m else []
theorem rgO_len : ∀ {v : List Int} {m m' : Nat}, rgO v m = some m' → m' ≤ m + v.length
  | [], m, m', h => by simp [rgO] at h; subst h; simp
  | x :: v, m, m', h => by
    unfold rgO at h
    split at h
    · have := rgO_len h
      simp only [List.length_cons]
      split at this <;> omega
    · cases h
theorem Cs.asg_some {c : Cs} {v : List Int} (h : c.asg v = true) : c.chk = 0 ∧ ∃ m : Nat, asgM c.s v = some m ∧ vesL v = m ∧ m ≤ v.length ∧ v.length = c.ps.length ∧ (∀ x ∈ v, 0 ≤ x ∧ x < m) ∧ (c.lim = 0 ∨ (m : Int) ≤ c.lim) := by
  unfold Cs.asg at h
  simp only [Bool.and_eq_true, decide_eq_true_eq] at h
  obtain ⟨h1, h2⟩ := h
  refine ⟨h1, ?_⟩
  cases ha : asgM c.s v with
  | none => rw [ha] at h2; cases h2
  | some m =>
    rw [ha] at h2
    obtain ⟨a1, a2, a3⟩ := asgM_some ha
    have := rgO_len a3
    exact ⟨m, rfl, rgO_ves a3, by omega, by rw [a1]; exact pns_len _, (rgO_spec a3).2.1, by simpa using h2⟩
theorem rcs_one1 (r : Int × Int) : rcs [r] = [.int .i64 r.1, .int .i64 r.2] := by simp [rcs]
end Go.Proofs.YtodkbfbbpfghiaaGreat
