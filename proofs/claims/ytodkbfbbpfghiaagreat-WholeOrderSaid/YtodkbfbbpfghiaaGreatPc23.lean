/-
  Lemmas and walks for the laws on roads and boards: what each function of the program answers, for every input.
-/
import Derived.Test.YtodkbfbbpfghiaaGreatPc22
import Derived.Test.YtodkbfbbpfghiaaGreatPc21
import Derived.Test.YtodkbfbbpfghiaaGreatPc15
import Derived.Test.YtodkbfbbpfghiaaGreatPc07
set_option linter.unusedSimpArgs false
set_option linter.unusedVariables false
set_option linter.unnecessarySimpa false
namespace Go.Proofs.YtodkbfbbpfghiaaGreat
open Go.RowKit Go.Shelf Go.Lib
set_option maxHeartbeats 4000000
set_option maxRecDepth 100000
theorem glu_fby {p q : Pt} (hp : ptB p = true) (hq : ptB q = true) (hf : ¬ (p.ft = true ∧ q.ft = true)) : (if q.ft then q.fby else p.fby) = max p.fby q.fby := by
  have h1 := toldB_iff.1 (ptB_parts hp).2.2.2.2
  have h2 := toldB_iff.1 (ptB_parts hq).2.2.2.2
  cases a : p.ft <;> cases b : q.ft <;> simp only [a, b, Bool.not_true, Bool.not_false, true_implies, and_self, not_true, if_true, Bool.false_eq_true, if_false] at h1 h2 hf ⊢ <;> omega
/-- A part set anew, as its cells say it. -/
theorem pcs_put {ps : List Pt} {i : Nat} (h : i < ps.length) (g : Pt) : pcs (ps.set i g) =
    ((((((((pcs ps).set (i * 8) (.slice g.sa g.sh.length g.sc)).set (i * 8 + 1) (.int .i64 g.lo)).set (i * 8 + 2) (.int .i64 g.hi)).set (i * 8 + 3) (.int .i64 g.lob)).set (i * 8 + 4) (.int .i64 g.hib)).set (i * 8 + 5) (.bool g.ft)).set (i * 8 + 6) (.int .i64 g.fby)).set (i * 8 + 7) (.slice g.ra g.re.length g.rc) := by
  obtain ⟨X, p, Z, rfl, rfl⟩ : ∃ X p Z, ps = X ++ p :: Z ∧ i = X.length := ⟨ps.take i, ps[i], ps.drop (i + 1), by simp, by simp; omega⟩
  have e1 : (X ++ p :: Z).set X.length g = X ++ g :: Z := by simp [List.set_append]
  have e2 : pcs (X ++ p :: Z) = pcs X ++ (p.cs ++ pcs Z) := by rw [pcs_append]; rfl
  have e3 : pcs (X ++ g :: Z) = pcs X ++ (g.cs ++ pcs Z) := by rw [pcs_append]; rfl
  rw [e1, e2, e3]
  have hl := pcs_length X
  simp [List.set_append, hl, Pt.cs]
theorem row8 {w : World} {base : Nat} {t : TypeId} {n G cap A : Nat} {xs : List Value} (h : w.ownsRow base t 8 (.slice (some ⟨G, 0, none⟩) n cap) n xs) (hA : A < n) : ∃ u0 u1 u2 u3 u4 u5 u6 u7, w.cell? ⟨G, A * 8, none⟩ = some u0 ∧ w.cell? ⟨G, A * 8 + 1, none⟩ = some u1 ∧ w.cell? ⟨G, A * 8 + 2, none⟩ = some u2 ∧ w.cell? ⟨G, A * 8 + 3, none⟩ = some u3 ∧
    w.cell? ⟨G, A * 8 + 4, none⟩ = some u4 ∧ w.cell? ⟨G, A * 8 + 5, none⟩ = some u5 ∧ w.cell? ⟨G, A * 8 + 6, none⟩ = some u6 ∧ w.cell? ⟨G, A * 8 + 7, none⟩ = some u7 ∧ (∀ i, w.frozen? ⟨G, i, none⟩ = false) ∧ G < w.heap.size := by
  have hl := h.1
  have g : ∀ j, j < 8 → w.cell? ⟨G, A * 8 + j, none⟩ = some (xs.getD (A * 8 + j) undef) := fun j hj => by
    rw [h.cellAt (A * 8 + j) (by omega), List.getD_eq_getElem?_getD, List.getElem?_eq_getElem (by omega)]
    rfl
  exact ⟨_, _, _, _, _, _, _, _, g 0 (by omega), g 1 (by omega), g 2 (by omega), g 3 (by omega), g 4 (by omega), g 5 (by omega), g 6 (by omega), g 7 (by omega), fun i => h.frozenAt i, (SL.row_bounds h G (by simp [Value.ownBlock])).2⟩
theorem chg_at8 {E : List Nat} (w : World) {N o : Nat} (hE : N ∈ E) (b0 b1 b2 b3 b4 b5 b6 b7 : Value) : SL.Chg E w ((((((((w.setCell ⟨N, o, none⟩ b0).setCell ⟨N, o + 1, none⟩ b1).setCell ⟨N, o + 2, none⟩ b2).setCell ⟨N, o + 3, none⟩ b3).setCell ⟨N, o + 4, none⟩ b4).setCell ⟨N, o + 5, none⟩ b5).setCell ⟨N, o + 6, none⟩ b6).setCell ⟨N, o + 7, none⟩ b7) := ((((((((SL.Chg.setCell w hE b0).trans (SL.Chg.setCell _ hE b1)).trans (SL.Chg.setCell _ hE b2)).trans (SL.Chg.setCell _ hE b3)).trans (SL.Chg.setCell _ hE b4)).trans (SL.Chg.setCell _ hE b5)).trans (SL.Chg.setCell _ hE b6)).trans (SL.Chg.setCell _ hE b7))
theorem row_at8 {w : World} {base : Nat} {t : TypeId} {n G cap o : Nat} {xs : List Value} (h : w.ownsRow base t 8 (.slice (some ⟨G, 0, none⟩) n cap) n xs) (b0 b1 b2 b3 b4 b5 b6 b7 : Value) :
    ((((((((w.setCell ⟨G, o, none⟩ b0).setCell ⟨G, o + 1, none⟩ b1).setCell ⟨G, o + 2, none⟩ b2).setCell ⟨G, o + 3, none⟩ b3).setCell ⟨G, o + 4, none⟩ b4).setCell ⟨G, o + 5, none⟩ b5).setCell ⟨G, o + 6, none⟩ b6).setCell ⟨G, o + 7, none⟩ b7).ownsRow base t 8 (.slice (some ⟨G, 0, none⟩) n cap) n
      ((((((((xs.set o b0).set (o + 1) b1).set (o + 2) b2).set (o + 3) b3).set (o + 4) b4).set (o + 5) b5).set (o + 6) b6).set (o + 7) b7) :=
  ((((((((h.stored o b0).1.stored (o + 1) b1).1.stored (o + 2) b2).1.stored (o + 3) b3).1.stored (o + 4) b4).1.stored (o + 5) b5).1.stored (o + 6) b6).1.stored (o + 7) b7).1
theorem wMerge (c : Cs) (x y : Int) (w : World) (hc : CsAt w c) :
    Calls Tryz.prog 18 #[c.v, .int .i64 x, .int .i64 y] w (CaseRes w (c.mrgE x y) (c.mrg x.toNat y.toNat)) := by
  have hC := fun w1 (h : CsAt w1 c) => wpair c x y w1 h
  unfold PairPost at hC
  have hz := @Cs.two_nat c x y
  have hz2 := @Cs.two_zero c x y
  have hE : c.mrgE x y = if c.two x y = 0 then c.mergeE x.toNat y.toNat else c.two x y := rfl
  have hP := Lib.hid (show ∀ w' d, SameC d (resC (c.mrgE x y) (c.mrg x.toNat y.toNat)) → ∀ e, e = .returned (.tuple #[Cs.v d, .int .i64 (c.mrgE x y)]) → Below w.heap.size w w' → CsAt w' d → CaseRes w (c.mrgE x y) (c.mrg x.toNat y.toNat) e w' from fun w' x h1 e h2 h3 h4 => ⟨x, h1, h2, h3, h4⟩)
  have hR := Lib.hid (show (c.mrgE x y ≠ 0 → SameC Cs.zero (resC (c.mrgE x y) (c.mrg x.toNat y.toNat))) ∧ (c.mrgE x y = 0 → min x.toNat y.toNat < c.ps.length → ∀ qs, SamePs qs c.ps → ∀ g, GluOf g (c.ps.getD (min x.toNat y.toNat) default) (c.ps.getD (max x.toNat y.toNat) default) → ∀ a cap, SameC ⟨c.ware, c.lim, c.byr, a, cap, (qs.set (min x.toNat y.toNat) g).eraseIdx (max x.toNat y.toNat)⟩ (resC (c.mrgE x y) (c.mrg x.toNat y.toNat))) from by
    unfold resC
    refine ⟨fun h => by rw [if_neg h]; exact SameC.refl _, fun h hl qs hq g hg a cap => ?_⟩
    rw [if_pos h]
    obtain ⟨sa, sc, ra, rc, rfl⟩ := hg
    exact ((hq.set (min x.toNat y.toNat) (p := gluPt sa sc ra rc _ _) (q := gluPt none 0 none 0 _ _) ⟨rfl, rfl, rfl, rfl, rfl, rfl, rfl, rfl⟩ hl).erase _).case a cap none 0)
  generalize CaseRes w (c.mrgE x y) (c.mrg x.toNat y.toNat) = Post at *
  generalize resC (c.mrgE x y) (c.mrg x.toNat y.toNat) = RC at *
  generalize c.mrgE x y = ME at *
  generalize c.two x y = E at *
  by_cases h0 : E = 0
  · subst h0
    obtain ⟨X, Y, rfl, rfl, hAB, hBn, eA, eB⟩ := hz rfl
    have hok' := (hz2 rfl).1
    obtain ⟨hm, hok, hsl⟩ := hok'.many'
    unfold Cs.mergeE at hE
    simp only [Int.toNat_natCast, if_true] at hE hR
    rw [← clB_minmax] at hE
    rw [eA, eB] at hC
    clear hz hz2 eA eB
    have hR := hR.out
    obtain ⟨A, hA⟩ : ∃ A, min X Y = A := ⟨_, rfl⟩
    obtain ⟨B, hB⟩ : ∃ B, max X Y = B := ⟨_, rfl⟩
    simp only [hA, hB] at hR hE hC hAB hBn
    clear hA hB
    have hR := Lib.hid hR
    simp only [ne_eq, not_true, false_implies, true_and, true_implies] at hC
    have hCl := fun W N a ca f cf (h : TabAt W N c a ca f cf) => wclash a ca f cf c.ps.length c.s A B W h.sp (by omega) (by omega)
    unfold spV at hCl
    cases hT : clB c.s A B with
    | true =>
      rw [hT] at hE hCl
      simp only [if_true] at hE
      subst hE
      have HR := Lib.hid (hR.out.1 (by decide))
      clear hR hT hok hok' hsl hm
      obtain ⟨ware, lim, byr, a, cap, ps⟩ := c
      simp only [Cs.v] at *
      have hB0 : Below w.heap.size w ((w.alloc (Obj.cells #[.string ware, .int .i64 lim, .int .i64 byr, .slice a ps.length cap] 24)).alloc (Obj.cells #[.string ⟨#[]⟩, .int .i64 0, .int .i64 0, .slice none 0 0] 24)) := by ((repeat (first | assumption | exact Below.refl _ _ | refine Below.alloc ?_ ?_ _ | refine Below.setCell ?_ ?_ _ | refine Below.drew ?_ | refine belowN ?_ | refine Below.up ?_ (by assumption) ?_)) <;> (first | assumption | omega | (simp; done) | (simp; omega)))
      have hbx := hc.below hB0
      go_enter Tryz.func18, Tryz.ntmps18
      go_wp2_with (first
        | (go_at_call 67; (with_reducible refine (hC _ hbx).mono ?_); rintro e w1 ⟨N, a1, ca, f1, cf, rfl, hb1, hN, hT⟩; obtain ⟨t0, t1, t2, t3, t4, t5⟩ := hT.get; have hNl := hT.lt; obtain ⟨hc1, hf1⟩ := bcell hb1; have hz1 := lt_size hb1 (b := w.heap.size) (by first | assumption | omega | (simp; done) | (simp; omega)); have hz2 := lt_size hb1 (b := w.heap.size + 1) (by first | assumption | omega | (simp; done) | (simp; omega)))
        | (go_at_call 68; (with_reducible refine (hCl _ _ _ _ _ _ hT).mono ?_); rintro e w2 ⟨rfl, hb2⟩; obtain ⟨s0, s1, s2, s3, s4, s5⟩ := (hT.below hb2).get; obtain ⟨hc2, hf2⟩ := bcell hb2; have hz3 := lt_size hb2 (b := w.heap.size) (by first | assumption | omega | (simp; done) | (simp; omega)); have hz4 := lt_size hb2 (b := w.heap.size + 1) (by first | assumption | omega | (simp; done) | (simp; omega))))
      have hBE := (hB0.ch2 hb1).ch2 hb2
      refine bodyPost_ret (v := .tuple #[.agg #[.string ⟨#[]⟩, .int .i64 0, .int .i64 0, .slice none 0 0], .int .i64 60]) (by simp [results, Tryz.results18, go_sem, *]; try rfl) rfl (hP.out _ Cs.zero HR.out _ rfl ?_ (Cs.zero_at _))
      (repeat (first | (with_reducible exact hBE) | ((with_reducible refine Below.setCell ?_ ?_ _); rotate_left; focus (first | omega | (simp; done) | (simp; omega))) | ((with_reducible refine Below.alloc ?_ ?_ _); rotate_left; focus (first | omega | (simp; done) | (simp; omega)))))
    | false =>
      rw [hT] at hE hCl
      simp only [Bool.false_eq_true, if_false] at hE
      have hpA := hok'.each _ (Pt.mem (show A < c.ps.length by omega))
      have hpB := hok'.each _ (Pt.mem hBn)
      obtain ⟨sA1, sA2, _, _⟩ := ptB_small hpA
      obtain ⟨sB1, sB2, _, _⟩ := ptB_small hpB
      have hnf : ¬ ((c.ps.getD A default).ft = true ∧ (c.ps.getD B default).ft = true) := fun h => by
        have h2 := (clB_no (show A ≠ B by omega) hT).1
        unfold Cs.s at h2
        rw [pns_get _ (by omega), pns_get _ hBn] at h2
        exact h2 h.1 h.2
      have hfb := glu_fby hpA hpB hnf
      have hGl : ∀ W, PtAt W (c.ps.getD A default) → PtAt W (c.ps.getD B default) → Calls Tryz.prog 69 #[(c.ps.getD A default).v, (c.ps.getD B default).v] W (MergedPost2 W (c.ps.getD A default) (c.ps.getD B default)) := fun W h1 h2 =>
        (wglued _ _ W h1 h2 ⟨by omega, by omega⟩ ⟨by omega, by omega⟩ hfb).mono (by rintro e w' ⟨sa, sc, ra, rc, rfl, hb, ho⟩; exact ⟨_, ⟨sa, sc, ra, rc, rfl⟩, rfl, hb, ho⟩)
      have hgA := hc.ps.get (show A < c.ps.length by omega)
      have hgB := hc.ps.get hBn
      have hpt := fun W (h : CsAt W c) => (⟨h.ps.each _ (Pt.mem (show A < c.ps.length by omega)), h.ps.each _ (Pt.mem hBn)⟩ : PtAt W (c.ps.getD A default) ∧ PtAt W (c.ps.getD B default))
      have hsz := hok'.sizes.2
      have hCo := fun w1 (h : CsAt w1 c) => wcopied c w1 h (by omega) (fun p hp => by have := hsz p hp; omega)
      have hV : ∀ d : Cs, SameC d c → d.ware = c.ware ∧ d.lim = c.lim ∧ d.byr = c.byr := fun d h => ⟨h.ware, h.lim, h.byr⟩
      have hshL := fun g (h : GluOf g (c.ps.getD A default) (c.ps.getD B default)) => h.sh
      have hreL := fun g (h : GluOf g (c.ps.getD A default) (c.ps.getD B default)) => h.re
      generalize c.ps.getD A default = PA at *
      generalize c.ps.getD B default = PB at *
      have hslen := ascOf_len (PA.sh ++ PB.sh)
      have hrlen := ascOf_len (PA.re ++ PB.re)
      rw [List.length_append] at hslen hrlen
      generalize ascOf (PA.sh ++ PB.sh) = SH at *
      generalize ascOf (PA.re ++ PB.re) = RE at *
      have HshL := Lib.hid hshL
      have HreL := Lib.hid hreL
      have Hpt := Lib.hid hpt
      have hSH : SH.length ≤ 1000 := by omega
      have hRE : RE.length ≤ 1000 := by omega
      unfold MergedPost2 at hGl
      unfold CopiedPost at hCo
      clear hok hok' hT hsl hpA hpB hnf hfb hsz hslen hrlen hpt hshL hreL sA1 sA2 sB1 sB2
      obtain ⟨ware, lim, byr, a, cap, ps⟩ := c
      simp only [Cs.v] at *
      obtain ⟨b1, o1, rfl, bl1, d0, d1, d2, d3, d4, d5, d6, d7⟩ := hgA
      obtain ⟨b2, o2, eb, _, g0, g1, g2, g3, g4, g5, g6, g7⟩ := hgB
      simp only [Option.some.injEq, Addr.mk.injEq, and_true] at eb
      obtain ⟨rfl, rfl⟩ := eb
      have hB0 : Below w.heap.size w ((w.alloc (Obj.cells #[.string ware, .int .i64 lim, .int .i64 byr, .slice (some ⟨b1, o1, none⟩) ps.length cap] 24)).alloc (Obj.cells #[.string ⟨#[]⟩, .int .i64 0, .int .i64 0, .slice none 0 0] 24)) := by ((repeat (first | assumption | exact Below.refl _ _ | refine Below.alloc ?_ ?_ _ | refine Below.setCell ?_ ?_ _ | refine Below.drew ?_ | refine belowN ?_ | refine Below.up ?_ (by assumption) ?_)) <;> (first | assumption | omega | (simp; done) | (simp; omega)))
      have hbx := hc.below hB0
      have i1 : (A : Int) < (ps.length : Int) := by omega
      have i2 : (B : Int) < (ps.length : Int) := by omega
      have i3 : (0 : Int) ≤ A := by omega
      have i4 : (0 : Int) ≤ B := by omega
      go_enter Tryz.func18, Tryz.ntmps18
      go_wp2_with (first
        | (go_at_call 67; (with_reducible refine (hC _ hbx).mono ?_); rintro e w1 ⟨N, a1, ca, f1, cf, rfl, hb1, hN, hT⟩; obtain ⟨t0, t1, t2, t3, t4, t5⟩ := hT.get; have hNl := hT.lt; obtain ⟨hc1, hf1⟩ := bcell hb1; have hz1 := lt_size hb1 (b := w.heap.size) (by first | assumption | omega | (simp; done) | (simp; omega)); have hz2 := lt_size hb1 (b := w.heap.size + 1) (by first | assumption | omega | (simp; done) | (simp; omega)))
        | (go_at_call 68; (with_reducible refine (hCl _ _ _ _ _ _ hT).mono ?_); rintro e w2 ⟨rfl, hb2⟩; obtain ⟨s0, s1, s2, s3, s4, s5⟩ := (hT.below hb2).get; obtain ⟨hc2, hf2⟩ := bcell hb2; have hz3 := lt_size hb2 (b := w.heap.size) (by first | assumption | omega | (simp; done) | (simp; omega)); have hz4 := lt_size hb2 (b := w.heap.size + 1) (by first | assumption | omega | (simp; done) | (simp; omega))))
      have hBW : Below w.heap.size w w2 := (hB0.ch2 hb1).ch2 hb2
      have hb12 := hBW
      have hc3 := hbx.below hb1 |>.below hb2
      have k3 : w2.cell? ⟨w.heap.size, 3, none⟩ = some (.slice (some ⟨b1, o1, none⟩) ps.length cap) := by simp [go_sem, *]
      have hres2 : w2.heap[w.heap.size + 1]? = some (.cells #[.string ⟨#[]⟩, .int .i64 0, .int .i64 0, .slice none 0 0] 24 (0, 0)) := by
        rw [hb2.block _ hz2, hb1.block _ (by simp)]
        exact heap_alloc2_new w _ _
      have hcs2 : w2.heap[w.heap.size]? = some (.cells #[.string ware, .int .i64 lim, .int .i64 byr, .slice (some ⟨b1, o1, none⟩) ps.length cap] 24 (0, 0)) := by
        rw [hb2.block _ hz1, hb1.block _ (by simp; omega), heap_allocC _ _ (by simp)]
        exact World.alloc_heap_new w _
      clear t0 t1 t2 t3 t4 t5 s0 s1 s2 s3 s4 s5 hc1 hf1 hc2 hf2 hz1 hz2 hb1 hb2 hT hC hCl hB0 hbx hNl hb12
      apply SLG.rule0 ?hm1 [] [33, 34, 35, 36, 37, 38, 39, 40, 41, 42, 43, 10] [SLF.pq 33 [] _, SLF.pq 34 [0] _, SLF.pq 35 [] _, SLF.pq 36 [1, 2] _, SLF.pq 37 [3] _, SLF.pq 38 [] _, SLF.pq 39 [5] _, SLF.pq 40 [] _, SLF.pq 41 [6, 7] _, SLF.pq 42 [8] _, SL.aw 43 [4, 9] [] (fun x => .ex fun g : Pt => .sep (.pure (x = .agg #[.slice g.sa g.sh.length g.sc, .int .i64 g.lo, .int .i64 g.hi, .int .i64 g.lob, .int .i64 g.hib, .bool g.ft, .int .i64 g.fby, .slice g.ra g.re.length g.rc] ∧ GluOf g PA PB)) (.own w2.heap.size g)), SL.aw 10 [] [] (fun x => .ex fun N : Nat => .sep (.pure (x = .pointer (some ⟨N, 0, none⟩))) (.blk w2.heap.size N 49 #[.slice none 0 0, .int .i64 0, .int .i64 0, .int .i64 0, .int .i64 0, .bool false, .int .i64 0, .slice none 0 0])), SL.aw 10 [10, 11] [10, 11] (fun x => .ex fun g : Pt => .ex fun N : Nat => .sep (.pure (x = .pointer (some ⟨N, 0, none⟩) ∧ GluOf g PA PB)) (.sep (.blk w2.heap.size N 49 #[.slice g.sa g.sh.length g.sc, .int .i64 g.lo, .int .i64 g.hi, .int .i64 g.lob, .int .i64 g.hib, .bool g.ft, .int .i64 g.fby, .slice g.ra g.re.length g.rc]) (.own w2.heap.size g)))] [12] ?hck1 ?hkp1 (fun _ => []) ?hin1 ?hdj1 ?hfr1 ?ob1 ?en1
      case hm1 => kernel_rfl
      case hin1 => exact SL.none_held rfl
      case hdj1 => simp
      case hfr1 => intro us; simp only [SL.frame, SL.put']; simp; exact rfl
      case ob1 =>
        refine ⟨?_, ?_, ?_, ?_, ?_, ?_, ?_, ?_, ?_, ?_, ?_, ?_, ?_, trivial⟩
        all_goals first
          | (intro us w' Fe hG hu hd hv Kx hK
             try dsimp only
             simp [SL.Used, SL.pu, SL.row, SL.box, SL.rowIn, SL.boxIn, SL.boxAt, SL.boxAtIn, SLF.pq, Act.put, SL.aw_sub, SL.aw_use, SL.aw_eat, SL.aw_V, SL.aw_quiet] at hu hK
             have hB5 : Below w.heap.size w w' := hBW.ch2 hG.below'
             obtain ⟨hc5, hf5⟩ := bcell hB5
             have hs5 := hB5.size
             obtain ⟨hc6, hf6⟩ := bcell hG.below'
             clear hv
             refine SLF.wpo_do (SLF.wanted_free rfl) ?hd1 ?_
             case hd1 => intro c h; cases h
             clear hd
             first
               | (go_step; exact hK _ _ _ (SL.Chg.refl _ _) (by first | exact rfl | (simp only [hu]; exact rfl)) rfl (by simp) rfl)
               | exact hK _ _ _ (SL.Chg.refl _ _) rfl rfl (by simp) rfl)
          | skip
        · refine SLG.ob_sp rfl rfl rfl fun us w' Fe hG hu hd Kx hK => ?_
          try dsimp only
          simp [SL.Used, SL.pu, SL.row, SL.box, SL.rowIn, SL.boxIn, SL.boxAt, SL.boxAtIn, SLF.pq, Act.put, SL.aw_sub, SL.aw_use, SL.aw_eat, SL.aw_V, SL.aw_quiet] at hu
          have hB5 : Below w.heap.size w w' := hBW.ch2 hG.below'
          obtain ⟨hc5, hf5⟩ := bcell hB5
          have hs5 := hB5.size
          obtain ⟨hc6, hf6⟩ := bcell hG.below'
          refine SLF.wpo_do (SLF.wanted_free rfl) ?hd1 ?_
          case hd1 => intro c h; cases h
          have hpp := Hpt.out _ (hc3.below hG.below')
          have hs6 : w2.heap.size ≤ w'.heap.size := hG.size
          go_step
          refine (hGl _ hpp.1 hpp.2).mono ?_
          rintro e w6 ⟨g, hg, rfl, hb6, ho6⟩
          refine hK _ _ w6 _ (by simp [Act.put, Pt.v]; done) (.of_below hb6) (SL.aw_in ⟨g, _, _, ⟨⟨rfl, hg⟩, rfl⟩, ⟨ho6.base hs6, rfl⟩, rfl⟩) (fun j hj => .inr ?_)
          exact ho6.bounds j (by simpa using hj)
        · refine SLG.ob_sp rfl rfl rfl fun us w' Fe hG hu hd Kx hK => ?_
          try dsimp only
          simp [SL.Used, SL.pu, SL.row, SL.box, SL.rowIn, SL.boxIn, SL.boxAt, SL.boxAtIn, SLF.pq, Act.put, SL.aw_sub, SL.aw_use, SL.aw_eat, SL.aw_V, SL.aw_quiet] at hu
          have hB5 : Below w.heap.size w w' := hBW.ch2 hG.below'
          obtain ⟨hc5, hf5⟩ := bcell hB5
          have hs5 := hB5.size
          obtain ⟨hc6, hf6⟩ := bcell hG.below'
          refine SLF.wpo_do (SLF.wanted_free rfl) ?hd1 ?_
          case hd1 => intro c h; cases h
          have hs6 : w2.heap.size ≤ w'.heap.size := hG.size
          go_step
          exact hK _ _ _ _ (by simp [Act.put]; done) (.alloc _ _ _) (SL.aw_in ⟨w'.heap.size, _, _, ⟨rfl, rfl⟩, ⟨hs6, World.alloc_heap_new _ _, rfl⟩, rfl⟩) (fun j hj => .inr (by simp at hj; subst hj; simp))
        · refine SLG.ob_no rfl rfl rfl fun us w' Fe hG hu hd Kx hK => ?_
          try dsimp only
          simp [SL.Used, SL.pu, SL.row, SL.box, SL.rowIn, SL.boxIn, SL.boxAt, SL.boxAtIn, SLF.pq, Act.put, SL.aw_sub, SL.aw_use, SL.aw_eat, SL.aw_V, SL.aw_quiet] at hu
          have hB5 : Below w.heap.size w w' := hBW.ch2 hG.below'
          obtain ⟨hc5, hf5⟩ := bcell hB5
          have hs5 := hB5.size
          obtain ⟨hc6, hf6⟩ := bcell hG.below'
          refine SLF.wpo_do (SLF.wanted_free rfl) ?hd1 ?_
          case hd1 => intro c h; cases h
          obtain ⟨h10, h11⟩ := hu
          obtain ⟨g, F1, F2, ⟨⟨hx, hg⟩, rfl⟩, ⟨hog, rfl⟩, hF⟩ := SL.aw_out h10
          obtain ⟨N, F3, F4, ⟨hx2, rfl⟩, ⟨hN, hbl, rfl⟩, hF2⟩ := SL.aw_out h11
          have hd1 := hd 10 11 (by simp [SL.aw_use]) (by simp [SL.aw_use]) (by simp)
          rw [hF, hF2] at hd1
          have n1 : N ∉ g.blocks := fun h => hd1 N (by simpa using h) (by simp)
          have hgb := hog.bounds
          obtain ⟨y0, y1, y2, y3, y4, y5, y6, y7, yf, yl⟩ := cell8w hbl
          go_step
          refine hK _ _ (SLG.chg_set8 _ (by simp [SL.aw_eat, hF2]) ..) (SL.aw_in ⟨g, N, _, _, ⟨⟨hx2, hg⟩, rfl⟩, ⟨_, _, ⟨hN, SLG.heap_set8 hbl .., rfl⟩, ⟨hog.stab (fun k hk => (SLG.chg_set8 (E := [N]) w' (by simp) ..).block k (hgb k hk).2 (fun h => n1 (by simp at h; exact h ▸ hk))), rfl⟩, rfl⟩, rfl⟩) ?_
          intro j hj
          left
          simp [SL.aw_eat, hF, hF2] at hj ⊢
          grind
      case hck1 => kernel_rfl
      case hkp1 => kernel_rfl
      intro us w5 Fs hG hu hbd hd
      simp [SL.Used, SL.aw_sub] at hu
      obtain ⟨g, P, F1, F2, ⟨⟨e10, hg⟩, rfl⟩, ⟨F3, F4, ⟨hN, hbl, rfl⟩, ⟨hog, rfl⟩, rfl⟩, _⟩ := SL.aw_out hu
      have hB25 : Below w2.heap.size w2 w5 := hG.below'
      have hB5 : Below w.heap.size w w5 := hBW.ch2 hB25
      have hz2w := hBW.size
      have hzr : w.heap.size + 1 < w2.heap.size := (Array.getElem?_eq_some_iff.1 hres2).1
      have hres5 := (hB25.block _ hzr).trans hres2
      have hcs5 := (hB25.block _ (by omega)).trans hcs2
      have hc5 := hc3.below hB25
      have hgs : g.sh.length = SH.length := by rw [HshL.out g hg]
      have hgr : g.re.length = RE.length := by rw [HreL.out g hg]
      obtain ⟨y0, y1, y2, y3, y4, y5, y6, y7, yf, yl⟩ := cell8w hbl
      obtain ⟨z0, z1, z2, z3, zf, zl⟩ := cell4w hres5
      obtain ⟨v0, v1, v2, v3, vf, vl⟩ := cell4w hcs5
      rw [hgs] at y0
      rw [hgr] at y7
      have Hgs := Lib.hid hgs
      have Hgr := Lib.hid hgr
      have Hog := Lib.hid hog
      have Hbl := Lib.hid hbl
      have Hg := Lib.hid hg
      clear hu hbd hd hG hGl d0 d1 d2 d3 d4 d5 d6 d7 g0 g1 g2 g3 g4 g5 g6 g7 k3 hgs hgr hog hbl hg hc3 hcs2 hres2
      by_cases h40 : 40 < SH.length
      · have u1 : decide ((40 : Int) < (SH.length : Int)) = true := by simp; omega
        rw [if_pos (.inl h40)] at hE
        subst hE
        have HR := Lib.hid (hR.out.1 (by decide))
        clear hR h40
        have hBE := hB5
        go_wp2_with fail
        refine bodyPost_ret (v := .tuple #[.agg #[.string ⟨#[]⟩, .int .i64 0, .int .i64 0, .slice none 0 0], .int .i64 2]) (by simp [results, Tryz.results18, go_sem, *]; try rfl) rfl (hP.out _ Cs.zero HR.out _ rfl ?_ (Cs.zero_at _))
        (repeat (first | (with_reducible exact hBE) | ((with_reducible refine Below.setCell ?_ ?_ _); rotate_left; focus (first | omega | (simp; done) | (simp; omega))) | ((with_reducible refine Below.alloc ?_ ?_ _); rotate_left; focus (first | omega | (simp; done) | (simp; omega)))))
      have u1 : decide ((40 : Int) < (SH.length : Int)) = false := by simp; omega
      by_cases h200 : 200 < RE.length
      · have u2 : decide ((200 : Int) < (RE.length : Int)) = true := by simp; omega
        rw [if_pos (.inr h200)] at hE
        subst hE
        have HR := Lib.hid (hR.out.1 (by decide))
        clear hR h40 h200
        have hBE := hB5
        go_wp2_with fail
        refine bodyPost_ret (v := .tuple #[.agg #[.string ⟨#[]⟩, .int .i64 0, .int .i64 0, .slice none 0 0], .int .i64 2]) (by simp [results, Tryz.results18, go_sem, *]; try rfl) rfl (hP.out _ Cs.zero HR.out _ rfl ?_ (Cs.zero_at _))
        (repeat (first | (with_reducible exact hBE) | ((with_reducible refine Below.setCell ?_ ?_ _); rotate_left; focus (first | omega | (simp; done) | (simp; omega))) | ((with_reducible refine Below.alloc ?_ ?_ _); rotate_left; focus (first | omega | (simp; done) | (simp; omega)))))
      have u2 : decide ((200 : Int) < (RE.length : Int)) = false := by simp; omega
      rw [if_neg (by omega)] at hE
      subst hE
      go_wp2_with (go_at_call 70; (with_reducible refine (hCo _ hc5).mono ?_); rintro e w6 ⟨⟨dw, dl, db, da, dc, dps⟩, rfl, hb6, hca⟩; obtain ⟨e1, e2, e3⟩ := hV _ hca.same; simp only at e1 e2 e3; subst dw dl db; simp only [Cs.v]; obtain ⟨hc6, hf6⟩ := bcell hb6; have hz7 := lt_size hb6 (b := P) yl; have hn : dps.length = ps.length := hca.same.len; have hro := hca.row; simp only at hro; obtain ⟨G, rfl, hG1, hG2, hcap⟩ := owns_some hro (by omega); obtain ⟨k0', k1', k2', k3', k4', k5', k6', k7', k0, k1, k2, k3, k4, k5, k6, k7, kf, kl⟩ := row8 (A := A) hro (by omega); (have i5 : (A : Int) < (dps.length : Int) := by omega); have Hn := Lib.hid hn; have Hro := Lib.hid hro; clear hn hro)
      obtain ⟨w3, hw3⟩ : ∃ w3, w3 = ((((((((w6.setCell ⟨G, A * 8, none⟩ (.slice g.sa SH.length g.sc)).setCell ⟨G, A * 8 + 1, none⟩ (.int .i64 g.lo)).setCell ⟨G, A * 8 + 2, none⟩ (.int .i64 g.hi)).setCell ⟨G, A * 8 + 3, none⟩ (.int .i64 g.lob)).setCell ⟨G, A * 8 + 4, none⟩ (.int .i64 g.hib)).setCell ⟨G, A * 8 + 5, none⟩ (.bool g.ft)).setCell ⟨G, A * 8 + 6, none⟩ (.int .i64 g.fby)).setCell ⟨G, A * 8 + 7, none⟩ (.slice g.ra RE.length g.rc)).alloc (Obj.cells #[.string ware, .int .i64 lim, .int .i64 byr, .slice (some ⟨G, 0, none⟩) dps.length dc] 24) := ⟨_, rfl⟩
      rw [← hw3]
      have hc63 : SL.Chg [G] w6 w3 := by rw [hw3]; exact (chg_at8 w6 (by simp) ..).trans (.alloc _ _ _)
      have hz3 : w3.heap.size = w6.heap.size + 1 := by rw [hw3]; simp
      have hB6 : Below w.heap.size w w6 := hB5.ch2 hb6
      have hzw5 := hB5.size
      have hzw6 := hb6.size
      have hB3 : Below w.heap.size w w3 := hB6.trans (hc63.belowW hB6.size (by simp; omega))
      have hbox : w3.heap[w6.heap.size]? = some (.cells #[.string ware, .int .i64 lim, .int .i64 byr, .slice (some ⟨G, 0, none⟩) dps.length dc] 24 (0, 0)) := by
        rw [hw3]
        have := World.alloc_heap_new ((((((((w6.setCell ⟨G, A * 8, none⟩ (.slice g.sa SH.length g.sc)).setCell ⟨G, A * 8 + 1, none⟩ (.int .i64 g.lo)).setCell ⟨G, A * 8 + 2, none⟩ (.int .i64 g.hi)).setCell ⟨G, A * 8 + 3, none⟩ (.int .i64 g.lob)).setCell ⟨G, A * 8 + 4, none⟩ (.int .i64 g.hib)).setCell ⟨G, A * 8 + 5, none⟩ (.bool g.ft)).setCell ⟨G, A * 8 + 6, none⟩ (.int .i64 g.fby)).setCell ⟨G, A * 8 + 7, none⟩ (.slice g.ra RE.length g.rc)) (Obj.cells #[.string ware, .int .i64 lim, .int .i64 byr, .slice (some ⟨G, 0, none⟩) dps.length dc] 24)
        simpa using this
      have hrow3 : w3.ownsRow w5.heap.size 49 8 (.slice (some ⟨G, 0, none⟩) dps.length dc) dps.length (pcs (dps.set A g)) := by
        rw [hw3, pcs_put (by have := Hn.out; omega) g, Hgs.out, Hgr.out]
        exact (row_at8 Hro.out ..).up (one_alloc _ _) (Nat.le_refl _)
      have hres : w3.heap[w.heap.size + 1]? = some (.cells #[.string ⟨#[]⟩, .int .i64 0, .int .i64 0, .slice none 0 0] 24 (0, 0)) :=
        (hc63.block _ (by omega) (by simp; omega)).trans ((hb6.block _ (by omega)).trans hres5)
      have hm40 : ps.length ≤ 40 := by have h : (pns ps).length ≤ 40 := hm; rw [pns_len] at h; exact h
      have hsame : SamePs dps ps := hca.same.ps
      have hgP : PtAt w6 g := (Hog.out.at_ (by rw [Hgs.out]; omega) (by rw [Hgr.out]; omega)).below hb6
      have hgb : (∀ x, g.sa = some x → w2.heap.size ≤ x.block ∧ x.block < w5.heap.size) ∧ ∀ x, g.ra = some x → w2.heap.size ≤ x.block ∧ x.block < w5.heap.size :=
        ⟨fun x hx => Hog.out.bounds x.block (by simp [Pt.blocks, hx, Value.ownBlock]), fun x hx => Hog.out.bounds x.block (by simp [Pt.blocks, hx, Value.ownBlock])⟩
      have hFin : ∀ a' c' w5' W, RowAt W a' c' (pcs (((dps.set A g)).take B) ++ pcs ((dps.set A g).drop (B + 1))) → SL.Chg [w6.heap.size, G] w3 w5' → SL.Chg [w.heap.size + 1] w5' W → SameC ⟨ware, lim, byr, a', c', (dps.set A g).eraseIdx B⟩ RC ∧ CsAt W ⟨ware, lim, byr, a', c', (dps.set A g).eraseIdx B⟩ := fun a' c' w5' W hr h1 h2 => by
        rw [← pcs_append, ← List.eraseIdx_eq_take_drop_succ] at hr
        have hle : ((dps.set A g).eraseIdx B).length ≤ dps.length := by rw [List.length_eraseIdx, List.length_set]; split <;> omega
        have key : ∀ q, PtAt w6 q → (∀ x, q.sa = some x → q.sh ≠ [] → x.block ≠ G ∧ x.block < w6.heap.size ∧ x.block ≠ w.heap.size + 1) → (∀ x, q.ra = some x → q.re ≠ [] → x.block ≠ G ∧ x.block < w6.heap.size ∧ x.block ≠ w.heap.size + 1) → PtAt W q := fun q hq k1 k2 =>
          ((hq.chg hc63 (fun z hz hn hm => (k1 z hz hn).1 (by simpa using hm)) (fun z hz hn hm => (k2 z hz hn).1 (by simpa using hm))).chg h1
            (fun z hz hn hm => by have := k1 z hz hn; simp at hm; omega) (fun z hz hn hm => by have := k2 z hz hn; simp at hm; omega)).chg h2 (fun z hz hn hm => (k1 z hz hn).2.2 (by simpa using hm)) (fun z hz hn hm => (k2 z hz hn).2.2 (by simpa using hm))
        refine ⟨hR.out.2 (by trivial) (by show A < ps.length; omega) dps hsame g Hg.out a' c', hc.ware, rfl, by have := Hn.out; show ((dps.set A g).eraseIdx B).length ≤ _; omega, hr, fun q hq => ?_⟩
        rcases List.mem_or_eq_of_mem_set (List.mem_of_mem_eraseIdx hq) with hq | rfl
        · have hqa := hca.at_.ps.each q hq
          have hqo := hca.off q hq
          have hqn := hca.nw q hq
          refine key q hqa (fun z hz hn => ?_) (fun z hz hn => ?_)
          · have m1 := hqa.blocks.1 z hz hn
            have m2 := hqo.1 z hz hn
            have m3 := hqn.1 z hz hn
            simp [Value.ownBlock] at m2
            omega
          · have m1 := hqa.blocks.2 z hz hn
            have m2 := hqo.2 z hz hn
            have m3 := hqn.2 z hz hn
            simp [Value.ownBlock] at m2
            omega
        · refine key _ hgP (fun z hz _ => ?_) (fun z hz _ => ?_)
          · have m1 := hgb.1 z hz
            omega
          · have m1 := hgb.2 z hz
            omega
      have hdl : (dps.set A g).length = ps.length := by rw [List.length_set]; exact Hn.out
      have hn := Hn.out
      rw [hn] at hbox hrow3 hcap ⊢
      generalize hDP : dps.set A g = DP at *
      have hlen0 : (DP.eraseIdx B).length = ps.length - 1 := by rw [List.length_eraseIdx, if_pos (by omega), hdl]
      obtain ⟨L, hL⟩ : ∃ L, pcs DP = L := ⟨_, rfl⟩
      obtain ⟨T1, hT1⟩ : ∃ T1, pcs (DP.take B) = T1 := ⟨_, rfl⟩
      obtain ⟨T2, hT2⟩ : ∃ T2, pcs (DP.drop (B + 1)) = T2 := ⟨_, rfl⟩
      have Hl1 := Lib.hid (show T1.length = B * 8 by rw [← hT1, pcs_length, List.length_take]; congr 1; omega)
      have Hl2 := Lib.hid (show T2.length = (ps.length - (B + 1)) * 8 by rw [← hT2, pcs_length, List.length_drop, hdl])
      have hr1 : ∀ W c', RowAt W (some ⟨G, 0, none⟩) dc L → RowAt W (some ⟨G, 0, none⟩) c' T1 := fun W c' h => by
        rw [← hL] at h
        have := rowTake h (B * 8) c' (fun h => by cases h)
        rwa [pcs_take (by omega), hT1] at this
      have hr2 : ∀ W o2 c', (o2 = (B + 1) * 8 ∨ ps.length = B + 1) → RowAt W (some ⟨G, 0, none⟩) dc L → RowAt W (some ⟨G, o2, none⟩) c' T2 := fun W o2 c' ho h => by
        rw [← hL] at h
        have := rowDrop (a2 := some ⟨G, o2, none⟩) (c2 := c') h ((B + 1) * 8) (by
          rcases ho with ho | ho
          · left; rw [ho, Nat.zero_add]
          · right; exact ⟨by rw [pcs_length, hdl, ho]; exact Nat.le_refl _, o2, rfl⟩)
        rwa [pcs_drop (by omega), hT2] at this
      rw [hL] at hrow3
      rw [hT1, hT2] at hFin
      have HFin := Lib.hid hFin
      have HLen0 := Lib.hid hlen0
      have HR2 := Lib.hid hr2
      generalize hRB : w5.heap.size = RB at *
      have hGlt : G < w6.heap.size := hG2
      have hBW := hB3
      have hzw2 := hBW.size
      obtain ⟨n, hnn⟩ : ∃ n, ps.length = n := ⟨_, rfl⟩
      obtain ⟨BX, hBX⟩ : ∃ BX, w6.heap.size = BX := ⟨_, rfl⟩
      rw [hBX] at hbox hGlt hz3 hzw6 HFin ⊢
      have hApart : ([[BX], [G]] : List (List Nat)).Pairwise fun L M => ∀ k ∈ L, k ∉ M := by
        simp only [List.pairwise_cons, List.mem_cons, List.not_mem_nil, or_false, forall_eq, List.Pairwise.nil, and_true, false_implies, implies_true]
        omega
      have x1 : (B : Int) ≤ (dc : Int) := by omega
      have x2 : (B : Int) ≤ (n : Int) := by omega
      have x4 : IntKind.i64.wrap ((B : Int) + 1) = (B : Int) + 1 := IntWalk.i64_in _ (by omega)
      have x5 : (B : Int) + 1 ≤ (n : Int) := by omega
      have x6 : (0 : Int) ≤ (B : Int) + 1 := by omega
      have x7 : ((B : Int) + 1).toNat = B + 1 := by omega
      have x8 : (B : Int) + 1 ≤ (dc : Int) := by omega
      have x9 : (n : Int) ≤ (dc : Int) := by omega
      have hGr : w.heap.size + 1 ≠ G ∧ w.heap.size + 1 ≠ BX := by omega
      have hl1' := hm40
      rw [hnn] at hbox hrow3 hcap hm40 hr2 HR2 Hl2 HLen0 hBn hn ⊢
      clear hca hFin hr2 hlen0 hL hT1 hT2 hDP hdl hsame hgP hgb hc63 hw3 hb6 hB6 hB3 hB5 hB25 hcs5 hc5 hres5 y0 y1 y2 y3 y4 y5 y6 y7 yf yl z0 z1 z2 z3 zf zl v0 v1 v2 v3 vf vl k0 k1 k2 k3 k4 k5 k6 k7 kf kl hCo hV hc6 hf6 hz7 hc hm i1 i2 i5 u1 u2 h40 h200 hSH hRE Hgs Hgr Hog Hbl Hg Hro Hn hR HshL HreL Hpt e10 hnn hl1'
      by_cases hcx : dc = B + 1
      · have Hn := Lib.hid (show n = B + 1 by omega)
        subst hcx
        have HLen := Lib.hid (show (DP.eraseIdx B).length = B + 0 by have h1 := HLen0.out; have h2 := Hn.out; omega)
        have hr2 : ∀ W c', RowAt W (some ⟨G, 0, none⟩) (B + 1) L → RowAt W (some ⟨G, 0, none⟩) c' T2 := fun W c' h => HR2.out W 0 c' (.inr (by have := Hn.out; omega)) h
        have y1 : ((B : Int) + 1 == ((B + 1 : Nat) : Int)) = true := by simp
        apply SLG.rule0 ?hm2 [BX, G] [62, 63, 64, 65, 66, 67, 68, 69, 70, 71, 72, 73] [SLF.pq 62 [] _, SL.pu 63 [0, 13] (.slice (some ⟨G, 0, none⟩) n (B + 1)), SLF.pq 64 [] _, SLF.pq 65 [] _, SLF.pq 66 [1, 2, 3] _, SLF.pq 67 [] _, SL.pu 68 [5, 13] (.slice (some ⟨G, 0, none⟩) n (B + 1)), SLF.pq 69 [] _, SLF.pq 70 [7] _, SLF.pq 71 [6, 8] _, SL.aw 72 [4, 9, 14] [14] (fun x => .ex fun a' : Option Addr => .ex fun c' : Nat => .sep (.pure (x = .slice a' (B + (0)) c')) (.lies a' c' (T1 ++ T2))), SLF.pq 73 [] _, SL.aw 0 [10, 11, 13] [10, 13] (fun _ => .ex fun a' : Option Addr => .ex fun c' : Nat => .sep (.blk 0 BX 24 #[.string ware, .int .i64 lim, .int .i64 byr, .slice a' (B + (0)) c']) (.lies a' c' (T1 ++ T2))), SL.blk [] [] BX 24 #[.string ware, .int .i64 lim, .int .i64 byr, .slice (some ⟨G, 0, none⟩) n (B + 1)], SL.aw 0 [] [] (fun _ => .row RB 49 8 (.slice (some ⟨G, 0, none⟩) n (B + 1)) n L)] [12] ?hck2 ?hkp2 (SL.heldL 13 [[BX], [G]]) ?hin2 ?hdj2 ?hfr2 ?ob2 ?en2
        case hm2 => kernel_rfl
        case hin2 => exact SL.held_all [SL.blk [] [] BX 24 #[.string ware, .int .i64 lim, .int .i64 byr, .slice (some ⟨G, 0, none⟩) n (B + 1)], SL.aw 0 [] [] (fun _ => .row RB 49 8 (.slice (some ⟨G, 0, none⟩) n (B + 1)) n L)] rfl ⟨⟨⟨hbox, rfl⟩, fun j hj => ⟨by simp at hj; simp [hj], by simp at hj; omega⟩⟩, ⟨SL.aw_in ⟨hrow3, rfl⟩, fun j hj => ⟨by simp at hj; simp [hj], by simp at hj; omega⟩⟩, trivial⟩
        case hdj2 => exact SL.heldL_apart hApart
        case hfr2 => intro us; simp only [SL.frame, SL.put']; simp; exact rfl
        case ob2 =>
          refine ⟨?_, ?_, ?_, ?_, ?_, ?_, ?_, ?_, ?_, ?_, ?_, ?_, ?_, trivial⟩
          all_goals first
            | (intro us w' Fe hG hu hd hv Kx hK
               try dsimp only
               simp [SL.Used, SL.pu, SL.row, SL.box, SL.rowIn, SL.boxIn, SL.boxAt, SL.boxAtIn, SLF.pq, Act.put, SL.aw_sub, SL.aw_use, SL.aw_eat, SL.aw_V, SL.aw_quiet, SL.blk] at hu hK
               have hB5 : Below w.heap.size w w' := hBW.trans (hG.belowF hBW.size (by simp; omega))
               obtain ⟨hc5, hf5⟩ := bcell hB5
               have hs5 := hB5.size
               obtain ⟨hc6, hf6⟩ := hG.cellsF
               clear hv
               refine SLF.wpo_do (SLF.wanted_free rfl) ?hd2 ?_
               case hd2 => intro c h; cases h
               clear hd
               first
                 | (go_step; exact hK _ _ _ (SL.Chg.refl _ _) (by first | exact rfl | (simp only [hu]; exact rfl)) rfl (by simp) rfl)
                 | exact hK _ _ _ (SL.Chg.refl _ _) rfl rfl (by simp) rfl)
            | skip
          · refine SLG.ob_sp rfl rfl rfl fun us w' Fe hG hu hd Kx hK => ?_
            try dsimp only
            simp [SL.Used, SL.pu, SL.row, SL.box, SL.rowIn, SL.boxIn, SL.boxAt, SL.boxAtIn, SLF.pq, Act.put, SL.aw_sub, SL.aw_use, SL.aw_eat, SL.aw_V, SL.aw_quiet, SL.blk] at hu
            have hB5 : Below w.heap.size w w' := hBW.trans (hG.belowF hBW.size (by simp; omega))
            obtain ⟨hc5, hf5⟩ := bcell hB5
            have hs5 := hB5.size
            obtain ⟨hc6, hf6⟩ := hG.cellsF
            refine SLF.wpo_do (SLF.wanted_free rfl) ?hd2 ?_
            case hd2 => intro c h; cases h
            obtain ⟨⟨e0, _⟩, hbl, _⟩ := hu
            obtain ⟨y0, y1, y2, y3, yf, yl⟩ := cell4w hbl
            go_step
            exact hK _ _ _ [] (by simp [Act.put]; done) (SL.Chg.refl _ _) ⟨rfl, rfl⟩ (fun j hj => by cases hj)
          · refine SLG.ob_sp rfl rfl rfl fun us w' Fe hG hu hd Kx hK => ?_
            try dsimp only
            simp [SL.Used, SL.pu, SL.row, SL.box, SL.rowIn, SL.boxIn, SL.boxAt, SL.boxAtIn, SLF.pq, Act.put, SL.aw_sub, SL.aw_use, SL.aw_eat, SL.aw_V, SL.aw_quiet, SL.blk] at hu
            have hB5 : Below w.heap.size w w' := hBW.trans (hG.belowF hBW.size (by simp; omega))
            obtain ⟨hc5, hf5⟩ := bcell hB5
            have hs5 := hB5.size
            obtain ⟨hc6, hf6⟩ := hG.cellsF
            refine SLF.wpo_do (SLF.wanted_free rfl) ?hd2 ?_
            case hd2 => intro c h; cases h
            obtain ⟨⟨e0, _⟩, hbl, _⟩ := hu
            obtain ⟨y0, y1, y2, y3, yf, yl⟩ := cell4w hbl
            go_step
            exact hK _ _ _ [] (by simp [Act.put]; done) (SL.Chg.refl _ _) ⟨rfl, rfl⟩ (fun j hj => by cases hj)
          · refine SLG.ob_sp rfl rfl rfl fun us w' Fe hG hu hd Kx hK => ?_
            try dsimp only
            simp [SL.Used, SL.pu, SL.row, SL.box, SL.rowIn, SL.boxIn, SL.boxAt, SL.boxAtIn, SLF.pq, Act.put, SL.aw_sub, SL.aw_use, SL.aw_eat, SL.aw_V, SL.aw_quiet, SL.blk] at hu
            have hB5 : Below w.heap.size w w' := hBW.trans (hG.belowF hBW.size (by simp; omega))
            obtain ⟨hc5, hf5⟩ := bcell hB5
            have hs5 := hB5.size
            obtain ⟨hc6, hf6⟩ := hG.cellsF
            refine SLF.wpo_do (SLF.wanted_free rfl) ?hd2 ?_
            case hd2 => intro c h; cases h
            obtain ⟨⟨e1, _⟩, ⟨e2, _⟩, h3⟩ := hu
            obtain ⟨hr, e14⟩ := SL.aw_out h3
            refine wp_app_full elemP _ _ rfl e1 (hr1 _ _ (RowAt.of_owns hr)) Hl1.out e2 (hr2 _ _ (RowAt.of_owns hr)) (by rw [Hl2.out]; have := Hn.out; congr 1; omega) (by unfold maxLen; omega) (by omega) ?_
            intro a' c' w6 hr6 hb6 _ hat
            refine hK _ _ w6 _ (by simp [Act.put]; done) (.of_below hb6) (SL.aw_in ⟨a', c', _, _, ⟨rfl, rfl⟩, ⟨hr6, rfl⟩, rfl⟩) ?_
            intro j hj
            rcases hat with ⟨e, _⟩ | e
            · left
              subst e
              simp [SL.aw_eat, e14, Value.ownBlock] at hj ⊢
              exact hj
            · right
              subst e
              have := (hr6.at_ _ rfl).2.1
              simp [Value.ownBlock] at hj this
              omega
          · refine SLG.ob_no rfl rfl rfl fun us w' Fe hG hu hd Kx hK => ?_
            try dsimp only
            simp [SL.Used, SL.pu, SL.row, SL.box, SL.rowIn, SL.boxIn, SL.boxAt, SL.boxAtIn, SLF.pq, Act.put, SL.aw_sub, SL.aw_use, SL.aw_eat, SL.aw_V, SL.aw_quiet, SL.blk] at hu
            have hB5 : Below w.heap.size w w' := hBW.trans (hG.belowF hBW.size (by simp; omega))
            obtain ⟨hc5, hf5⟩ := bcell hB5
            have hs5 := hB5.size
            obtain ⟨hc6, hf6⟩ := hG.cellsF
            refine SLF.wpo_do (SLF.wanted_free rfl) ?hd2 ?_
            case hd2 => intro c h; cases h
            obtain ⟨h1, ⟨e11, _⟩, hbl, e13⟩ := hu
            obtain ⟨a', c', F1, F2, ⟨hx, rfl⟩, ⟨hl, rfl⟩, hF⟩ := SL.aw_out h1
            have hd1 := hd 10 13 (by simp [SL.aw_use]) (by simp [SL.aw_use]) (by simp)
            rw [hF, e13] at hd1
            obtain ⟨y0, y1, y2, y3, yf, yl⟩ := cell4w hbl
            go_step
            refine hK _ _ (.setCell _ (by simp [SL.aw_eat, e13]) _) (SL.aw_in ⟨a', c', _, _, ⟨Nat.zero_le _, heap_put3 hbl _, rfl⟩, ⟨hl.chg (E := [BX]) (.setCell _ (by simp) _) (fun z hz hm => hd1 _ (by simp [hz, Value.ownBlock]) hm), rfl⟩, rfl⟩) ?_
            intro j hj
            left
            simp [SL.aw_eat, hF, e13] at hj ⊢
            grind
        case hck2 => kernel_rfl
        case hkp2 => kernel_rfl
        intro us w5 Fs hG hu hbd hd
        simp [SL.Used, SL.aw_sub] at hu
        obtain ⟨a', c', F1, F2, ⟨_, hbl, rfl⟩, ⟨hl, rfl⟩, hF⟩ := SL.aw_out hu
        have hB5 : Below w.heap.size w w5 := hBW.trans (hG.belowF hBW.size (by simp; omega))
        have hG5 : SL.Chg [BX, G] w3 w5 := ⟨hG.os, hG.tape, hG.output, hG.size, hG.block⟩
        have ha' : ∀ z, a' = some z → z.block ∉ [w.heap.size + 1] := fun z hz hm => by
          have := (hbd 12 (by simp) z.block (by rw [hF]; simp [hz, Value.ownBlock])).1
          simp at this hm
          omega
        have hres5 := (hG5.block _ (by omega) (by simp; omega)).trans hres
        obtain ⟨y0, y1, y2, y3, yf, yl⟩ := cell4w hbl
        obtain ⟨z0, z1, z2, z3, zf, zl⟩ := cell4w hres5
        have hFin := Lib.hid (fun W (h : SL.Chg [w.heap.size + 1] w5 W) => HFin.out a' c' _ W (hl.chg h ha') hG5 h)
        have hFin2 := Lib.hid (fun W (h : SL.Chg [w.heap.size + 1] w5 W) => hP.out W ⟨ware, lim, byr, a', c', DP.eraseIdx B⟩ (hFin.out W h).1 _ (congrArg (fun k => Ending.returned (.tuple #[.agg #[.string ware, .int .i64 lim, .int .i64 byr, .slice a' k c'], .int .i64 0])) HLen.out.symm) (hB5.trans (h.belowW hB5.size (by simp))) (hFin.out W h).2)
        clear hu hbd hd hG hr1 hr2 hl hbl hres5 hF ha' hG5
        go_wp2_with fail
        refine bodyPost_ret (v := .tuple #[.agg #[.string ware, .int .i64 lim, .int .i64 byr, .slice a' (B + (0)) c'], .int .i64 0]) (by simp [results, Tryz.results18, go_sem, *]) rfl ?_
        exact hFin2.out _ (SLG.chg_set4 _ (by simp) ..)
      · have HLen := Lib.hid (show (DP.eraseIdx B).length = B + (n - (B + 1)) by have h1 := HLen0.out; omega)
        have hr2 : ∀ W c', RowAt W (some ⟨G, 0, none⟩) dc L → RowAt W (some ⟨G, (B + 1) * 8, none⟩) c' T2 := fun W c' h => HR2.out W _ c' (.inl rfl) h
        have y1 : ((B : Int) + 1 == (dc : Int)) = false := by simp; omega
        have y2 : (B + 1 == dc) = false := by simp; omega
        apply SLG.rule0 ?hm3 [BX, G] [62, 63, 64, 65, 66, 67, 68, 69, 70, 71, 72, 73] [SLF.pq 62 [] _, SL.pu 63 [0, 13] (.slice (some ⟨G, 0, none⟩) n (dc)), SLF.pq 64 [] _, SLF.pq 65 [] _, SLF.pq 66 [1, 2, 3] _, SLF.pq 67 [] _, SL.pu 68 [5, 13] (.slice (some ⟨G, 0, none⟩) n (dc)), SLF.pq 69 [] _, SLF.pq 70 [7] _, SLF.pq 71 [6, 8] _, SL.aw 72 [4, 9, 14] [14] (fun x => .ex fun a' : Option Addr => .ex fun c' : Nat => .sep (.pure (x = .slice a' (B + (n - (B + 1))) c')) (.lies a' c' (T1 ++ T2))), SLF.pq 73 [] _, SL.aw 0 [10, 11, 13] [10, 13] (fun _ => .ex fun a' : Option Addr => .ex fun c' : Nat => .sep (.blk 0 BX 24 #[.string ware, .int .i64 lim, .int .i64 byr, .slice a' (B + (n - (B + 1))) c']) (.lies a' c' (T1 ++ T2))), SL.blk [] [] BX 24 #[.string ware, .int .i64 lim, .int .i64 byr, .slice (some ⟨G, 0, none⟩) n (dc)], SL.aw 0 [] [] (fun _ => .row RB 49 8 (.slice (some ⟨G, 0, none⟩) n (dc)) n L)] [12] ?hck3 ?hkp3 (SL.heldL 13 [[BX], [G]]) ?hin3 ?hdj3 ?hfr3 ?ob3 ?en3
        case hm3 => kernel_rfl
        case hin3 => exact SL.held_all [SL.blk [] [] BX 24 #[.string ware, .int .i64 lim, .int .i64 byr, .slice (some ⟨G, 0, none⟩) n (dc)], SL.aw 0 [] [] (fun _ => .row RB 49 8 (.slice (some ⟨G, 0, none⟩) n (dc)) n L)] rfl ⟨⟨⟨hbox, rfl⟩, fun j hj => ⟨by simp at hj; simp [hj], by simp at hj; omega⟩⟩, ⟨SL.aw_in ⟨hrow3, rfl⟩, fun j hj => ⟨by simp at hj; simp [hj], by simp at hj; omega⟩⟩, trivial⟩
        case hdj3 => exact SL.heldL_apart hApart
        case hfr3 => intro us; simp only [SL.frame, SL.put']; simp; exact rfl
        case ob3 =>
          refine ⟨?_, ?_, ?_, ?_, ?_, ?_, ?_, ?_, ?_, ?_, ?_, ?_, ?_, trivial⟩
          all_goals first
            | (intro us w' Fe hG hu hd hv Kx hK
               try dsimp only
               simp [SL.Used, SL.pu, SL.row, SL.box, SL.rowIn, SL.boxIn, SL.boxAt, SL.boxAtIn, SLF.pq, Act.put, SL.aw_sub, SL.aw_use, SL.aw_eat, SL.aw_V, SL.aw_quiet, SL.blk] at hu hK
               have hB5 : Below w.heap.size w w' := hBW.trans (hG.belowF hBW.size (by simp; omega))
               obtain ⟨hc5, hf5⟩ := bcell hB5
               have hs5 := hB5.size
               obtain ⟨hc6, hf6⟩ := hG.cellsF
               clear hv
               refine SLF.wpo_do (SLF.wanted_free rfl) ?hd3 ?_
               case hd3 => intro c h; cases h
               clear hd
               first
                 | (go_step; exact hK _ _ _ (SL.Chg.refl _ _) (by first | exact rfl | (simp only [hu]; exact rfl)) rfl (by simp) rfl)
                 | exact hK _ _ _ (SL.Chg.refl _ _) rfl rfl (by simp) rfl)
            | skip
          · refine SLG.ob_sp rfl rfl rfl fun us w' Fe hG hu hd Kx hK => ?_
            try dsimp only
            simp [SL.Used, SL.pu, SL.row, SL.box, SL.rowIn, SL.boxIn, SL.boxAt, SL.boxAtIn, SLF.pq, Act.put, SL.aw_sub, SL.aw_use, SL.aw_eat, SL.aw_V, SL.aw_quiet, SL.blk] at hu
            have hB5 : Below w.heap.size w w' := hBW.trans (hG.belowF hBW.size (by simp; omega))
            obtain ⟨hc5, hf5⟩ := bcell hB5
            have hs5 := hB5.size
            obtain ⟨hc6, hf6⟩ := hG.cellsF
            refine SLF.wpo_do (SLF.wanted_free rfl) ?hd3 ?_
            case hd3 => intro c h; cases h
            obtain ⟨⟨e0, _⟩, hbl, _⟩ := hu
            obtain ⟨y0, y1, y2, y3, yf, yl⟩ := cell4w hbl
            go_step
            exact hK _ _ _ [] (by simp [Act.put]; done) (SL.Chg.refl _ _) ⟨rfl, rfl⟩ (fun j hj => by cases hj)
          · refine SLG.ob_sp rfl rfl rfl fun us w' Fe hG hu hd Kx hK => ?_
            try dsimp only
            simp [SL.Used, SL.pu, SL.row, SL.box, SL.rowIn, SL.boxIn, SL.boxAt, SL.boxAtIn, SLF.pq, Act.put, SL.aw_sub, SL.aw_use, SL.aw_eat, SL.aw_V, SL.aw_quiet, SL.blk] at hu
            have hB5 : Below w.heap.size w w' := hBW.trans (hG.belowF hBW.size (by simp; omega))
            obtain ⟨hc5, hf5⟩ := bcell hB5
            have hs5 := hB5.size
            obtain ⟨hc6, hf6⟩ := hG.cellsF
            refine SLF.wpo_do (SLF.wanted_free rfl) ?hd3 ?_
            case hd3 => intro c h; cases h
            obtain ⟨⟨e0, _⟩, hbl, _⟩ := hu
            obtain ⟨y0, y1, y2, y3, yf, yl⟩ := cell4w hbl
            go_step
            exact hK _ _ _ [] (by simp [Act.put]; done) (SL.Chg.refl _ _) ⟨rfl, rfl⟩ (fun j hj => by cases hj)
          · refine SLG.ob_sp rfl rfl rfl fun us w' Fe hG hu hd Kx hK => ?_
            try dsimp only
            simp [SL.Used, SL.pu, SL.row, SL.box, SL.rowIn, SL.boxIn, SL.boxAt, SL.boxAtIn, SLF.pq, Act.put, SL.aw_sub, SL.aw_use, SL.aw_eat, SL.aw_V, SL.aw_quiet, SL.blk] at hu
            have hB5 : Below w.heap.size w w' := hBW.trans (hG.belowF hBW.size (by simp; omega))
            obtain ⟨hc5, hf5⟩ := bcell hB5
            have hs5 := hB5.size
            obtain ⟨hc6, hf6⟩ := hG.cellsF
            refine SLF.wpo_do (SLF.wanted_free rfl) ?hd3 ?_
            case hd3 => intro c h; cases h
            obtain ⟨⟨e1, _⟩, ⟨e2, _⟩, h3⟩ := hu
            obtain ⟨hr, e14⟩ := SL.aw_out h3
            refine wp_app_full elemP _ _ rfl e1 (hr1 _ _ (RowAt.of_owns hr)) Hl1.out e2 (hr2 _ _ (RowAt.of_owns hr)) Hl2.out (by unfold maxLen; omega) (by omega) ?_
            intro a' c' w6 hr6 hb6 _ hat
            refine hK _ _ w6 _ (by simp [Act.put]; done) (.of_below hb6) (SL.aw_in ⟨a', c', _, _, ⟨rfl, rfl⟩, ⟨hr6, rfl⟩, rfl⟩) ?_
            intro j hj
            rcases hat with ⟨e, _⟩ | e
            · left
              subst e
              simp [SL.aw_eat, e14, Value.ownBlock] at hj ⊢
              exact hj
            · right
              subst e
              have := (hr6.at_ _ rfl).2.1
              simp [Value.ownBlock] at hj this
              omega
          · refine SLG.ob_no rfl rfl rfl fun us w' Fe hG hu hd Kx hK => ?_
            try dsimp only
            simp [SL.Used, SL.pu, SL.row, SL.box, SL.rowIn, SL.boxIn, SL.boxAt, SL.boxAtIn, SLF.pq, Act.put, SL.aw_sub, SL.aw_use, SL.aw_eat, SL.aw_V, SL.aw_quiet, SL.blk] at hu
            have hB5 : Below w.heap.size w w' := hBW.trans (hG.belowF hBW.size (by simp; omega))
            obtain ⟨hc5, hf5⟩ := bcell hB5
            have hs5 := hB5.size
            obtain ⟨hc6, hf6⟩ := hG.cellsF
            refine SLF.wpo_do (SLF.wanted_free rfl) ?hd3 ?_
            case hd3 => intro c h; cases h
            obtain ⟨h1, ⟨e11, _⟩, hbl, e13⟩ := hu
            obtain ⟨a', c', F1, F2, ⟨hx, rfl⟩, ⟨hl, rfl⟩, hF⟩ := SL.aw_out h1
            have hd1 := hd 10 13 (by simp [SL.aw_use]) (by simp [SL.aw_use]) (by simp)
            rw [hF, e13] at hd1
            obtain ⟨y0, y1, y2, y3, yf, yl⟩ := cell4w hbl
            go_step
            refine hK _ _ (.setCell _ (by simp [SL.aw_eat, e13]) _) (SL.aw_in ⟨a', c', _, _, ⟨Nat.zero_le _, heap_put3 hbl _, rfl⟩, ⟨hl.chg (E := [BX]) (.setCell _ (by simp) _) (fun z hz hm => hd1 _ (by simp [hz, Value.ownBlock]) hm), rfl⟩, rfl⟩) ?_
            intro j hj
            left
            simp [SL.aw_eat, hF, e13] at hj ⊢
            grind
        case hck3 => kernel_rfl
        case hkp3 => kernel_rfl
        intro us w5 Fs hG hu hbd hd
        simp [SL.Used, SL.aw_sub] at hu
        obtain ⟨a', c', F1, F2, ⟨_, hbl, rfl⟩, ⟨hl, rfl⟩, hF⟩ := SL.aw_out hu
        have hB5 : Below w.heap.size w w5 := hBW.trans (hG.belowF hBW.size (by simp; omega))
        have hG5 : SL.Chg [BX, G] w3 w5 := ⟨hG.os, hG.tape, hG.output, hG.size, hG.block⟩
        have ha' : ∀ z, a' = some z → z.block ∉ [w.heap.size + 1] := fun z hz hm => by
          have := (hbd 12 (by simp) z.block (by rw [hF]; simp [hz, Value.ownBlock])).1
          simp at this hm
          omega
        have hres5 := (hG5.block _ (by omega) (by simp; omega)).trans hres
        obtain ⟨y0, y1, y2, y3, yf, yl⟩ := cell4w hbl
        obtain ⟨z0, z1, z2, z3, zf, zl⟩ := cell4w hres5
        have hFin := Lib.hid (fun W (h : SL.Chg [w.heap.size + 1] w5 W) => HFin.out a' c' _ W (hl.chg h ha') hG5 h)
        have hFin2 := Lib.hid (fun W (h : SL.Chg [w.heap.size + 1] w5 W) => hP.out W ⟨ware, lim, byr, a', c', DP.eraseIdx B⟩ (hFin.out W h).1 _ (congrArg (fun k => Ending.returned (.tuple #[.agg #[.string ware, .int .i64 lim, .int .i64 byr, .slice a' k c'], .int .i64 0])) HLen.out.symm) (hB5.trans (h.belowW hB5.size (by simp))) (hFin.out W h).2)
        clear hu hbd hd hG hr1 hr2 hl hbl hres5 hF ha' hG5
        go_wp2_with fail
        refine bodyPost_ret (v := .tuple #[.agg #[.string ware, .int .i64 lim, .int .i64 byr, .slice a' (B + (n - (B + 1))) c'], .int .i64 0]) (by simp [results, Tryz.results18, go_sem, *]) rfl ?_
        exact hFin2.out _ (SLG.chg_set4 _ (by simp) ..)
  · have h2 : (E != 0) = true := by simpa using h0
    have hC2 := fun w1 h => (hC w1 h).mono fun e w' hh => hh.1 h0
    rw [if_neg h0] at hE
    subst hE
    have HR := Lib.hid (hR.out.1 h0)
    obtain ⟨ware, lim, byr, a, cap, ps⟩ := c
    simp only [Cs.v] at *
    have hB0 : Below w.heap.size w ((w.alloc (Obj.cells #[.string ware, .int .i64 lim, .int .i64 byr, .slice a ps.length cap] 24)).alloc (Obj.cells #[.string ⟨#[]⟩, .int .i64 0, .int .i64 0, .slice none 0 0] 24)) := by ((repeat (first | assumption | exact Below.refl _ _ | refine Below.alloc ?_ ?_ _ | refine Below.setCell ?_ ?_ _ | refine Below.drew ?_ | refine belowN ?_ | refine Below.up ?_ (by assumption) ?_)) <;> (first | assumption | omega | (simp; done) | (simp; omega)))
    have hbx := hc.below hB0
    clear h0 hz hz2 hC hR
    go_enter Tryz.func18, Tryz.ntmps18
    go_wp2_with (go_at_call 67; (with_reducible refine (hC2 _ hbx).mono ?_); rintro e w1 ⟨t, rfl, hb1⟩; obtain ⟨hc1, hf1⟩ := bcell hb1; have hz2 := lt_size hb1 (b := w.heap.size + 1) (by first | assumption | omega | (simp; done) | (simp; omega)))
    have hBE := hB0.ch2 hb1
    refine bodyPost_ret (v := .tuple #[.agg #[.string ⟨#[]⟩, .int .i64 0, .int .i64 0, .slice none 0 0], .int .i64 ME]) (by simp [results, Tryz.results18, go_sem, *]; try rfl) rfl (hP.out _ Cs.zero HR.out _ rfl ?_ (Cs.zero_at _))
    (repeat (first | (with_reducible exact hBE) | ((with_reducible refine Below.setCell ?_ ?_ _); rotate_left; focus (first | omega | (simp; done) | (simp; omega))) | ((with_reducible refine Below.alloc ?_ ?_ _); rotate_left; focus (first | omega | (simp; done) | (simp; omega)))))
end Go.Proofs.YtodkbfbbpfghiaaGreat
