/-
  Lemmas and walks for the laws on roads and boards: what each function of the program answers, for every input.
-/
import Derived.Test.YtodkbfbbpfghiaaGreatPc13
import Derived.Test.YtodkbfbbpfghiaaGreatPc07
import Derived.Test.YtodkbfbbpfghiaaGreatPc11
import Derived.Test.YtodkbfbbpfghiaaGreatPc04
set_option linter.unusedSimpArgs false
set_option linter.unusedVariables false
set_option linter.unnecessarySimpa false
namespace Go.Proofs.YtodkbfbbpfghiaaGreat
open Go.RowKit Go.Shelf Go.Lib
set_option maxHeartbeats 4000000
set_option maxRecDepth 100000
theorem pcs_get0 {ps : List Pt} {k : Nat} (hk : k < ps.length) : (pcs ps)[k * 8]? = some (.slice (ps.getD k default).sa (ps.getD k default).sh.length (ps.getD k default).sc) := by
  have := flat_get (f := Pt.cs) (k := 8) (fun _ => rfl) ps k 0 hk (by omega)
  rw [Nat.add_zero] at this
  exact this
theorem pcs_get7 {ps : List Pt} {k : Nat} (hk : k < ps.length) : (pcs ps)[k * 8 + 7]? = some (.slice (ps.getD k default).ra (ps.getD k default).re.length (ps.getD k default).rc) := by
  have := flat_get (f := Pt.cs) (k := 8) (fun _ => rfl) ps k 7 hk (by omega)
  exact this
theorem wcopied (c : Cs) (w : World) (hc : CsAt w c) (hm : c.ps.length ≤ 1000) (hsm : ∀ p ∈ c.ps, p.sh.length ≤ 1000 ∧ p.re.length ≤ 1000) :
    Calls Tryz.prog 70 #[c.v] w (CopiedPost w c) := by
  obtain ⟨ware, lim, byr, a, cap, ps⟩ := c
  simp only [Cs.v] at *
  have hB0 : Below w.heap.size w ((w.alloc (Obj.cells #[.string ware, .int .i64 lim, .int .i64 byr, .slice a ps.length cap] 24)).alloc (Obj.cells #[.string ⟨#[]⟩, .int .i64 0, .int .i64 0, .slice none 0 0] 24)) := by ((repeat (first | assumption | exact Below.refl _ _ | refine Below.alloc ?_ ?_ _ | refine Below.setCell ?_ ?_ _ | refine Below.drew ?_ | refine belowN ?_ | refine Below.up ?_ (by assumption) ?_)) <;> (first | assumption | omega | (simp; done) | (simp; omega)))
  have hC := cloneP a ps.length cap ps _ (hc.ps.below hB0) hm
  have x0 : ((w.alloc (Obj.cells #[.string ware, .int .i64 lim, .int .i64 byr, .slice a ps.length cap] 24)).alloc (Obj.cells #[.string ⟨#[]⟩, .int .i64 0, .int .i64 0, .slice none 0 0] 24)).heap[w.heap.size]? = some (.cells #[.string ware, .int .i64 lim, .int .i64 byr, .slice a ps.length cap] 24 (0, 0)) := by
    rw [heap_allocC _ _ (by simp)]; exact World.alloc_heap_new _ _
  have x1 : ((w.alloc (Obj.cells #[.string ware, .int .i64 lim, .int .i64 byr, .slice a ps.length cap] 24)).alloc (Obj.cells #[.string ⟨#[]⟩, .int .i64 0, .int .i64 0, .slice none 0 0] 24)).heap[w.heap.size + 1]? = some (.cells #[.string ⟨#[]⟩, .int .i64 0, .int .i64 0, .slice none 0 0] 24 (0, 0)) := heap_alloc2_new w _ _
  have hps := hc.ps.each
  have hware := hc.ware
  have X0 := Lib.hid x0
  have X1 := Lib.hid x1
  clear x0 x1 hc
  go_enter Tryz.func70, Tryz.ntmps70
  go_wp2_with (go_at_call 110; (with_reducible refine hC.mono ?_); rintro e w1 ⟨v1, rfl, hb1, ho1⟩; obtain ⟨va, vc, rfl, _⟩ := owns_slice ho1; obtain ⟨d0, d1, d2, d3, df, _⟩ := cell4w ((hb1.block _ (by simp; omega)).trans X0.out); have hz1 := lt_size hb1 (b := w.heap.size) (by first | assumption | omega | (simp; done) | (simp; omega)); have hz2 := lt_size hb1 (b := w.heap.size + 1) (by first | assumption | omega | (simp; done) | (simp; omega)))
  simp only [World.size_alloc] at ho1
  obtain ⟨w2, hw2⟩ : ∃ w2, w2 = w1.setCell ⟨w.heap.size, 3, none⟩ (.slice va ps.length vc) := ⟨_, rfl⟩
  rw [← hw2]
  have hb2 := SL.row_bounds ho1
  have h0 : w2.heap[w.heap.size]? = some (.cells #[.string ware, .int .i64 lim, .int .i64 byr, .slice va ps.length vc] 24 (0, 0)) := by
    rw [hw2]
    have := SL.heap_set ((hb1.block _ (by simp; omega)).trans X0.out) (.slice va ps.length vc) (i := 3)
    simpa using this
  have h1 : w2.heap[w.heap.size + 1]? = some (.cells #[.string ⟨#[]⟩, .int .i64 0, .int .i64 0, .slice none 0 0] 24 (0, 0)) := by
    rw [hw2, heap_setC _ _ _ (by simp)]
    exact (hb1.block _ (by simp)).trans X1.out
  have hB2 : Below w.heap.size w w2 := by rw [hw2]; exact (hB0.ch2 hb1).setCell (by simp) _
  have hS0 : CopyRel [w.heap.size, w.heap.size + 1] (w.heap.size + 1 + 1) ps ps (.slice va ps.length vc) 0 w2 := by
    refine ⟨rfl, ?_, fun i _ => SameP.refl _, fun q hq => (hps q hq).below hB2, fun q hq => ?_, fun i hi => by omega⟩
    · rw [hw2]; exact SL.row_set ho1 (fun h => by have := hb2 _ h; simp at this; omega) _
    · obtain ⟨k1, k2⟩ := (hps q hq).blocks
      have key : ∀ n, n < w.heap.size → n ∉ (Value.slice va ps.length vc).ownBlock.toList ++ [w.heap.size, w.heap.size + 1] := fun n hn hm => by
        rcases List.mem_append.1 hm with hm | hm
        · have := hb2 _ hm; omega
        · simp at hm; omega
      exact ⟨fun x hx hn => key _ (k1 x hx hn), fun x hx hn => key _ (k2 x hx hn)⟩
  have hz3 : w.heap.size + 1 < w2.heap.size := by rw [hw2]; simpa using hz2
  clear hw2 d0 d1 d2 d3 df hz1 hz2 hb1 hb2 ho1 hC hB0
  go_loopw [11] (fun i wr => ∃ k : Nat, k ≤ ps.length ∧ i = .int .i64 k ∧ Below w.heap.size w wr ∧ wr.heap[w.heap.size]? = some (.cells #[.string ware, .int .i64 lim, .int .i64 byr, .slice va ps.length vc] 24 (0, 0)) ∧
    wr.heap[w.heap.size + 1]? = some (.cells #[.string ⟨#[]⟩, .int .i64 0, .int .i64 0, .slice none 0 0] 24 (0, 0)) ∧ ∃ qs, CopyRel [w.heap.size, w.heap.size + 1] (w.heap.size + 1 + 1) ps qs (.slice va ps.length vc) k wr) (fun i _ => ps.length - (RowKit.intOf i).toNat)
  case atStart => exact ⟨0, Nat.zero_le _, rfl, hB2, h0, h1, _, hS0⟩
  case round =>
    obtain ⟨k, hk, rfl, hB, g0, g1, qs, hS⟩ := hrel
    clear h0 h1 hS0 hB2 hz3
    have hnn : (0 : Int) ≤ k := by omega
    obtain ⟨y0, y1, y2, y3, yf, yl⟩ := cell4w g0
    have zl1 : w.heap.size + 1 < wr.heap.size := (Array.getElem?_eq_some_iff.1 g1).1
    by_cases hlt : k < ps.length
    · have i1 : (k : Int) < (ps.length : Int) := by omega
      obtain ⟨G, rfl, hG1, hG2, hcap⟩ := owns_some hS.row (by omega)
      have hkq : k < qs.length := by rw [hS.len]; exact hlt
      have hpq := hS.at_ _ (Pt.mem hkq)
      have hoq := hS.off _ (Pt.mem hkq)
      have hsq := hS.same k hlt
      have hsp := hsm _ (Pt.mem hlt)
      rw [← hsq.sh, ← hsq.re] at hsp
      have hP0 := pcs_get0 hkq
      have hP7 := pcs_get7 hkq
      have hstep := @CopyRel.step [w.heap.size, w.heap.size + 1] (w.heap.size + 1 + 1) ps qs G vc wr
      have HS := Lib.hid hS
      have hrow := hS.row
      obtain ⟨P, hP⟩ : ∃ P, qs.getD k default = P := ⟨_, rfl⟩
      rw [hP] at hpq hoq hsp hP0 hP7
      have HP := Lib.hid hP
      obtain ⟨xs, hxs⟩ : ∃ xs, pcs qs = xs := ⟨_, rfl⟩
      rw [hxs] at hrow hP0 hP7
      have Hxs := Lib.hid hxs
      have HP0 := Lib.hid hP0
      have HP7 := Lib.hid hP7
      have hPsh : ∀ W, SL.Chg [G] wr.drew W → LAt W P.sa P.sh.length P.sc P.sh := fun W h => LAt.chg (w := wr) hpq.sh ⟨h.os, h.tape, h.output, h.size, h.block⟩ (fun x hx hn hm => hoq.1 x hx hn (List.mem_append.2 (.inl (by simpa [Value.ownBlock] using hm))))
      have hPre : ∀ W, SL.Chg [G] wr.drew W → LAt W P.ra P.re.length P.rc P.re := fun W h => LAt.chg (w := wr) hpq.re ⟨h.os, h.tape, h.output, h.size, h.block⟩ (fun x hx hn hm => hoq.2 x hx hn (List.mem_append.2 (.inl (by simpa [Value.ownBlock] using hm))))
      have k8 : k * 8 + 7 < ps.length * 8 := by omega
      have hne0 : ¬ w.heap.size = G := by omega
      have hne1 : ¬ w.heap.size + 1 = G := by omega
      clear hP hxs hP0 hP7 hS hsq hpq hoq
      go_wp2_with fail
      apply SLG.rule0 ?hm1 [G] [14, 15, 16, 17, 18, 19, 20, 21, 22, 23, 24, 25, 26, 27, 28, 29, 30, 31, 32, 33, 34, 35, 36, 37] [SLF.pq 14 [] _, SLF.pq 15 [0] _, SLF.pq 16 [] _, SLF.pq 17 [] _, SLF.pq 18 [3] _, SLF.pq 19 [] _, SLF.pq 20 [] _, SLF.pq 21 [6] _, SLF.pq 22 [] _, SLF.pq 23 [7, 8] _, SLF.pq 24 [9] _, SL.pu 25 [10, 26] (.slice P.sa P.sh.length P.sc), SL.row 26 [11] [] (w.heap.size + 1 + 1) 3 1 P.sh.length (P.sh.map (.int .i64)), SLF.pq 27 [] _, SLF.pq 28 [13] _, SLF.pq 29 [] _, SLF.pq 30 [14, 15] _, SLF.pq 31 [16] _, SL.pu 32 [17, 26] (.slice P.ra P.re.length P.rc), SL.row 33 [18] [] (w.heap.size + 1 + 1) 3 1 P.re.length (P.re.map (.int .i64)), SLF.pq 34 [1, 2] _, SLF.pq 35 [20] _, SL.aw 0 [12, 21, 26] [12, 26] (fun _ => .ex fun y : Value => .sepd (.row (w.heap.size + 1 + 1) 49 8 (.slice (some ⟨G, 0, none⟩) ps.length vc) ps.length (xs.set (k * 8) y)) (.row (w.heap.size + 1 + 1) 3 1 y P.sh.length (P.sh.map (.int .i64)))), SLF.pq 36 [4, 5] _, SLF.pq 37 [23] _, SL.aw 0 [19, 22, 24] [19, 22] (fun _ => .ex fun y : Value => .ex fun z : Value => .sepd (.row (w.heap.size + 1 + 1) 49 8 (.slice (some ⟨G, 0, none⟩) ps.length vc) ps.length ((xs.set (k * 8) y).set (k * 8 + 7) z)) (.sepd (.row (w.heap.size + 1 + 1) 3 1 y P.sh.length (P.sh.map (.int .i64))) (.row (w.heap.size + 1 + 1) 3 1 z P.re.length (P.re.map (.int .i64))))), SL.aw 0 [] [] (fun _ => .row (w.heap.size + 1 + 1) 49 8 (.slice (some ⟨G, 0, none⟩) ps.length vc) ps.length xs)] [25] ?hck1 ?hkp1 (fun i => if i = 26 then [G] else []) ?hin1 ?hdj1 ?hfr1 ?ob1 ?en1
      case hm1 => kernel_rfl
      case hin1 => exact (SL.row_held (v := .slice (some ⟨G, 0, none⟩) ps.length vc) rfl rfl (SL.aw_in ⟨hrow, rfl⟩) hrow)
      case hdj1 => exact SL.one_apart
      case hfr1 => intro us; simp only [SL.frame, SL.put']; simp; exact rfl
      case ob1 =>
        refine ⟨?_, ?_, ?_, ?_, ?_, ?_, ?_, ?_, ?_, ?_, ?_, ?_, ?_, ?_, ?_, ?_, ?_, ?_, ?_, ?_, ?_, ?_, ?_, ?_, ?_, ?_, trivial⟩
        all_goals first
          | (intro us w' Fe hG hu hd hv Kx hK
             try dsimp only
             simp [SL.Used, SL.pu, SL.row, SL.box, SL.rowIn, SL.boxIn, SL.boxAt, SL.boxAtIn, SLF.pq, Act.put, SL.aw_sub, SL.aw_use, SL.aw_eat, SL.aw_V, SL.aw_quiet] at hu hK
             have hB5 : Below w.heap.size w w' := hB.trans (hG.belowF hB.size (by simp; omega))
             obtain ⟨hc5, hf5⟩ := bcell hB5
             have hs5 := hB5.size
             obtain ⟨hc6, hf6⟩ := hG.cellsF
             clear hv
             refine SLF.wpo_do (SLF.wanted_free rfl) ?hd1 ?_
             case hd1 => intro c h; cases h
             clear hd
             first
               | (go_step; exact hK _ _ _ (SL.Chg.refl _ _) (by first | exact rfl | (simp only [hu]; exact rfl)) rfl (by simp) rfl)
               | exact hK _ _ _ (SL.Chg.refl _ _) rfl rfl (by simp) rfl)
          | skip
        · refine SLG.ob_sp rfl rfl rfl fun us w' Fe hG hu hd Kx hK => ?_
          try dsimp only
          simp [SL.Used, SL.pu, SL.row, SL.box, SL.rowIn, SL.boxIn, SL.boxAt, SL.boxAtIn, SLF.pq, Act.put, SL.aw_sub, SL.aw_use, SL.aw_eat, SL.aw_V, SL.aw_quiet] at hu
          have hB5 : Below w.heap.size w w' := hB.trans (hG.belowF hB.size (by simp; omega))
          obtain ⟨hc5, hf5⟩ := bcell hB5
          have hs5 := hB5.size
          obtain ⟨hc6, hf6⟩ := hG.cellsF
          refine SLF.wpo_do (SLF.wanted_free rfl) ?hd1 ?_
          case hd1 => intro c h; cases h
          obtain ⟨⟨e24, _⟩, h2⟩ := hu
          obtain ⟨ho', _⟩ := SL.aw_out h2
          have kq := (ho'.cellAt (k * 8) (by omega)).trans HP0.out
          go_step
          exact hK _ _ _ [] (by simp [Act.put]; done) (SL.Chg.refl _ _) ⟨rfl, rfl⟩ (fun j hj => by cases hj)
        · refine SLG.ob_sp rfl rfl rfl fun us w' Fe hG hu hd Kx hK => ?_
          try dsimp only
          simp [SL.Used, SL.pu, SL.row, SL.box, SL.rowIn, SL.boxIn, SL.boxAt, SL.boxAtIn, SLF.pq, Act.put, SL.aw_sub, SL.aw_use, SL.aw_eat, SL.aw_V, SL.aw_quiet] at hu
          have hB5 : Below w.heap.size w w' := hB.trans (hG.belowF hB.size (by simp; omega))
          obtain ⟨hc5, hf5⟩ := bcell hB5
          have hs5 := hB5.size
          obtain ⟨hc6, hf6⟩ := hG.cellsF
          refine SLF.wpo_do (SLF.wanted_free rfl) ?hd1 ?_
          case hd1 => intro c h; cases h
          have hs6 : wr.heap.size ≤ w'.heap.size := hG.size
          go_step
          refine (cloneL _ _ _ _ w' (hPsh _ hG) (by omega)).mono ?_
          rintro e w6 ⟨v, rfl, hb6, ho6⟩
          exact hK _ v w6 _ (by simp [Act.put]; done) (.of_below hb6) ⟨SL.row_base ho6 (by omega), rfl⟩ (fun j hj => .inr (SL.row_bounds ho6 j hj))
        · refine SLG.ob_sp rfl rfl rfl fun us w' Fe hG hu hd Kx hK => ?_
          try dsimp only
          simp [SL.Used, SL.pu, SL.row, SL.box, SL.rowIn, SL.boxIn, SL.boxAt, SL.boxAtIn, SLF.pq, Act.put, SL.aw_sub, SL.aw_use, SL.aw_eat, SL.aw_V, SL.aw_quiet] at hu
          have hB5 : Below w.heap.size w w' := hB.trans (hG.belowF hB.size (by simp; omega))
          obtain ⟨hc5, hf5⟩ := bcell hB5
          have hs5 := hB5.size
          obtain ⟨hc6, hf6⟩ := hG.cellsF
          refine SLF.wpo_do (SLF.wanted_free rfl) ?hd1 ?_
          case hd1 => intro c h; cases h
          obtain ⟨⟨e24, _⟩, h2⟩ := hu
          obtain ⟨ho', _⟩ := SL.aw_out h2
          have kq := (ho'.cellAt (k * 8 + 7) (by omega)).trans HP7.out
          go_step
          exact hK _ _ _ [] (by simp [Act.put]; done) (SL.Chg.refl _ _) ⟨rfl, rfl⟩ (fun j hj => by cases hj)
        · refine SLG.ob_sp rfl rfl rfl fun us w' Fe hG hu hd Kx hK => ?_
          try dsimp only
          simp [SL.Used, SL.pu, SL.row, SL.box, SL.rowIn, SL.boxIn, SL.boxAt, SL.boxAtIn, SLF.pq, Act.put, SL.aw_sub, SL.aw_use, SL.aw_eat, SL.aw_V, SL.aw_quiet] at hu
          have hB5 : Below w.heap.size w w' := hB.trans (hG.belowF hB.size (by simp; omega))
          obtain ⟨hc5, hf5⟩ := bcell hB5
          have hs5 := hB5.size
          obtain ⟨hc6, hf6⟩ := hG.cellsF
          refine SLF.wpo_do (SLF.wanted_free rfl) ?hd1 ?_
          case hd1 => intro c h; cases h
          have hs6 : wr.heap.size ≤ w'.heap.size := hG.size
          go_step
          refine (cloneL _ _ _ _ w' (hPre _ hG) (by omega)).mono ?_
          rintro e w6 ⟨v, rfl, hb6, ho6⟩
          exact hK _ v w6 _ (by simp [Act.put]; done) (.of_below hb6) ⟨SL.row_base ho6 (by omega), rfl⟩ (fun j hj => .inr (SL.row_bounds ho6 j hj))
        · refine SLG.ob_no rfl rfl rfl fun us w' Fe hG hu hd Kx hK => ?_
          try dsimp only
          simp [SL.Used, SL.pu, SL.row, SL.box, SL.rowIn, SL.boxIn, SL.boxAt, SL.boxAtIn, SLF.pq, Act.put, SL.aw_sub, SL.aw_use, SL.aw_eat, SL.aw_V, SL.aw_quiet] at hu
          have hB5 : Below w.heap.size w w' := hB.trans (hG.belowF hB.size (by simp; omega))
          obtain ⟨hc5, hf5⟩ := bcell hB5
          have hs5 := hB5.size
          obtain ⟨hc6, hf6⟩ := hG.cellsF
          refine SLF.wpo_do (SLF.wanted_free rfl) ?hd1 ?_
          case hd1 => intro c h; cases h
          obtain ⟨⟨hoy, e12⟩, ⟨e35, _⟩, h3⟩ := hu
          obtain ⟨ho', e26⟩ := SL.aw_out h3
          have hd1 := hd 12 26 (by simp [SL.aw_use]) (by simp [SL.aw_use]) (by simp)
          rw [e12, e26] at hd1
          obtain ⟨ya, yc, e29, _⟩ := owns_slice hoy
          rw [e29] at hoy hd1 e12
          have n1 : G ∉ (Value.slice ya P.sh.length yc).ownBlock.toList := fun h => hd1 _ h (by simp [Value.ownBlock])
          have kq := (ho'.cellAt (k * 8) (by omega)).trans HP0.out
          have kf := ho'.frozenAt (k * 8)
          go_step
          refine hK _ _ (.setCell _ (by simp [SL.aw_eat, e26, Value.ownBlock]) _) (SL.aw_in ⟨_, _, _, ⟨(ho'.stored (k * 8) _).1, rfl⟩, ⟨SL.row_set hoy n1 _, rfl⟩, fun j h1 h2 => n1 (by simp [Value.ownBlock] at h1; subst h1; exact h2), rfl⟩) ?_
          intro j hj
          left
          simp [SL.aw_eat, e12, e26] at hj ⊢
          grind
        · refine SLG.ob_no rfl rfl rfl fun us w' Fe hG hu hd Kx hK => ?_
          try dsimp only
          simp [SL.Used, SL.pu, SL.row, SL.box, SL.rowIn, SL.boxIn, SL.boxAt, SL.boxAtIn, SLF.pq, Act.put, SL.aw_sub, SL.aw_use, SL.aw_eat, SL.aw_V, SL.aw_quiet] at hu
          have hB5 : Below w.heap.size w w' := hB.trans (hG.belowF hB.size (by simp; omega))
          obtain ⟨hc5, hf5⟩ := bcell hB5
          have hs5 := hB5.size
          obtain ⟨hc6, hf6⟩ := hG.cellsF
          refine SLF.wpo_do (SLF.wanted_free rfl) ?hd1 ?_
          case hd1 => intro c h; cases h
          obtain ⟨⟨hoz, e19⟩, h2, e37, _⟩ := hu
          obtain ⟨y, F1, F2, ⟨ho', rfl⟩, ⟨hoy, rfl⟩, hdj, e22⟩ := SL.aw_out h2
          have hd1 := hd 19 22 (by simp [SL.aw_use]) (by simp [SL.aw_use]) (by simp)
          rw [e19, e22] at hd1
          obtain ⟨za, zc, e33, _⟩ := owns_slice hoz
          rw [e33] at hoz hd1 e19
          obtain ⟨ya, yc, rfl, _⟩ := owns_slice hoy
          have n1 : G ∉ (Value.slice za P.re.length zc).ownBlock.toList := fun h => hd1 _ h (by simp [Value.ownBlock])
          have n2 : G ∉ (Value.slice ya P.sh.length yc).ownBlock.toList := fun h => hdj G (by simp [Value.ownBlock]) h
          have kq : ∃ u, w'.cell? ⟨G, k * 8 + 7, none⟩ = some u := ⟨_, (ho'.cellAt (k * 8 + 7) (by omega)).trans (by rw [List.getElem?_set, if_neg (by omega)]; exact HP7.out)⟩
          obtain ⟨u7, kq⟩ := kq
          have kf := ho'.frozenAt (k * 8 + 7)
          go_step
          refine hK _ _ (.setCell _ (by simp [SL.aw_eat, e22, Value.ownBlock]) _) (SL.aw_in ⟨_, _, _, _, ⟨(ho'.stored (k * 8 + 7) _).1, rfl⟩, ⟨_, _, ⟨SL.row_set hoy n2 _, rfl⟩, ⟨SL.row_set hoz n1 _, rfl⟩, fun j h1 h2 => hd1 j h2 (by simp only [List.mem_append]; exact .inr h1), rfl⟩, fun j hj hj2 => ?_, rfl⟩) ?_
          · simp only [Value.ownBlock, Option.toList, List.mem_singleton] at hj
            subst hj
            rcases List.mem_append.1 hj2 with h | h
            · exact n2 h
            · exact n1 h
          · intro j hj
            left
            simp [SL.aw_eat, e19, e22] at hj ⊢
            grind
      case hck1 => kernel_rfl
      case hkp1 => kernel_rfl
      intro us w5 Fs hG hu hbd hd
      simp [SL.Used, SL.aw_sub] at hu
      obtain ⟨y, z, F1, F2, ⟨hrow5, rfl⟩, ⟨F3, F4, ⟨hoy, rfl⟩, ⟨hoz, rfl⟩, hyz, rfl⟩, hap, _⟩ := SL.aw_out hu
      have hG' : SL.Chg [G] wr w5 := ⟨hG.os, hG.tape, hG.output, hG.size, hG.block⟩
      have hB5 : Below w.heap.size w w5 := hB.trans (hG'.belowW hB.size (by simp; omega))
      have g05 := (hG'.block _ yl (by simp; omega)).trans g0
      have g15 := (hG'.block _ zl1 (by simp; omega)).trans g1
      obtain ⟨ya, yc, rfl, hya⟩ := owns_slice hoy
      obtain ⟨za, zc, rfl, hza⟩ := owns_slice hoz
      have hS5 := Lib.hid (hstep HS.out hlt hG' (sa := ya) (sc := yc) (ra := za) (rc := zc) (by rw [HP.out, Hxs.out]; exact hrow5) (by rw [HP.out]; exact (IntsAt.of_owns hoy (by omega)).lat) (by rw [HP.out]; exact (IntsAt.of_owns hoz (by omega)).lat)
        (fun x hx => ⟨fun e => hap G (by simp [Value.ownBlock]) (List.mem_append.2 (.inl (by simp [Value.ownBlock, hx, e]))), by have := hya x hx; simp; omega⟩)
        (fun x hx => ⟨fun e => hap G (by simp [Value.ownBlock]) (List.mem_append.2 (.inr (by simp [Value.ownBlock, hx, e]))), by have := hza x hx; simp; omega⟩) (fun x hx => (hya x hx).1) (fun x hx => (hza x hx).1))
      clear hu hbd hd hG y0 y1 y2 y3 yf hPsh hPre hstep hrow5 hoy hoz
      go_wp2_with fail
      go_roundw
      case rel => exact ⟨k + 1, by omega, by go_num, hB5, g05, g15, _, hS5.out⟩
      case measure => simp [RowKit.intOf]; omega
    · have hk2 : k = ps.length := by omega
      subst hk2
      obtain ⟨u0, u1, u2, u3, uf, _⟩ := cell4w g1
      have hlen := hS.len
      have hb := SL.row_bounds hS.row
      have hfin : ∀ W, SL.Chg [w.heap.size + 1] wr W → CopyAt W w.heap.size ⟨ware, lim, byr, a, cap, ps⟩ ⟨ware, lim, byr, va, vc, qs⟩ := fun W h => by
        have hr : W.ownsRow (w.heap.size + 1 + 1) 49 8 (.slice va ps.length vc) ps.length (pcs qs) := SL.row_stab hS.row fun k hk => h.block k (hb k hk).2 (by have := hb k hk; simp; omega)
        have hr' := SL.row_base hr (show w.heap.size ≤ w.heap.size + 1 + 1 by omega)
        have hq : ∀ q ∈ qs, PtAt W q := fun q hq => (hS.at_ q hq).chg h (fun x hx hn hm => (hS.off q hq).1 x hx hn (List.mem_append.2 (.inr (by simp at hm; simp [hm])))) (fun x hx hn hm => (hS.off q hq).2 x hx hn (List.mem_append.2 (.inr (by simp at hm; simp [hm]))))
        refine ⟨⟨rfl, rfl, rfl, hlen, fun i hi => hS.same i (by rw [← hlen]; exact hi)⟩, by simp only [hlen]; exact hr', ⟨hware, rfl, by show qs.length ≤ _; omega, RowAt.of_owns (by simp only [hlen]; exact hr'), hq⟩, fun q hq => ⟨fun x hx hn hm => (hS.off q hq).1 x hx hn (List.mem_append.2 (.inl (by simp only [hlen] at hm; exact hm))), fun x hx hn hm => (hS.off q hq).2 x hx hn (List.mem_append.2 (.inl (by simp only [hlen] at hm; exact hm)))⟩, fun q hq => by
          obtain ⟨i, hi, rfl⟩ := List.getElem_of_mem hq
          have hi : i < qs.length := hi
          have := hS.nw i (by omega)
          rw [List.getD_eq_getElem?_getD, List.getElem?_eq_getElem hi] at this
          exact ⟨fun x hx hn => by have := this.1 x hx hn; omega, fun x hx hn => by have := this.2 x hx hn; omega⟩⟩
      have Hfin := Lib.hid hfin
      have HL := Lib.hid hlen
      clear hfin hlen hS hb
      go_wp2_with fail
      refine bodyPost_ret (v := .agg #[.string ware, .int .i64 lim, .int .i64 byr, .slice va ps.length vc]) (by simp [results, Tryz.results70, go_sem, *]) rfl ⟨⟨ware, lim, byr, va, vc, qs⟩, by simp only [Cs.v, HL.out], ?_, Hfin.out _ ?_⟩
      · repeat (refine Below.setCell ?_ (by simp) _)
        exact hB
      · exact SLG.chg_set4 _ (by simp) ..
theorem Cs.Ok.sizes {c : Cs} (h : c.Ok) : c.ps.length ≤ 40 ∧ ∀ p ∈ c.ps, p.sh.length ≤ 40 ∧ p.re.length ≤ 200 :=
  ⟨h.many, fun p hp => ⟨(ptB_small (h.each p hp)).1, (ptB_small (h.each p hp)).2.1⟩⟩
theorem RowAt.pre {w : World} {a : Option Addr} {cap : Nat} {vs ws : List Value} (h : RowAt w a cap (vs ++ ws)) : RowAt w a cap vs := by
  refine ⟨fun ha => ?_, fun x hx => ?_⟩
  · obtain ⟨h1, h2⟩ := h.nil ha
    exact ⟨(List.append_eq_nil_iff.1 h1).1, h2⟩
  · obtain ⟨h1, h2, h3⟩ := h.at_ x hx
    exact ⟨h1, h2, fun i u hi => h3 i u (by rw [List.getElem?_append_left (List.getElem?_eq_some_iff.1 hi).1]; exact hi)⟩
theorem RowAt.of_same {w w' : World} {a : Option Addr} {cap : Nat} {vs : List Value} (h : RowAt w a cap vs) (hs : w.heap.size ≤ w'.heap.size) (hk : ∀ x, a = some x → w'.heap[x.block]? = w.heap[x.block]?) : RowAt w' a cap vs := by
  refine ⟨h.nil, fun x hx => ?_⟩
  obtain ⟨h1, h2, h3⟩ := h.at_ x hx
  exact ⟨h1, Nat.lt_of_lt_of_le h2 hs, fun i u hi => by
    have : w'.cell? ⟨x.block, x.off + i, none⟩ = w.cell? ⟨x.block, x.off + i, none⟩ := World.cell?_of_block (w := w) (hk x hx)
    rw [this]; exact h3 i u hi⟩
/-- 'append(v, x...)', v full. -/
theorem wp_app_full {P : Program} {w : World} {o : Oper} {a : Act} {K : Act → World → Prop} {Q : Exit → Act → World → Prop} {t e : TypeId} {z : Value} {size bytes : Nat} (T : Elem P t e z size bytes)
    (s x : Operand) (ho : o.op = .call { callee := .builtin .append, args := #[s, x], argTypes := #[t, t] })
    {p : Option Addr} {n : Nat} {olds : List Value} (hs : a.eval s = .slice p n n) (hold : RowAt w p n olds) (hlo : olds.length = n * size)
    {sa : Option Addr} {m c : Nat} {news : List Value} (hx : a.eval x = .slice sa m c) (hsrc : RowAt w sa c news) (hl : news.length = m * size)
    (hbig : n + m ≤ maxLen) (hbytes : (n + m) * bytes ≤ 140737488355328)
    (h : ∀ a' c' w', RowAt w' a' c' (olds ++ news) → Below w.heap.size w w' → n + m ≤ c' → ((a' = p ∧ m = 0 ∧ w' = w) ∨ a' = some ⟨w.heap.size, 0, none⟩) → K (a.put o.dst (.slice a' (n + m) c')) w') : o.wp P a w K Q := by
  obtain ⟨i, hi, hz0, hz1, hz2⟩ := T.info
  have hp := T.pos
  rcases Nat.eq_zero_or_pos m with hm | hm
  · subst hm
    have hnew : news = [] := List.eq_nil_of_length_eq_zero (by simpa using hl)
    subst hnew
    have hrun := run_append_zero (P := P) (w := w) t o.type e i T.und hi p n n c sa (Nat.le_refl _)
    unfold Oper.wp
    simp [execOp, ho, resolve, invoke, builtin, hs, hx, hrun, Result.andThen]
    exact h p n w (by simpa using hold) (Below.refl _ _) (by omega) (.inl ⟨rfl, rfl, rfl⟩)
  · have hne : news ≠ [] := fun e => by
      rw [e] at hl
      have := Nat.mul_pos hm hp
      simp at hl
      omega
    obtain ⟨sb, so, rfl, _, hsc⟩ := hsrc.cells hne
    have hA : ∀ G : Nat, n + m ≤ G → ∀ cs : Array Value, cs.toList = olds ++ news ++ (Builtin.zeroCells z.cells (G - (n + m))).toList → RowAt (w.drew.alloc (.cells cs e)) (some ⟨w.heap.size, 0, none⟩) G (olds ++ news) := fun G hG cs hcs => by
      have := RowAt.of_heap (cap := G) (World.alloc_heap_new w.drew (.cells cs e))
      rw [hcs] at this
      exact this.pre
    have hB : ∀ o, Below w.heap.size w (w.drew.alloc o) := fun o => ((Below.refl _ _).drew).alloc (by simp) _
    cases p with
    | none =>
      obtain ⟨h0, hn0⟩ := hold.nil rfl
      subst h0
      subst hn0
      have hbytes : m * bytes ≤ 140737488355328 := by rw [Nat.zero_add] at hbytes; exact hbytes
      have hrun := run_append_nil (P := P) (w := w) t o.type e i z T.und hi hz0 ⟨sb, so, none⟩ m c news (by rw [hz1]; exact hl) (fun j u hj => by rw [add_none]; exact hsc j u hj) hm (by unfold maxLen at hbig; omega) (by rw [hz2]; omega)
      unfold Oper.wp
      simp [execOp, ho, resolve, invoke, builtin, hs, hx, hrun, Result.andThen]
      have := h (some ⟨w.heap.size, 0, none⟩) (grownCap w m 0 e) _ (hA _ (by have := grownCap_ge w m 0 e; omega) (news.toArray ++ Builtin.zeroCells z.cells (grownCap w m 0 e - m)) (by simp)) (hB _) (by have := grownCap_ge w m 0 e; omega) (.inr rfl)
      simp at this
      try simp
      exact this
    | some p =>
      obtain ⟨h1, h2, h3⟩ := hold.at_ p rfl
      obtain ⟨pb, po, ps⟩ := p
      simp only at h1
      subst h1
      have hrun := run_append_grow (P := P) (w := w) t o.type e i z T.und hi hz0 ⟨pb, po, none⟩ n n olds (by rw [hz1]; exact hlo) (fun j u hj => by rw [add_none]; exact h3 j u hj) ⟨sb, so, none⟩ m c news (by rw [hz1]; exact hl) (fun j u hj => by rw [add_none]; exact hsc j u hj) (by omega) (by unfold maxLen at hbig; omega) (by rw [hz2]; exact growslice_fits (by omega) hbytes)
      unfold Oper.wp
      simp only [execOp, ho]
      simp [resolve, invoke, builtin, hs, hx, hrun, Result.andThen]
      have := h (some ⟨w.heap.size, 0, none⟩) (grownCap w (n + m) n e) _ (hA _ (grownCap_ge w (n + m) n e) (olds.toArray ++ news.toArray ++ Builtin.zeroCells z.cells (grownCap w (n + m) n e - (n + m))) (by simp)) (hB _) (grownCap_ge w (n + m) n e) (.inr rfl)
      simp at this
      try simp
      exact this
/-- A row that lies somewhere, and holds its block. -/
abbrev SL.As.lies (a : Option Addr) (cap : Nat) (vs : List Value) : SL.As :=
  { A := fun w F => RowAt w a cap vs ∧ F = (Value.slice a 0 cap).ownBlock.toList,
    st := fun w w' F h hk hs => ⟨h.1.of_same hs (fun x hx => hk _ (by rw [h.2, hx]; simp [Value.ownBlock])), h.2⟩ }
/-- Lists of parts of the same. -/
structure SamePs (qs ps : List Pt) : Prop where
  len : qs.length = ps.length
  each : ∀ i, i < ps.length → SameP (qs.getD i default) (ps.getD i default)
theorem SamePs.erase {qs ps : List Pt} (h : SamePs qs ps) (a : Nat) : SamePs (qs.eraseIdx a) (ps.eraseIdx a) := by
  refine ⟨by rw [List.length_eraseIdx, List.length_eraseIdx, h.len], fun i hi => ?_⟩
  rw [getD_erasePt, getD_erasePt]
  refine h.each _ ?_
  rw [List.length_eraseIdx] at hi
  unfold upI
  split at hi <;> split <;> omega
theorem SamePs.set {qs ps : List Pt} (h : SamePs qs ps) (a : Nat) {p q : Pt} (hpq : SameP p q) (ha : a < ps.length) : SamePs (qs.set a p) (ps.set a q) := by
  refine ⟨by simp [h.len], fun i hi => ?_⟩
  rw [getD_setP (by rw [h.len]; exact ha), getD_setP ha]
  split
  · exact hpq
  · exact h.each i (by simpa using hi)
theorem SameC.ps {c d : Cs} (h : SameC d c) : SamePs d.ps c.ps := ⟨h.len, fun i hi => h.each i (by rw [h.len]; exact hi)⟩
def bellB : List Pt := [⟨none, 0, [101], 10, 20, 1, 2, true, 11, none, 0, []⟩, ⟨none, 0, [102], 15, 30, 3, 4, false, 0, none, 0, []⟩, ⟨none, 0, [103], 25, 40, 5, 6, true, 12, none, 0, []⟩, ⟨none, 0, [104], 12, 14, 7, 8, false, 0, none, 0, []⟩]
def moreB : List Pt := bellB ++ [⟨none, 0, [105], 12, 13, 0, 0, true, 13, none, 0, []⟩]
def bellW : ByteArray := ⟨#[98, 101, 108, 108]⟩
/-- The case L of the examples. -/
structure Bell (c : Cs) : Prop where
  ware : c.ware = bellW
  lim : c.lim = 2
  byr : c.byr = 20
  ps : c.ps.map Pt.bare = bellB
/-- The case M. -/
structure More (c : Cs) : Prop where
  ware : c.ware = bellW
  lim : c.lim = 0
  byr : c.byr = 0
  ps : c.ps.map Pt.bare = moreB
theorem heap6 (w : World) (a b c d e f : Obj) : ((((((w.alloc a).alloc b).alloc c).alloc d).alloc e).alloc f).heap[w.heap.size + 1]? = some b ∧ ((((((w.alloc a).alloc b).alloc c).alloc d).alloc e).alloc f).heap[w.heap.size + 1 + 1]? = some c ∧
    ((((((w.alloc a).alloc b).alloc c).alloc d).alloc e).alloc f).heap[w.heap.size + 1 + 1 + 1]? = some d ∧ ((((((w.alloc a).alloc b).alloc c).alloc d).alloc e).alloc f).heap[w.heap.size + 1 + 1 + 1 + 1]? = some e ∧
    ((((((w.alloc a).alloc b).alloc c).alloc d).alloc e).alloc f).heap[w.heap.size + 1 + 1 + 1 + 1 + 1]? = some f := by
  have h1 := World.alloc_heap_new (w.alloc a) b
  have h2 := World.alloc_heap_new ((w.alloc a).alloc b) c
  have h3 := World.alloc_heap_new (((w.alloc a).alloc b).alloc c) d
  have h4 := World.alloc_heap_new ((((w.alloc a).alloc b).alloc c).alloc d) e
  have h5 := World.alloc_heap_new (((((w.alloc a).alloc b).alloc c).alloc d).alloc e) f
  simp only [World.size_alloc] at h1 h2 h3 h4 h5
  refine ⟨?_, ?_, ?_, ?_, h5⟩
  · rw [heap_allocC _ _ (by simp), heap_allocC _ _ (by simp), heap_allocC _ _ (by simp), heap_allocC _ _ (by simp)]; exact h1
  · rw [heap_allocC _ _ (by simp), heap_allocC _ _ (by simp), heap_allocC _ _ (by simp)]; exact h2
  · rw [heap_allocC _ _ (by simp), heap_allocC _ _ (by simp)]; exact h3
  · rw [heap_allocC _ _ (by simp)]; exact h4
theorem int1 {w : World} {N : Nat} {x : Int} (h : w.heap[N]? = some (.cells #[.int .i64 x] 3 (0, 0))) : IntsAt w (some ⟨N, 0, none⟩) 1 1 [x] := ⟨rfl, by simp, RowAt.of_heap h⟩
theorem lbell (w : World) : Calls Tryz.prog 65 #[] w fun e w' => ∃ c, Bell c ∧ e = .returned (Cs.v c) ∧ Below w.heap.size w w' ∧ CsAt w' c ∧ (∀ p ∈ c.ps, p.from w.heap.size) ∧ ∃ G, c.a = some ⟨G, 0, none⟩ ∧ c.cap = 4 ∧ w.heap.size ≤ G := by
  go_enter Tryz.func65, Tryz.ntmps65
  go_wp2_with fail
  refine bodyPost_ret (v := .agg #[.string ⟨#[98, 101, 108, 108]⟩, .int .i64 2, .int .i64 20, .slice (some ⟨w.heap.size + 1 + 1 + 1 + 1 + 1, 0, none⟩) 4 4]) (by simp [results, Tryz.results65, go_sem, *]) rfl ?_
  obtain ⟨h1, h2, h3, h4, h5⟩ := heap6 w (Obj.cells #[.string ⟨#[98, 101, 108, 108]⟩, .int .i64 2, .int .i64 20, .slice (some ⟨w.heap.size + 1 + 1 + 1 + 1 + 1, 0, none⟩) 4 4] 24) (Obj.cells #[.int .i64 101] 3) (Obj.cells #[.int .i64 102] 3) (Obj.cells #[.int .i64 103] 3) (Obj.cells #[.int .i64 104] 3)
    (Obj.cells #[.slice (some ⟨w.heap.size + 1, 0, none⟩) 1 1, .int .i64 10, .int .i64 20, .int .i64 1, .int .i64 2, .bool true, .int .i64 11, .slice none 0 0, .slice (some ⟨w.heap.size + 1 + 1, 0, none⟩) 1 1, .int .i64 15, .int .i64 30, .int .i64 3, .int .i64 4, .bool false, .int .i64 0, .slice none 0 0,
      .slice (some ⟨w.heap.size + 1 + 1 + 1, 0, none⟩) 1 1, .int .i64 25, .int .i64 40, .int .i64 5, .int .i64 6, .bool true, .int .i64 12, .slice none 0 0, .slice (some ⟨w.heap.size + 1 + 1 + 1 + 1, 0, none⟩) 1 1, .int .i64 12, .int .i64 14, .int .i64 7, .int .i64 8, .bool false, .int .i64 0, .slice none 0 0] 49)
  refine ⟨⟨bellW, 2, 20, some ⟨w.heap.size + 1 + 1 + 1 + 1 + 1, 0, none⟩, 4, [⟨some ⟨w.heap.size + 1, 0, none⟩, 1, [101], 10, 20, 1, 2, true, 11, none, 0, []⟩, ⟨some ⟨w.heap.size + 1 + 1, 0, none⟩, 1, [102], 15, 30, 3, 4, false, 0, none, 0, []⟩, ⟨some ⟨w.heap.size + 1 + 1 + 1, 0, none⟩, 1, [103], 25, 40, 5, 6, true, 12, none, 0, []⟩, ⟨some ⟨w.heap.size + 1 + 1 + 1 + 1, 0, none⟩, 1, [104], 12, 14, 7, 8, false, 0, none, 0, []⟩]⟩,
    ⟨rfl, rfl, rfl, rfl⟩, rfl, ?_, ⟨show bellW.size ≤ maxLen by decide, rfl, by simp, RowAt.of_heap h5, fun p hp => ?_⟩, fun p hp => ?_, _, rfl, rfl, by omega⟩
  · ((repeat (first | assumption | exact Below.refl _ _ | refine Below.alloc ?_ ?_ _ | refine Below.setCell ?_ ?_ _ | refine Below.drew ?_ | refine belowN ?_ | refine Below.up ?_ (by assumption) ?_)) <;> (first | assumption | omega | (simp; done) | (simp; omega)))
  · simp only [List.mem_cons, List.not_mem_nil, or_false] at hp
    rcases hp with rfl | rfl | rfl | rfl
    · exact ⟨(int1 h1).lat, (IntsAt.nilAt _).lat⟩
    · exact ⟨(int1 h2).lat, (IntsAt.nilAt _).lat⟩
    · exact ⟨(int1 h3).lat, (IntsAt.nilAt _).lat⟩
    · exact ⟨(int1 h4).lat, (IntsAt.nilAt _).lat⟩
  · simp only [List.mem_cons, List.not_mem_nil, or_false] at hp
    rcases hp with rfl | rfl | rfl | rfl <;> refine ⟨fun x hx _ => ?_, fun x hx _ => (by cases hx)⟩ <;> (obtain rfl := Option.some.inj hx; simp only; omega)
theorem len4 {l : List Pt} (h : l.length = 4) : ∃ a b c d, l = [a, b, c, d] := by
  match l, h with
  | [a, b, c, d], _ => exact ⟨a, b, c, d, rfl⟩
theorem wpList_app_full {P : Program} {w : World} {ops : Array Oper} {rest : List Oper} {o : Oper} {a : Act} {Q : Exit → Act → World → Prop} {t e : TypeId} {z : Value} {size bytes : Nat} (T : Elem P t e z size bytes)
    (hgd : o.guard = none) (s x : Operand) (ho : o.op = .call { callee := .builtin .append, args := #[s, x], argTypes := #[t, t] })
    {p : Option Addr} {n : Nat} {olds : List Value} (hs : a.eval s = .slice p n n) (hold : RowAt w p n olds) (hlo : olds.length = n * size)
    {sa : Option Addr} {m c : Nat} {news : List Value} (hx : a.eval x = .slice sa m c) (hsrc : RowAt w sa c news) (hl : news.length = m * size)
    (hbig : n + m ≤ maxLen) (hbytes : (n + m) * bytes ≤ 140737488355328)
    (h : ∀ a' c' w', RowAt w' a' c' (olds ++ news) → Below w.heap.size w w' → n + m ≤ c' → ((a' = p ∧ m = 0 ∧ w' = w) ∨ a' = some ⟨w.heap.size, 0, none⟩) → wpList P ops Q rest (a.put o.dst (.slice a' (n + m) c')) w') : wpList P ops Q (o :: rest) a w :=
  wpList_plain hgd fun _ hK => wp_app_full T s x ho hs hold hlo hx hsrc hl hbig hbytes fun a' c' w' k1 k2 k3 k4 => hK _ _ (h a' c' w' k1 k2 k3 k4)
theorem heap_new3 (w : World) (a b c : Obj) : (((w.alloc a).alloc b).alloc c).heap[w.heap.size + 1 + 1]? = some c := by
  have := World.alloc_heap_new ((w.alloc a).alloc b) c
  simpa using this
theorem heap_new1 (w : World) (a b c : Obj) : (((w.alloc a).alloc b).alloc c).heap[w.heap.size]? = some a := by
  rw [heap_allocC _ _ (by simp; omega), heap_allocC _ _ (by simp)]
  exact World.alloc_heap_new w a
theorem heap_old3 (w : World) (a b c : Obj) {k : Nat} (h : k < w.heap.size) : (((w.alloc a).alloc b).alloc c).heap[k]? = w.heap[k]? := by
  rw [heap_allocC _ _ (by simp; omega), heap_allocC _ _ (by simp; omega), heap_allocC _ _ h]
theorem heap_new2 (w : World) (a b c : Obj) : (((w.alloc a).alloc b).alloc c).heap[w.heap.size + 1]? = some b := by
  rw [heap_allocC _ _ (by simp)]
  have := World.alloc_heap_new (w.alloc a) b
  simpa using this
theorem lmore (w : World) : Calls Tryz.prog 66 #[] w fun e w' => ∃ c, More c ∧ e = .returned (Cs.v c) ∧ Below w.heap.size w w' ∧ CsAt w' c := by
  have hb := fun W => lbell W
  go_enter Tryz.func66, Tryz.ntmps66
  go_wp2_with (first
    | (go_at_call 65; (with_reducible refine (hb _).mono ?_); rintro e w1 ⟨⟨cw, cl, cb, ca, cc, cps⟩, hB, rfl, hb1, hc1, hfr, G, ha, hcc, hG⟩; simp only at ha hcc; subst ha hcc; obtain ⟨e1, e2, e3, e4⟩ := hB; simp only at e1 e2 e3; subst e1 e2 e3; obtain ⟨p1, p2, p3, p4, rfl⟩ := len4 (show cps.length = 4 by have h := congrArg List.length e4; simpa [bellB] using h); simp only [Cs.v, List.length_cons, List.length_nil]; have hG2 := (hc1.ps.row.at_ _ rfl).2.1; obtain ⟨hq1, hqf1⟩ := bcell hb1; have hz1 := lt_size hb1 (b := w.heap.size) (by simp); (have hz2 : w.heap.size < w1.heap.size + 1 + 1 + 1 := by omega))
    | (at_builtin; refine wpList_app_full elemP rfl _ _ rfl rfl (hc1.ps.row.below (by ((repeat (first | assumption | exact Below.refl _ _ | refine Below.alloc ?_ ?_ _ | refine Below.setCell ?_ ?_ _ | refine Below.drew ?_ | refine belowN ?_ | refine Below.up ?_ (by assumption) ?_)) <;> (first | assumption | omega | (simp; done) | (simp; omega))))) rfl rfl (RowAt.of_heap (heap_new3 _ _ _ _)) rfl (by unfold maxLen; omega) (by omega) ?_; intro a' c' w4 hr4 hb4 hc4 hat; obtain ⟨y0, y1, y2, y3, yf, yl⟩ := cell4w ((hb4.block w1.heap.size (by simp; omega)).trans (heap_new1 _ _ _ _)); obtain ⟨z0, z1, z2, z3, zf, zl⟩ := cell4w (((hb4.block w.heap.size (by simp; omega)).trans (heap_old3 _ _ _ _ (by omega))).trans ((hb1.block w.heap.size (by simp)).trans (World.alloc_heap_new _ _)))))
  have hat' : a' = some ⟨w1.heap.size + 1 + 1 + 1, 0, none⟩ := by
    rcases hat with ⟨_, h, _⟩ | h
    · simp at h
    · simpa using h
  subst hat'
  have hzz := hb1.size
  simp only [World.size_alloc] at hzz hG
  refine bodyPost_ret (v := .agg #[.string bellW, .int .i64 0, .int .i64 0, .slice (some ⟨w1.heap.size + 1 + 1 + 1, 0, none⟩) 5 c']) (by simp [results, Tryz.results66, go_sem, *]) rfl ?_
  have hB1 : Below w.heap.size w w1 := (one_alloc w _).ch2 hb1
  have hB4 : Below w.heap.size w w4 := (hB1.trans (by ((repeat (first | assumption | exact Below.refl _ _ | refine Below.alloc ?_ ?_ _ | refine Below.setCell ?_ ?_ _ | refine Below.drew ?_ | refine belowN ?_ | refine Below.up ?_ (by assumption) ?_)) <;> (first | assumption | omega | (simp; done) | (simp; omega))))).ch2 hb4 (by first | assumption | omega | (simp; done) | (simp; omega))
  have hch : SL.Chg [w1.heap.size, w.heap.size] w4 (((((w4.setCell ⟨w1.heap.size, 3, none⟩ (.slice (some ⟨w1.heap.size + 1 + 1 + 1, 0, none⟩) 5 c')).setCell ⟨w.heap.size, 0, none⟩ (.string bellW)).setCell ⟨w.heap.size, 1, none⟩ (.int .i64 0)).setCell ⟨w.heap.size, 2, none⟩ (.int .i64 0)).setCell ⟨w.heap.size, 3, none⟩ (.slice (some ⟨w1.heap.size + 1 + 1 + 1, 0, none⟩) 5 c')) :=
    ((((SL.Chg.setCell _ (by simp) _).trans (SL.Chg.setCell _ (by simp) _)).trans (SL.Chg.setCell _ (by simp) _)).trans (SL.Chg.setCell _ (by simp) _)).trans (SL.Chg.setCell _ (by simp) _)
  have hr5 := hr4.chg hch (fun x hx hm => by obtain rfl := Option.some.inj hx; simp at hm; omega)
  have h105 : PtAt w4 ⟨some ⟨w1.heap.size + 1, 0, none⟩, 1, [105], 12, 13, 0, 0, true, 13, none, 0, []⟩ := ⟨(int1 ((hb4.block _ (by first | assumption | omega | (simp; done) | (simp; omega))).trans (heap_new2 _ _ _ _))).lat, (IntsAt.nilAt _).lat⟩
  refine ⟨⟨bellW, 0, 0, some ⟨w1.heap.size + 1 + 1 + 1, 0, none⟩, c', [p1, p2, p3, p4, ⟨some ⟨w1.heap.size + 1, 0, none⟩, 1, [105], 12, 13, 0, 0, true, 13, none, 0, []⟩]⟩, ⟨rfl, rfl, rfl, ?_⟩, rfl, hB4.trans (hch.belowW hB4.size (by simp; omega)), ⟨show bellW.size ≤ maxLen by decide, rfl, by simp, ?_, fun p hp => ?_⟩⟩
  · show [p1.bare, p2.bare, p3.bare, p4.bare] ++ _ = moreB
    unfold moreB
    rw [← e4]
    rfl
  · simpa [pcs, Pt.cs] using hr5
  · have key : ∀ q ∈ [p1, p2, p3, p4], PtAt (((((w4.setCell ⟨w1.heap.size, 3, none⟩ (.slice (some ⟨w1.heap.size + 1 + 1 + 1, 0, none⟩) 5 c')).setCell ⟨w.heap.size, 0, none⟩ (.string bellW)).setCell ⟨w.heap.size, 1, none⟩ (.int .i64 0)).setCell ⟨w.heap.size, 2, none⟩ (.int .i64 0)).setCell ⟨w.heap.size, 3, none⟩ (.slice (some ⟨w1.heap.size + 1 + 1 + 1, 0, none⟩) 5 c')) q := fun q hq => by
      have h1 := hc1.ps.each q hq
      have h2 := hfr q hq
      simp only [World.size_alloc] at h2
      refine ((h1.below (by ((repeat (first | assumption | exact Below.refl _ _ | refine Below.alloc ?_ ?_ _ | refine Below.setCell ?_ ?_ _ | refine Below.drew ?_ | refine belowN ?_ | refine Below.up ?_ (by assumption) ?_)) <;> (first | assumption | omega | (simp; done) | (simp; omega))))).below hb4).chg hch (fun x hx hn hm => ?_) (fun x hx hn hm => ?_)
      · have k1 := h1.blocks.1 x hx hn
        have k2 := h2.1 x hx hn
        simp at hm
        omega
      · have k1 := h1.blocks.2 x hx hn
        have k2 := h2.2 x hx hn
        simp at hm
        omega
    simp only [List.mem_cons, List.not_mem_nil, or_false] at hp
    rcases hp with rfl | rfl | rfl | rfl | rfl
    · exact key _ (by simp)
    · exact key _ (by simp)
    · exact key _ (by simp)
    · exact key _ (by simp)
    · exact h105.chg hch (fun x hx hn hm => by obtain rfl := Option.some.inj hx; simp at hm; omega) (fun x hx hn hm => by cases hx)
def BoolAny (w : World) (e : Ending) (w' : World) : Prop := ∃ b, e = .returned (.bool b) ∧ Below w.heap.size w w'
theorem lfew (c : Cs) (w : World) (hc : CsAt w c) : Calls Tryz.prog 16 #[c.v] w (BoolAny w) := by
  have hP := Lib.hid (show ∀ b w', Below w.heap.size w w' → BoolAny w (.returned (.bool b)) w' from fun b w' h => ⟨b, rfl, h⟩)
  generalize BoolAny w = Post at *
  obtain ⟨ware, lim, byr, a, cap, ps⟩ := c
  have hsm : ps.length ≤ 140737488351232 := hc.ps.small
  simp only [Cs.v] at *
  have hB0 := one_alloc w (Obj.cells #[.string ware, .int .i64 lim, .int .i64 byr, .slice a ps.length cap] 24)
  have hx0 := World.alloc_heap_new w (Obj.cells #[.string ware, .int .i64 lim, .int .i64 byr, .slice a ps.length cap] 24)
  have HP := Lib.hid hP.out
  clear hP
  go_enter Tryz.func16, Tryz.ntmps16
  go_wp2_with fail
  obtain ⟨w1, hw1⟩ : ∃ w1, w1 = w.alloc (Obj.cells #[.string ware, .int .i64 lim, .int .i64 byr, .slice a ps.length cap] 24) := ⟨_, rfl⟩
  rw [← hw1] at hB0 hx0 ⊢
  clear hw1
  go_loopw [3] (fun i wr => ∃ k : Nat, k ≤ ps.length ∧ i = .int .i64 k ∧ wr = w1) (fun i _ => ps.length - (RowKit.intOf i).toNat)
  case atStart => exact ⟨0, Nat.zero_le _, rfl, rfl⟩
  case round =>
    obtain ⟨k, hk, rfl, rfl⟩ := hrel
    have hB := hB0
    obtain ⟨y0, y1, y2, y3, yf, yl⟩ := cell4w hx0
    have hnn : (0 : Int) ≤ k := by omega
    by_cases hlt : k < ps.length
    · have i1 : (k : Int) < (ps.length : Int) := by omega
      by_cases h50 : k < 50
      · have i2 : decide ((k : Int) < 50) = true := by simp; omega
        obtain ⟨b1, o1, rfl, bl1, d0, d1, d2, d3, d4, d5, d6, d7⟩ := (hc.ps.below hB).get hlt
        simp only at d0 d1 d2 d3 d4 d5 d6 d7
        generalize ps.getD k default = p at *
        obtain ⟨m1, hm1⟩ : ∃ b, decide ((60 : Int) < p.sh.length) = b := ⟨_, rfl⟩
        obtain ⟨m2, hm2⟩ : ∃ b, decide ((250 : Int) < p.re.length) = b := ⟨_, rfl⟩
        cases m1 <;> cases m2
        all_goals
          go_wp2_with fail
          first
            | exact HP.out _ _ hB
            | (go_roundw
               case rel => exact ⟨k + 1, by omega, by go_num, by trivial⟩
               case measure => simp [RowKit.intOf]; omega)
      · have i2 : decide ((k : Int) < 50) = false := by simp; omega
        obtain ⟨m1, hm1⟩ : ∃ b, decide ((ware.size : Int) ≤ 100) = b := ⟨_, rfl⟩
        obtain ⟨m2, hm2⟩ : ∃ b, decide ((ps.length : Int) ≤ 12) = b := ⟨_, rfl⟩
        obtain ⟨m3, hm3⟩ : ∃ b, decide ((38 : Int) < ps.length) = b := ⟨_, rfl⟩
        cases m1 <;> cases m2 <;> cases m3
        all_goals
          go_wp2_with fail
          exact HP.out _ _ hB
    · have i1 : ¬ (k : Int) < (ps.length : Int) := by omega
      obtain ⟨m1, hm1⟩ : ∃ b, decide ((ware.size : Int) ≤ 100) = b := ⟨_, rfl⟩
      obtain ⟨m2, hm2⟩ : ∃ b, decide ((ps.length : Int) ≤ 12) = b := ⟨_, rfl⟩
      obtain ⟨m3, hm3⟩ : ∃ b, decide ((38 : Int) < ps.length) = b := ⟨_, rfl⟩
      cases m1 <;> cases m2 <;> cases m3
      all_goals
        go_wp2_with fail
        exact HP.out _ _ hB
theorem lsmall (c : Cs) (m : Int) (w : World) (hc : CsAt w c) : Calls Tryz.prog 27 #[c.v, .int .i64 m] w fun e w' => ∃ b, e = .returned (.bool b) ∧ Below w.heap.size w w' ∧ (b = true → (c.ps.length : Int) ≤ m) := by
  have hF := fun W (h : CsAt W c) => lfew c W h
  unfold BoolAny at hF
  have hP := Lib.hid (show ∀ b w', Below w.heap.size w w' → (b = true → (c.ps.length : Int) ≤ m) → (fun (e : Ending) (w' : World) => ∃ b, e = .returned (.bool b) ∧ Below w.heap.size w w' ∧ (b = true → (c.ps.length : Int) ≤ m)) (.returned (.bool b)) w' from fun b w' h h2 => ⟨b, rfl, h, h2⟩)
  obtain ⟨P, hP2⟩ : ∃ P : Ending → World → Prop, P = fun e w' => ∃ b, e = .returned (.bool b) ∧ Below w.heap.size w w' ∧ (b = true → (c.ps.length : Int) ≤ m) := ⟨_, rfl⟩
  rw [← hP2] at hP ⊢
  have HP := Lib.hid hP.out
  clear hP hP2
  obtain ⟨ware, lim, byr, a, cap, ps⟩ := c
  simp only [Cs.v] at *
  have hB0 := one_alloc w (Obj.cells #[.string ware, .int .i64 lim, .int .i64 byr, .slice a ps.length cap] 24)
  go_enter Tryz.func27, Tryz.ntmps27
  go_wp2_with (go_at_call 16; (with_reducible refine (hF _ (hc.below hB0)).mono ?_); rintro e w1 ⟨b, rfl, hb1⟩; obtain ⟨hc1, hf1⟩ := bcell hb1; have hz1 := lt_size hb1 (b := w.heap.size) (by first | assumption | omega | (simp; done) | (simp; omega)); cases b)
  · exact HP.out false _ (hB0.ch2 hb1) (fun h => by cases h)
  · exact HP.out (decide ((ps.length : Int) ≤ m)) _ (hB0.ch2 hb1) (fun h => by simpa using h)
end Go.Proofs.YtodkbfbbpfghiaaGreat
