/-
  Lemmas and walks for the laws on roads and boards: what each function of the program answers, for every input.
-/
import Derived.Test.YtodkbfbbpfghiaaGreatPc13
import Derived.Test.YtodkbfbbpfghiaaGreatPc07
set_option linter.unusedSimpArgs false
set_option linter.unusedVariables false
set_option linter.unnecessarySimpa false
namespace Go.Proofs.YtodkbfbbpfghiaaGreat
open Go.RowKit Go.Shelf
set_option maxHeartbeats 40000000
set_option maxRecDepth 100000
theorem lss2 {w : World} {N : Nat} {x y : Ls} (h : w.heap[N]? = some (.cells #[x.v, y.v] 34 (0, 0))) (hx : LAt w x.a x.l.length x.cap x.l) (hy : LAt w y.a y.l.length y.cap y.l) : LsgAt w (some ⟨N, 0, none⟩) 2 2 [x, y] :=
  ⟨rfl, by simp, RowAt.of_heap h, fun z hz => by
    simp at hz
    rcases hz with rfl | rfl
    · exact hx
    · exact hy⟩
theorem wglued (p q : Pt) (w : World) (hp : PtAt w p) (hq : PtAt w q) (h1 : p.sh.length ≤ 1000 ∧ q.sh.length ≤ 1000) (h2 : p.re.length ≤ 1000 ∧ q.re.length ≤ 1000) (hf : (if q.ft then q.fby else p.fby) = max p.fby q.fby) :
    Calls Tryz.prog 69 #[p.v, q.v] w (MergedPost w p q) := by
  obtain ⟨sa, sc, sh, lo, hi, lob, hib, ft, fby, ra, rc, re⟩ := p
  obtain ⟨sa2, sc2, sh2, lo2, hi2, lob2, hib2, ft2, fby2, ra2, rc2, re2⟩ := q
  obtain ⟨hp1, hp2⟩ := hp
  obtain ⟨hq1, hq2⟩ := hq
  simp only at hp1 hp2 hq1 hq2 h1 h2 hf
  obtain ⟨h1a, h1b⟩ := h1
  obtain ⟨h2a, h2b⟩ := h2
  simp only [Pt.v]
  have HM := Lib.hid hf
  clear hf
  have hU1 := fun w1 N hbl h k => wsorted (some ⟨N, 0, none⟩) 2 2 [⟨sa, sc, sh⟩, ⟨sa2, sc2, sh2⟩] w1 (lss2 hbl h k) (by simp) (by simp; omega)
  have hU2 := fun w1 N hbl h k => wsorted (some ⟨N, 0, none⟩) 2 2 [⟨ra, rc, re⟩, ⟨ra2, rc2, re2⟩] w1 (lss2 hbl h k) (by simp) (by simp; omega)
  simp only [List.flatMap_cons, List.flatMap_nil, List.append_nil, Ls.v] at hU1 hU2
  obtain ⟨S, hS⟩ : ∃ S, ascOf (sh ++ sh2) = S := ⟨_, rfl⟩
  obtain ⟨R, hR⟩ : ∃ R, ascOf (re ++ re2) = R := ⟨_, rfl⟩
  rw [hS] at hU1
  rw [hR] at hU2
  have HS := Lib.hid hS
  have HR := Lib.hid hR
  clear hS hR
  go_enter Tryz.func69, Tryz.ntmps69
  go_wp2_with fail
  obtain ⟨w3, hw3⟩ : ∃ w3, w3 = ((w.alloc (Obj.cells #[.slice sa sh.length sc, .int .i64 lo, .int .i64 hi, .int .i64 lob, .int .i64 hib, .bool ft, .int .i64 fby, .slice ra re.length rc] 49)).alloc (Obj.cells #[.slice sa2 sh2.length sc2, .int .i64 lo2, .int .i64 hi2, .int .i64 lob2, .int .i64 hib2, .bool ft2, .int .i64 fby2, .slice ra2 re2.length rc2] 49)).alloc (Obj.cells #[.slice none 0 0, .int .i64 0, .int .i64 0, .int .i64 0, .int .i64 0, .bool false, .int .i64 0, .slice none 0 0] 49) := ⟨_, rfl⟩
  rw [← hw3]
  have hB3 : Below w.heap.size w w3 := by rw [hw3]; ((repeat (first | assumption | exact Below.refl _ _ | refine Below.alloc ?_ ?_ _ | refine Below.setCell ?_ ?_ _ | refine Below.drew ?_ | refine belowN ?_ | refine Below.up ?_ (by assumption) ?_)) <;> (first | assumption | omega | (simp; done) | (simp; omega)))
  have hwz := hB3.size
  have z0 : w.heap.size < w3.heap.size := by rw [hw3]; simp; omega
  have z1 : w.heap.size + 1 < w3.heap.size := by rw [hw3]; simp
  have z2 : w.heap.size + 1 + 1 < w3.heap.size := by rw [hw3]; simp
  obtain ⟨p0, p1, p2, p3, p4, p5, p6, p7⟩ : w3.cell? ⟨w.heap.size, 0, none⟩ = some (.slice sa sh.length sc) ∧ w3.cell? ⟨w.heap.size, 1, none⟩ = some (.int .i64 lo) ∧ w3.cell? ⟨w.heap.size, 2, none⟩ = some (.int .i64 hi) ∧ w3.cell? ⟨w.heap.size, 3, none⟩ = some (.int .i64 lob) ∧ w3.cell? ⟨w.heap.size, 4, none⟩ = some (.int .i64 hib) ∧ w3.cell? ⟨w.heap.size, 5, none⟩ = some (.bool ft) ∧ w3.cell? ⟨w.heap.size, 6, none⟩ = some (.int .i64 fby) ∧ w3.cell? ⟨w.heap.size, 7, none⟩ = some (.slice ra re.length rc) := by
    rw [hw3]; simp [go_sem]
  obtain ⟨q0, q1, q2, q3, q4, q5, q6, q7⟩ : w3.cell? ⟨w.heap.size + 1, 0, none⟩ = some (.slice sa2 sh2.length sc2) ∧ w3.cell? ⟨w.heap.size + 1, 1, none⟩ = some (.int .i64 lo2) ∧ w3.cell? ⟨w.heap.size + 1, 2, none⟩ = some (.int .i64 hi2) ∧ w3.cell? ⟨w.heap.size + 1, 3, none⟩ = some (.int .i64 lob2) ∧ w3.cell? ⟨w.heap.size + 1, 4, none⟩ = some (.int .i64 hib2) ∧ w3.cell? ⟨w.heap.size + 1, 5, none⟩ = some (.bool ft2) ∧ w3.cell? ⟨w.heap.size + 1, 6, none⟩ = some (.int .i64 fby2) ∧ w3.cell? ⟨w.heap.size + 1, 7, none⟩ = some (.slice ra2 re2.length rc2) := by
    rw [hw3]; simp [go_sem]
  obtain ⟨s0, s1, s2, s3, s4, s5, s6, s7⟩ : w3.cell? ⟨w.heap.size + 1 + 1, 0, none⟩ = some (.slice none 0 0) ∧ w3.cell? ⟨w.heap.size + 1 + 1, 1, none⟩ = some (.int .i64 0) ∧ w3.cell? ⟨w.heap.size + 1 + 1, 2, none⟩ = some (.int .i64 0) ∧ w3.cell? ⟨w.heap.size + 1 + 1, 3, none⟩ = some (.int .i64 0) ∧ w3.cell? ⟨w.heap.size + 1 + 1, 4, none⟩ = some (.int .i64 0) ∧ w3.cell? ⟨w.heap.size + 1 + 1, 5, none⟩ = some (.bool false) ∧ w3.cell? ⟨w.heap.size + 1 + 1, 6, none⟩ = some (.int .i64 0) ∧ w3.cell? ⟨w.heap.size + 1 + 1, 7, none⟩ = some (.slice none 0 0) := by
    rw [hw3]; simp [go_sem]
  have f2 : ∀ i, w3.frozen? ⟨w.heap.size + 1 + 1, i, none⟩ = false := by rw [hw3]; intro i; simp [go_sem]
  have hp1' := hp1.below hB3
  have hp2' := hp2.below hB3
  have hq1' := hq1.below hB3
  have hq2' := hq2.below hB3
  clear hw3 hp1 hp2 hq1 hq2
  cases ft
  · apply SLG.rule0 ?hm1 [] [6, 7, 8, 9, 10, 11, 12, 13, 14, 15, 16, 17, 18, 19, 20, 21, 22, 23, 24, 25, 26, 27, 28, 5] [SLF.pq 6 [] _, SLF.pq 7 [0] _, SLF.pq 8 [] _, SLF.pq 9 [2] _, SL.aw 10 [1, 3] [] (fun x => .ex fun N : Nat => .sep (.pure (x = .slice (some ⟨N, 0, none⟩) 2 2)) (.blk w3.heap.size N 34 #[.slice sa sh.length sc, .slice sa2 sh2.length sc2])), SL.row 11 [4] [] w3.heap.size 3 1 S.length (S.map (.int .i64)), SLF.pq 12 [] _, SLF.pq 13 [6] _, SLF.pq 14 [] _, SLF.pq 15 [8] _, SLF.pq 16 [9] _, SLF.pq 17 [10] _, SLF.pq 18 [10, 11] _, SLF.pq 19 [10, 12] _, SLF.pq 20 [] _, SLF.pq 21 [14] _, SLF.pq 22 [] _, SLF.pq 23 [16] _, SLF.pq 24 [] _, SLF.pq 25 [18] _, SL.aw 26 [17, 19] [] (fun x => .ex fun N : Nat => .sep (.pure (x = .slice (some ⟨N, 0, none⟩) 2 2)) (.blk w3.heap.size N 34 #[.slice ra re.length rc, .slice ra2 re2.length rc2])), SL.row 27 [20] [] w3.heap.size 3 1 R.length (R.map (.int .i64)), SL.rows2 28 [5, 7, 13, 15, 21] [5, 21] w3.heap.size 3 S.length (S.map (.int .i64)) R.length (R.map (.int .i64)) (fun y z => .agg #[y, .int .i64 lo, .int .i64 hi, .int .i64 lob, .int .i64 hib, .bool ft2, .int .i64 fby, z]), SL.box 5 [] [] w3.heap.size 49 #[.slice none 0 0, .int .i64 0, .int .i64 0, .int .i64 0, .int .i64 0, .bool false, .int .i64 0, .slice none 0 0], SL.boxRows2 5 [22, 23] [22, 23] w3.heap.size 49 3 S.length (S.map (.int .i64)) R.length (R.map (.int .i64)) (fun y z => #[y, .int .i64 lo, .int .i64 hi, .int .i64 lob, .int .i64 hib, .bool ft2, .int .i64 fby, z])] [24] ?hck1 ?hkp1 (fun _ => []) ?hin1 ?hdj1 ?hfr1 ?ob1 ?en1
    case hm1 => kernel_rfl
    case hin1 => exact SL.none_held rfl
    case hdj1 => simp
    case hfr1 => intro us; simp only [SL.frame, SL.put']; simp; exact rfl
    case ob1 =>
      refine ⟨?_, ?_, ?_, ?_, ?_, ?_, ?_, ?_, ?_, ?_, ?_, ?_, ?_, ?_, ?_, ?_, ?_, ?_, ?_, ?_, ?_, ?_, ?_, ?_, ?_, trivial⟩
      all_goals first
        | (intro us w' Fe hG hu hd hv Kx hK
           try dsimp only
           simp [SL.Used, SL.pu, SL.row, SL.box, SL.rowIn, SL.boxIn, SL.boxAt, SL.boxAtIn, SLF.pq, Act.put, SL.aw_sub, SL.aw_use, SL.aw_eat, SL.aw_V, SL.aw_quiet, SL.rows2, SL.boxRows2] at hu hK
           have hB5 : Below w3.heap.size w3 w' := hG.below'
           obtain ⟨hc5, hf5⟩ := bcell hB5
           have hs5 := hB5.size
           clear hv hG
           first
             | (refine SLF.wpo_do (SLF.wanted_free rfl) ?hd1 ?_; (case hd1 => intro c h; cases h))
             | (refine SLF.wpo_do (SLF.wanted_by rfl rfl ?hv1) ?hd1 ?_; (case hv1 => simp [hu]; done); (case hd1 => intro c h; cases h))
             | (refine' SLF.wpo_not (SLG.wanted_not rfl rfl ?hv1 ?hn1) ?_; (case hv1 => simp [hu]; exact rfl); (case hn1 => first | (simp; done) | (simp [undef]; done)))
           clear hd
           first
             | (go_step; exact hK _ _ _ (SL.Chg.refl _ _) (by first | exact rfl | (simp only [hu]; exact rfl)) rfl (by simp) rfl)
             | exact hK _ _ _ (SL.Chg.refl _ _) rfl rfl (by simp) rfl)
        | skip
      · refine SLG.ob_sp rfl rfl rfl fun us w' Fe hG hu hd Kx hK => ?_
        try dsimp only
        simp [SL.Used, SL.pu, SL.row, SL.box, SL.rowIn, SL.boxIn, SL.boxAt, SL.boxAtIn, SLF.pq, Act.put, SL.aw_sub, SL.aw_use, SL.aw_eat, SL.aw_V, SL.aw_quiet, SL.rows2, SL.boxRows2] at hu
        have hB5 : Below w3.heap.size w3 w' := hG.below'
        obtain ⟨hc5, hf5⟩ := bcell hB5
        have hs5 := hB5.size
        refine SLF.wpo_do (SLF.wanted_free rfl) ?hd1 ?_
        case hd1 => intro c h; cases h
        obtain ⟨⟨e7, _⟩, e9, _⟩ := hu
        go_step
        exact hK _ _ _ _ (by simp [Act.put]; done) (.alloc _ _ _) (SL.aw_in ⟨w'.heap.size, _, _, ⟨rfl, rfl⟩, ⟨hs5, World.alloc_heap_new _ _, rfl⟩, rfl⟩) (fun j hj => .inr (by simp at hj; subst hj; simp))
      · refine SLG.ob_sp rfl rfl rfl fun us w' Fe hG hu hd Kx hK => ?_
        try dsimp only
        simp [SL.Used, SL.pu, SL.row, SL.box, SL.rowIn, SL.boxIn, SL.boxAt, SL.boxAtIn, SLF.pq, Act.put, SL.aw_sub, SL.aw_use, SL.aw_eat, SL.aw_V, SL.aw_quiet, SL.rows2, SL.boxRows2] at hu
        have hB5 : Below w3.heap.size w3 w' := hG.below'
        obtain ⟨hc5, hf5⟩ := bcell hB5
        have hs5 := hB5.size
        refine SLF.wpo_do (SLF.wanted_free rfl) ?hd1 ?_
        case hd1 => intro c h; cases h
        obtain ⟨N, F1, F2, ⟨hx, rfl⟩, ⟨hN, hbl, rfl⟩, hF⟩ := SL.aw_out hu
        go_step
        refine (hU1 w' N hbl (hp1'.below hB5) (hq1'.below hB5)).mono ?_
        rintro e w6 ⟨v, rfl, hb6, ho6⟩
        exact hK _ v w6 _ (by simp [Act.put]; done) (.of_below hb6) ⟨SL.row_base ho6 hs5, rfl⟩ (fun k hk => .inr (SL.row_bounds ho6 k hk))
      · refine SLG.ob_sp rfl rfl rfl fun us w' Fe hG hu hd Kx hK => ?_
        try dsimp only
        simp [SL.Used, SL.pu, SL.row, SL.box, SL.rowIn, SL.boxIn, SL.boxAt, SL.boxAtIn, SLF.pq, Act.put, SL.aw_sub, SL.aw_use, SL.aw_eat, SL.aw_V, SL.aw_quiet, SL.rows2, SL.boxRows2] at hu
        have hB5 : Below w3.heap.size w3 w' := hG.below'
        obtain ⟨hc5, hf5⟩ := bcell hB5
        have hs5 := hB5.size
        refine SLF.wpo_do (SLF.wanted_free rfl) ?hd1 ?_
        case hd1 => intro c h; cases h
        obtain ⟨⟨e7, _⟩, e9, _⟩ := hu
        go_step
        exact hK _ _ _ _ (by simp [Act.put]; done) (.alloc _ _ _) (SL.aw_in ⟨w'.heap.size, _, _, ⟨rfl, rfl⟩, ⟨hs5, World.alloc_heap_new _ _, rfl⟩, rfl⟩) (fun j hj => .inr (by simp at hj; subst hj; simp))
      · refine SLG.ob_sp rfl rfl rfl fun us w' Fe hG hu hd Kx hK => ?_
        try dsimp only
        simp [SL.Used, SL.pu, SL.row, SL.box, SL.rowIn, SL.boxIn, SL.boxAt, SL.boxAtIn, SLF.pq, Act.put, SL.aw_sub, SL.aw_use, SL.aw_eat, SL.aw_V, SL.aw_quiet, SL.rows2, SL.boxRows2] at hu
        have hB5 : Below w3.heap.size w3 w' := hG.below'
        obtain ⟨hc5, hf5⟩ := bcell hB5
        have hs5 := hB5.size
        refine SLF.wpo_do (SLF.wanted_free rfl) ?hd1 ?_
        case hd1 => intro c h; cases h
        obtain ⟨N, F1, F2, ⟨hx, rfl⟩, ⟨hN, hbl, rfl⟩, hF⟩ := SL.aw_out hu
        go_step
        refine (hU2 w' N hbl (hp2'.below hB5) (hq2'.below hB5)).mono ?_
        rintro e w6 ⟨v, rfl, hb6, ho6⟩
        exact hK _ v w6 _ (by simp [Act.put]; done) (.of_below hb6) ⟨SL.row_base ho6 hs5, rfl⟩ (fun k hk => .inr (SL.row_bounds ho6 k hk))
      · refine SLG.ob_sp rfl rfl rfl fun us w' Fe hG hu hd Kx hK => ?_
        try dsimp only
        simp [SL.Used, SL.pu, SL.row, SL.box, SL.rowIn, SL.boxIn, SL.boxAt, SL.boxAtIn, SLF.pq, Act.put, SL.aw_sub, SL.aw_use, SL.aw_eat, SL.aw_V, SL.aw_quiet, SL.rows2, SL.boxRows2] at hu
        have hB5 : Below w3.heap.size w3 w' := hG.below'
        obtain ⟨hc5, hf5⟩ := bcell hB5
        have hs5 := hB5.size
        refine SLF.wpo_do (SLF.wanted_free rfl) ?hd1 ?_
        case hd1 => intro c h; cases h
        obtain ⟨⟨ho1, e1⟩, ⟨e3, _⟩, ⟨e4, _⟩, ⟨e5, _⟩, ho2, e2⟩ := hu
        obtain ⟨sa1, sc1, e6, _⟩ := owns_slice ho1
        obtain ⟨ra1, rc1, e7, _⟩ := owns_slice ho2
        rw [e6] at ho1 e1
        rw [e7] at ho2 e2
        go_step
        refine hK _ _ _ _ (by simp [Act.put]; done) (SL.Chg.refl _ _) ⟨_, _, rfl, ho1, ho2, rfl⟩ ?_
        intro k hk
        left
        simpa [SL.rows2, e1, e2] using hk
      · refine SLG.ob_sp rfl rfl rfl fun us w' Fe hG hu hd Kx hK => ?_
        try dsimp only
        simp [SL.Used, SL.pu, SL.row, SL.box, SL.rowIn, SL.boxIn, SL.boxAt, SL.boxAtIn, SLF.pq, Act.put, SL.aw_sub, SL.aw_use, SL.aw_eat, SL.aw_V, SL.aw_quiet, SL.rows2, SL.boxRows2] at hu
        have hB5 : Below w3.heap.size w3 w' := hG.below'
        obtain ⟨hc5, hf5⟩ := bcell hB5
        have hs5 := hB5.size
        refine SLF.wpo_do (SLF.wanted_free rfl) ?hd1 ?_
        case hd1 => intro c h; cases h
        go_step
        exact hK _ _ _ _ (by simp [Act.put]; done) (.alloc _ _ _) ⟨_, rfl, hs5, World.alloc_heap_new _ _, rfl⟩ (by simp)
      · refine SLG.ob_no rfl rfl rfl fun us w' Fe hG hu hd Kx hK => ?_
        try dsimp only
        simp [SL.Used, SL.pu, SL.row, SL.box, SL.rowIn, SL.boxIn, SL.boxAt, SL.boxAtIn, SLF.pq, Act.put, SL.aw_sub, SL.aw_use, SL.aw_eat, SL.aw_V, SL.aw_quiet, SL.rows2, SL.boxRows2] at hu
        have hB5 : Below w3.heap.size w3 w' := hG.below'
        obtain ⟨hc5, hf5⟩ := bcell hB5
        have hs5 := hB5.size
        refine SLF.wpo_do (SLF.wanted_free rfl) ?hd1 ?_
        case hd1 => intro c h; cases h
        obtain ⟨⟨y, z, u1, u2, u3, u4⟩, N, u5, u6, u7, u8⟩ := hu
        have hd1 := hd 22 23 (by simp [SL.boxRows2]) (by simp [SL.boxRows2]) (by simp)
        rw [u4, u8] at hd1
        have n1 : N ∉ y.ownBlock.toList := fun h => hd1 N (by simp only [List.mem_append]; exact .inl h) (by simp)
        have n2 : N ∉ z.ownBlock.toList := fun h => hd1 N (by simp only [List.mem_append]; exact .inr h) (by simp)
        obtain ⟨sa1, sc1, rfl, _⟩ := owns_slice u2
        obtain ⟨ra1, rc1, rfl, _⟩ := owns_slice u3
        obtain ⟨y0, y1, y2, y3, y4, y5, y6, y7, yf, yl⟩ := cell8w u7
        clear hd1
        go_step
        refine hK _ _ (SLG.chg_set8 _ (by simp [SL.boxRows2, u8]) ..) ⟨N, _, _, u5, u6, SLG.heap_set8 u7 .., ⟨fun h => n1 (by simpa using h), fun h => n2 (by simpa using h)⟩, SLG.row_set8 u2 n1 .., SLG.row_set8 u3 n2 .., rfl⟩ ?_
        · intro k hk
          left
          simp [SL.boxRows2, u4, u8] at hk ⊢
          grind
    case hck1 => kernel_rfl
    case hkp1 => kernel_rfl
    intro us w5 Fs hG hu hbd hd
    simp [SL.Used, SL.boxRows2] at hu
    obtain ⟨N, u5, u6, y, z, u7, ⟨m1, m2⟩, ho1, ho2, _⟩ := hu
    have hB5 : Below w3.heap.size w3 w5 := hG.below'
    obtain ⟨y0, y1, y2, y3, y4, y5, y6, y7, yf, yl⟩ := cell8w u7
    have hcc := (bcell hB5).1
    rw [← hcc _ _ z0] at p1 p2
    rw [← hcc _ _ z1] at q1 q2 q3 q4 q5 q6
    rw [← hcc _ _ z2] at s0 s1 s2 s3 s4 s5 s6 s7
    have f3 : ∀ i, w5.frozen? ⟨w.heap.size + 1 + 1, i, none⟩ = false := fun i => by rw [(bcell hB5).2 _ _ z2]; exact f2 i
    obtain ⟨sa3, sc3, rfl, _⟩ := owns_slice ho1
    obtain ⟨ra3, rc3, rfl, _⟩ := owns_slice ho2
    have l1 : (⟨N, 0, none⟩ : Addr).block ∉ (Value.slice sa3 S.length sc3).ownBlock.toList := fun h => m1 (by simpa using h)
    have l2 : (⟨N, 0, none⟩ : Addr).block ∉ (Value.slice ra3 R.length rc3).ownBlock.toList := fun h => m2 (by simpa using h)
    have l3 : (⟨w.heap.size + 1 + 1, 0, none⟩ : Addr).block ∉ (Value.slice sa3 S.length sc3).ownBlock.toList := fun h => by have := SL.row_bounds ho1 _ h; simp at this; omega
    have l4 : (⟨w.heap.size + 1 + 1, 0, none⟩ : Addr).block ∉ (Value.slice ra3 R.length rc3).ownBlock.toList := fun h => by have := SL.row_bounds ho2 _ h; simp at this; omega
    have ho1 := SL.row_base ho1 hwz
    have ho2 := SL.row_base ho2 hwz
    have L1 := Lib.hid l1
    have L2 := Lib.hid l2
    have L3 := Lib.hid l3
    have L4 := Lib.hid l4
    clear l1 l2 l3 l4 m1 m2
    have hBB := hB3.ch2 hB5
    have k0 := Nat.lt_of_lt_of_le z0 hB5.size
    have k1 := Nat.lt_of_lt_of_le z1 hB5.size
    have k2 := Nat.lt_of_lt_of_le z2 hB5.size
    clear hcc hbd hd hG p0 p3 p4 p5 p6 p7 q0 q7 f2
    have nN0 : w.heap.size ≠ N := by omega
    have nN1 : w.heap.size + 1 ≠ N := by omega
    have nN2 : w.heap.size + 1 + 1 ≠ N := by omega
    have mN0 : N ≠ w.heap.size := by omega
    have mN1 : N ≠ w.heap.size + 1 := by omega
    have mN2 : N ≠ w.heap.size + 1 + 1 := by omega
    have hwN : w.heap.size ≤ N := by omega
    simp only [u5]
    clear u5 u6 z0 z1 z2 hB5 y0 y1 y2 y3 y4 y5 y6 y7 yf
    by_cases a1 : lo < lo2
    · have b1 : decide (lo < lo2) = true := by simpa using a1
      have A1 := Lib.hid a1
      go_wp2_with fail
      apply SLG.rule0 ?hm2 [N] [36, 37, 38, 39, 40, 41, 42, 43, 44, 45] [SLF.pq 36 [] _, SLF.pq 37 [0] _, SLF.pq 38 [1] _, SLF.pq 39 [] _, SLF.pq 40 [3] _, SLF.pq 41 [4] _, SLF.pq 42 [] _, SLF.pq 43 [6] _, SL.aw 0 [2, 7, 12] [12] (fun _ => .blk 0 N 49 #[.slice sa3 S.length sc3, .int .i64 lo2, .int .i64 hi, .int .i64 lob, .int .i64 hib, .bool ft2, .int .i64 fby, .slice ra3 R.length rc3]), SLF.pq 44 [] _, SLF.pq 45 [9] _, SL.aw 0 [5, 8, 10] [8] (fun _ => .blk 0 N 49 #[.slice sa3 S.length sc3, .int .i64 lo2, .int .i64 hi, .int .i64 lob2, .int .i64 hib, .bool ft2, .int .i64 fby, .slice ra3 R.length rc3]), SL.blk [] [] N 49 #[.slice sa3 S.length sc3, .int .i64 lo, .int .i64 hi, .int .i64 lob, .int .i64 hib, .bool ft2, .int .i64 fby, .slice ra3 R.length rc3]] [11] ?hck2 ?hkp2 (fun i => if i = 12 then [N] else []) ?hin2 ?hdj2 ?hfr2 ?ob2 ?en2
      case hm2 => kernel_rfl
      case hin2 => exact SL.one_held rfl rfl ⟨u7, rfl⟩ yl
      case hdj2 => exact SL.one_apart
      case hfr2 => intro us; simp only [SL.frame, SL.put']; simp; exact rfl
      case ob2 =>
        refine ⟨?_, ?_, ?_, ?_, ?_, ?_, ?_, ?_, ?_, ?_, ?_, ?_, trivial⟩
        all_goals first
          | (intro us w' Fe hG hu hd hv Kx hK
             try dsimp only
             simp [SL.Used, SL.pu, SL.row, SL.box, SL.rowIn, SL.boxIn, SL.boxAt, SL.boxAtIn, SLF.pq, Act.put, SL.aw_sub, SL.aw_use, SL.aw_eat, SL.aw_V, SL.aw_quiet, SL.blk] at hu hK
             have hB5 : Below w.heap.size w w' := hBB.trans (hG.belowF hBB.size (by simp; omega))
             obtain ⟨hc5, hf5⟩ := bcell hB5
             have hs5 := hB5.size
             obtain ⟨hc6, hf6⟩ := hG.cellsF
             clear hv
             refine SLF.wpo_do (SLF.wanted_free rfl) ?hd2 ?_
             case hd2 => intro c h; cases h
             clear hd
             first
               | (go_step; exact hK _ _ _ (SL.Chg.refl _ _) (by first | exact rfl | (simp only [hu]; exact rfl)) rfl (by simp) rfl)
               | exact hK _ _ _ (SL.Chg.refl _ _) rfl rfl (by simp) rfl)
          | skip
        · refine SLG.ob_no rfl rfl rfl fun us w' Fe hG hu hd Kx hK => ?_
          try dsimp only
          simp [SL.Used, SL.pu, SL.row, SL.box, SL.rowIn, SL.boxIn, SL.boxAt, SL.boxAtIn, SLF.pq, Act.put, SL.aw_sub, SL.aw_use, SL.aw_eat, SL.aw_V, SL.aw_quiet, SL.blk] at hu
          have hB5 : Below w.heap.size w w' := hBB.trans (hG.belowF hBB.size (by simp; omega))
          obtain ⟨hc5, hf5⟩ := bcell hB5
          have hs5 := hB5.size
          obtain ⟨hc6, hf6⟩ := hG.cellsF
          refine SLF.wpo_do (SLF.wanted_free rfl) ?hd2 ?_
          case hd2 => intro c h; cases h
          obtain ⟨⟨e1, _⟩, ⟨e2, _⟩, hb', e5⟩ := hu
          obtain ⟨y0, y1, y2, y3, y4, y5, y6, y7, yf, _⟩ := cell8w hb'
          go_step
          exact hK _ _ (.setCell _ (by simp [SL.aw_eat, e5]) _) (SL.aw_in ⟨Nat.zero_le _, by simpa using SL.heap_set hb' (.int .i64 lo2) (i := 1), rfl⟩) (fun q hq => .inl (by simpa [SL.aw_eat, e5] using hq))
        · refine SLG.ob_no rfl rfl rfl fun us w' Fe hG hu hd Kx hK => ?_
          try dsimp only
          simp [SL.Used, SL.pu, SL.row, SL.box, SL.rowIn, SL.boxIn, SL.boxAt, SL.boxAtIn, SLF.pq, Act.put, SL.aw_sub, SL.aw_use, SL.aw_eat, SL.aw_V, SL.aw_quiet, SL.blk] at hu
          have hB5 : Below w.heap.size w w' := hBB.trans (hG.belowF hBB.size (by simp; omega))
          obtain ⟨hc5, hf5⟩ := bcell hB5
          have hs5 := hB5.size
          obtain ⟨hc6, hf6⟩ := hG.cellsF
          refine SLF.wpo_do (SLF.wanted_free rfl) ?hd2 ?_
          case hd2 => intro c h; cases h
          obtain ⟨⟨e1, _⟩, h2, e2, _⟩ := hu
          obtain ⟨_, hb', e5⟩ := SL.aw_out h2
          obtain ⟨y0, y1, y2, y3, y4, y5, y6, y7, yf, _⟩ := cell8w hb'
          go_step
          exact hK _ _ (.setCell _ (by simp [SL.aw_eat, e5]) _) (SL.aw_in ⟨Nat.zero_le _, by simpa using SL.heap_set hb' (.int .i64 lob2) (i := 3), rfl⟩) (fun q hq => .inl (by simpa [SL.aw_eat, e5] using hq))
      case hck2 => kernel_rfl
      case hkp2 => kernel_rfl
      intro us w6 Fs hG hu hbd hd
      simp [SL.Used, SL.aw_sub] at hu
      obtain ⟨_, u7', _⟩ := SL.aw_out hu
      replace u7 := u7'
      have hX : SL.Chg [N] w5 w6 := ⟨hG.os, hG.tape, hG.output, hG.size, hG.block⟩
      clear hu hbd hd hG u7'
      replace hBB := hBB.trans (hX.belowW hBB.size (by simp; omega))
      obtain ⟨cc, ff⟩ := hX.cellsW
      replace p1 := (cc _ _ k0 (by simp [nN0])).trans p1
      replace p2 := (cc _ _ k0 (by simp [nN0])).trans p2
      replace q1 := (cc _ _ k1 (by simp [nN1])).trans q1
      replace q2 := (cc _ _ k1 (by simp [nN1])).trans q2
      replace q3 := (cc _ _ k1 (by simp [nN1])).trans q3
      replace q4 := (cc _ _ k1 (by simp [nN1])).trans q4
      replace q5 := (cc _ _ k1 (by simp [nN1])).trans q5
      replace q6 := (cc _ _ k1 (by simp [nN1])).trans q6
      replace s0 := (cc _ _ k2 (by simp [nN2])).trans s0
      replace s1 := (cc _ _ k2 (by simp [nN2])).trans s1
      replace s2 := (cc _ _ k2 (by simp [nN2])).trans s2
      replace s3 := (cc _ _ k2 (by simp [nN2])).trans s3
      replace s4 := (cc _ _ k2 (by simp [nN2])).trans s4
      replace s5 := (cc _ _ k2 (by simp [nN2])).trans s5
      replace s6 := (cc _ _ k2 (by simp [nN2])).trans s6
      replace s7 := (cc _ _ k2 (by simp [nN2])).trans s7
      replace f3 : ∀ i, World.frozen? w6 ⟨w.heap.size + 1 + 1, i, none⟩ = false := fun i => (ff _ _ k2 (by simp [nN2])).trans (f3 i)
      replace ho1 := SL.row_stab ho1 fun k hk => hX.block k (SL.row_bounds ho1 k hk).2 (fun h => L1.out (by simp at h; subst h; exact hk))
      replace ho2 := SL.row_stab ho2 fun k hk => hX.block k (SL.row_bounds ho2 k hk).2 (fun h => L2.out (by simp at h; subst h; exact hk))
      replace k0 := Nat.lt_of_lt_of_le k0 hX.size
      replace k1 := Nat.lt_of_lt_of_le k1 hX.size
      replace k2 := Nat.lt_of_lt_of_le k2 hX.size
      replace yl := Nat.lt_of_lt_of_le yl hX.size
      clear cc ff hX
      by_cases a2 : hi2 < hi
      · have b2 : decide (hi2 < hi) = true := by simpa using a2
        have A2 := Lib.hid a2
        go_wp2_with fail
        apply SLG.rule0 ?hm3 [N] [53, 54, 55, 56, 57, 58, 59, 60, 61, 62] [SLF.pq 53 [] _, SLF.pq 54 [0] _, SLF.pq 55 [1] _, SLF.pq 56 [] _, SLF.pq 57 [3] _, SLF.pq 58 [4] _, SLF.pq 59 [] _, SLF.pq 60 [6] _, SL.aw 0 [2, 7, 12] [12] (fun _ => .blk 0 N 49 #[.slice sa3 S.length sc3, .int .i64 lo2, .int .i64 hi2, .int .i64 lob2, .int .i64 hib, .bool ft2, .int .i64 fby, .slice ra3 R.length rc3]), SLF.pq 61 [] _, SLF.pq 62 [9] _, SL.aw 0 [5, 8, 10] [8] (fun _ => .blk 0 N 49 #[.slice sa3 S.length sc3, .int .i64 lo2, .int .i64 hi2, .int .i64 lob2, .int .i64 hib2, .bool ft2, .int .i64 fby, .slice ra3 R.length rc3]), SL.blk [] [] N 49 #[.slice sa3 S.length sc3, .int .i64 lo2, .int .i64 hi, .int .i64 lob2, .int .i64 hib, .bool ft2, .int .i64 fby, .slice ra3 R.length rc3]] [11] ?hck3 ?hkp3 (fun i => if i = 12 then [N] else []) ?hin3 ?hdj3 ?hfr3 ?ob3 ?en3
        case hm3 => kernel_rfl
        case hin3 => exact SL.one_held rfl rfl ⟨u7, rfl⟩ yl
        case hdj3 => exact SL.one_apart
        case hfr3 => intro us; simp only [SL.frame, SL.put']; simp; exact rfl
        case ob3 =>
          refine ⟨?_, ?_, ?_, ?_, ?_, ?_, ?_, ?_, ?_, ?_, ?_, ?_, trivial⟩
          all_goals first
            | (intro us w' Fe hG hu hd hv Kx hK
               try dsimp only
               simp [SL.Used, SL.pu, SL.row, SL.box, SL.rowIn, SL.boxIn, SL.boxAt, SL.boxAtIn, SLF.pq, Act.put, SL.aw_sub, SL.aw_use, SL.aw_eat, SL.aw_V, SL.aw_quiet, SL.blk] at hu hK
               have hB5 : Below w.heap.size w w' := hBB.trans (hG.belowF hBB.size (by simp; omega))
               obtain ⟨hc5, hf5⟩ := bcell hB5
               have hs5 := hB5.size
               obtain ⟨hc6, hf6⟩ := hG.cellsF
               clear hv
               refine SLF.wpo_do (SLF.wanted_free rfl) ?hd3 ?_
               case hd3 => intro c h; cases h
               clear hd
               first
                 | (go_step; exact hK _ _ _ (SL.Chg.refl _ _) (by first | exact rfl | (simp only [hu]; exact rfl)) rfl (by simp) rfl)
                 | exact hK _ _ _ (SL.Chg.refl _ _) rfl rfl (by simp) rfl)
            | skip
          · refine SLG.ob_no rfl rfl rfl fun us w' Fe hG hu hd Kx hK => ?_
            try dsimp only
            simp [SL.Used, SL.pu, SL.row, SL.box, SL.rowIn, SL.boxIn, SL.boxAt, SL.boxAtIn, SLF.pq, Act.put, SL.aw_sub, SL.aw_use, SL.aw_eat, SL.aw_V, SL.aw_quiet, SL.blk] at hu
            have hB5 : Below w.heap.size w w' := hBB.trans (hG.belowF hBB.size (by simp; omega))
            obtain ⟨hc5, hf5⟩ := bcell hB5
            have hs5 := hB5.size
            obtain ⟨hc6, hf6⟩ := hG.cellsF
            refine SLF.wpo_do (SLF.wanted_free rfl) ?hd3 ?_
            case hd3 => intro c h; cases h
            obtain ⟨⟨e1, _⟩, ⟨e2, _⟩, hb', e5⟩ := hu
            obtain ⟨y0, y1, y2, y3, y4, y5, y6, y7, yf, _⟩ := cell8w hb'
            go_step
            exact hK _ _ (.setCell _ (by simp [SL.aw_eat, e5]) _) (SL.aw_in ⟨Nat.zero_le _, by simpa using SL.heap_set hb' (.int .i64 hi2) (i := 2), rfl⟩) (fun q hq => .inl (by simpa [SL.aw_eat, e5] using hq))
          · refine SLG.ob_no rfl rfl rfl fun us w' Fe hG hu hd Kx hK => ?_
            try dsimp only
            simp [SL.Used, SL.pu, SL.row, SL.box, SL.rowIn, SL.boxIn, SL.boxAt, SL.boxAtIn, SLF.pq, Act.put, SL.aw_sub, SL.aw_use, SL.aw_eat, SL.aw_V, SL.aw_quiet, SL.blk] at hu
            have hB5 : Below w.heap.size w w' := hBB.trans (hG.belowF hBB.size (by simp; omega))
            obtain ⟨hc5, hf5⟩ := bcell hB5
            have hs5 := hB5.size
            obtain ⟨hc6, hf6⟩ := hG.cellsF
            refine SLF.wpo_do (SLF.wanted_free rfl) ?hd3 ?_
            case hd3 => intro c h; cases h
            obtain ⟨⟨e1, _⟩, h2, e2, _⟩ := hu
            obtain ⟨_, hb', e5⟩ := SL.aw_out h2
            obtain ⟨y0, y1, y2, y3, y4, y5, y6, y7, yf, _⟩ := cell8w hb'
            go_step
            exact hK _ _ (.setCell _ (by simp [SL.aw_eat, e5]) _) (SL.aw_in ⟨Nat.zero_le _, by simpa using SL.heap_set hb' (.int .i64 hib2) (i := 4), rfl⟩) (fun q hq => .inl (by simpa [SL.aw_eat, e5] using hq))
        case hck3 => kernel_rfl
        case hkp3 => kernel_rfl
        intro us w7 Fs hG hu hbd hd
        simp [SL.Used, SL.aw_sub] at hu
        obtain ⟨_, u7', _⟩ := SL.aw_out hu
        replace u7 := u7'
        have hX : SL.Chg [N] w6 w7 := ⟨hG.os, hG.tape, hG.output, hG.size, hG.block⟩
        clear hu hbd hd hG u7'
        replace hBB := hBB.trans (hX.belowW hBB.size (by simp; omega))
        obtain ⟨cc, ff⟩ := hX.cellsW
        replace p1 := (cc _ _ k0 (by simp [nN0])).trans p1
        replace p2 := (cc _ _ k0 (by simp [nN0])).trans p2
        replace q1 := (cc _ _ k1 (by simp [nN1])).trans q1
        replace q2 := (cc _ _ k1 (by simp [nN1])).trans q2
        replace q3 := (cc _ _ k1 (by simp [nN1])).trans q3
        replace q4 := (cc _ _ k1 (by simp [nN1])).trans q4
        replace q5 := (cc _ _ k1 (by simp [nN1])).trans q5
        replace q6 := (cc _ _ k1 (by simp [nN1])).trans q6
        replace s0 := (cc _ _ k2 (by simp [nN2])).trans s0
        replace s1 := (cc _ _ k2 (by simp [nN2])).trans s1
        replace s2 := (cc _ _ k2 (by simp [nN2])).trans s2
        replace s3 := (cc _ _ k2 (by simp [nN2])).trans s3
        replace s4 := (cc _ _ k2 (by simp [nN2])).trans s4
        replace s5 := (cc _ _ k2 (by simp [nN2])).trans s5
        replace s6 := (cc _ _ k2 (by simp [nN2])).trans s6
        replace s7 := (cc _ _ k2 (by simp [nN2])).trans s7
        replace f3 : ∀ i, World.frozen? w7 ⟨w.heap.size + 1 + 1, i, none⟩ = false := fun i => (ff _ _ k2 (by simp [nN2])).trans (f3 i)
        replace ho1 := SL.row_stab ho1 fun k hk => hX.block k (SL.row_bounds ho1 k hk).2 (fun h => L1.out (by simp at h; subst h; exact hk))
        replace ho2 := SL.row_stab ho2 fun k hk => hX.block k (SL.row_bounds ho2 k hk).2 (fun h => L2.out (by simp at h; subst h; exact hk))
        replace k0 := Nat.lt_of_lt_of_le k0 hX.size
        replace k1 := Nat.lt_of_lt_of_le k1 hX.size
        replace k2 := Nat.lt_of_lt_of_le k2 hX.size
        replace yl := Nat.lt_of_lt_of_le yl hX.size
        clear cc ff hX
        obtain ⟨y0, y1, y2, y3, y4, y5, y6, y7, yf, _⟩ := cell8w u7
        cases ft2
        · have HMM : Hid (max fby fby2 = fby) := Lib.hid (by have h := HM.out; simp at h; omega)
          have hpost := Lib.hid (show ∀ w', Below w.heap.size w w' → OwnPt w' w.heap.size ⟨sa3, sc3, S, lo2, hi2, lob2, hib2, false, fby, ra3, rc3, R⟩ → MergedPost w ⟨sa, sc, sh, lo, hi, lob, hib, false, fby, ra, rc, re⟩ ⟨sa2, sc2, sh2, lo2, hi2, lob2, hib2, false, fby2, ra2, rc2, re2⟩ (.returned (.agg #[.slice sa3 S.length sc3, .int .i64 lo2, .int .i64 hi2, .int .i64 lob2, .int .i64 hib2, .bool false, .int .i64 fby, .slice ra3 R.length rc3])) w' from fun w' hb ho => by
            refine ⟨sa3, sc3, ra3, rc3, ?_, hb, ?_⟩
            · simp [gluPt, Pt.v, HS.out, HR.out, HMM.out, (show lo < lo2 from A1.out), (show hi2 < hi from A2.out)]
            · simpa [gluPt, HS.out, HR.out, HMM.out, (show lo < lo2 from A1.out), (show hi2 < hi from A2.out)] using ho)
          clear a1 a2 A1 A2 HS HR HM HMM
          go_wp2_with fail
          refine bodyPost_ret (v := .agg #[.slice sa3 S.length sc3, .int .i64 lo2, .int .i64 hi2, .int .i64 lob2, .int .i64 hib2, .bool false, .int .i64 fby, .slice ra3 R.length rc3]) (by simp [results, Tryz.results69, go_sem, *]) rfl (hpost.out _ ?_ ⟨?_, ?_⟩)
          · repeat (refine Below.setCell ?_ (by simp; omega) _)
            exact hBB
          · repeat (refine SL.row_set ?_ (by first | exact L1.out | exact L3.out) _)
            exact ho1
          · repeat (refine SL.row_set ?_ (by first | exact L2.out | exact L4.out) _)
            exact ho2
        · have HMM : Hid (max fby fby2 = fby2) := Lib.hid (by have h := HM.out; simp at h; omega)
          have hpost := Lib.hid (show ∀ w', Below w.heap.size w w' → OwnPt w' w.heap.size ⟨sa3, sc3, S, lo2, hi2, lob2, hib2, true, fby2, ra3, rc3, R⟩ → MergedPost w ⟨sa, sc, sh, lo, hi, lob, hib, false, fby, ra, rc, re⟩ ⟨sa2, sc2, sh2, lo2, hi2, lob2, hib2, true, fby2, ra2, rc2, re2⟩ (.returned (.agg #[.slice sa3 S.length sc3, .int .i64 lo2, .int .i64 hi2, .int .i64 lob2, .int .i64 hib2, .bool true, .int .i64 fby2, .slice ra3 R.length rc3])) w' from fun w' hb ho => by
            refine ⟨sa3, sc3, ra3, rc3, ?_, hb, ?_⟩
            · simp [gluPt, Pt.v, HS.out, HR.out, HMM.out, (show lo < lo2 from A1.out), (show hi2 < hi from A2.out)]
            · simpa [gluPt, HS.out, HR.out, HMM.out, (show lo < lo2 from A1.out), (show hi2 < hi from A2.out)] using ho)
          clear a1 a2 A1 A2 HS HR HM HMM
          go_wp2_with fail
          refine bodyPost_ret (v := .agg #[.slice sa3 S.length sc3, .int .i64 lo2, .int .i64 hi2, .int .i64 lob2, .int .i64 hib2, .bool true, .int .i64 fby2, .slice ra3 R.length rc3]) (by simp [results, Tryz.results69, go_sem, *]) rfl (hpost.out _ ?_ ⟨?_, ?_⟩)
          · repeat (refine Below.setCell ?_ (by simp; omega) _)
            exact hBB
          · repeat (refine SL.row_set ?_ (by first | exact L1.out | exact L3.out) _)
            exact ho1
          · repeat (refine SL.row_set ?_ (by first | exact L2.out | exact L4.out) _)
            exact ho2
      · have b2 : decide (hi2 < hi) = false := by simpa using a2
        have A2 := Lib.hid a2
        obtain ⟨y0, y1, y2, y3, y4, y5, y6, y7, yf, _⟩ := cell8w u7
        cases ft2
        · have HMM : Hid (max fby fby2 = fby) := Lib.hid (by have h := HM.out; simp at h; omega)
          have hpost := Lib.hid (show ∀ w', Below w.heap.size w w' → OwnPt w' w.heap.size ⟨sa3, sc3, S, lo2, hi, lob2, hib, false, fby, ra3, rc3, R⟩ → MergedPost w ⟨sa, sc, sh, lo, hi, lob, hib, false, fby, ra, rc, re⟩ ⟨sa2, sc2, sh2, lo2, hi2, lob2, hib2, false, fby2, ra2, rc2, re2⟩ (.returned (.agg #[.slice sa3 S.length sc3, .int .i64 lo2, .int .i64 hi, .int .i64 lob2, .int .i64 hib, .bool false, .int .i64 fby, .slice ra3 R.length rc3])) w' from fun w' hb ho => by
            refine ⟨sa3, sc3, ra3, rc3, ?_, hb, ?_⟩
            · simp [gluPt, Pt.v, HS.out, HR.out, HMM.out, (show lo < lo2 from A1.out), (show ¬ hi2 < hi by have := A2.out; omega)]
            · simpa [gluPt, HS.out, HR.out, HMM.out, (show lo < lo2 from A1.out), (show ¬ hi2 < hi by have := A2.out; omega)] using ho)
          clear a1 a2 A1 A2 HS HR HM HMM
          go_wp2_with fail
          refine bodyPost_ret (v := .agg #[.slice sa3 S.length sc3, .int .i64 lo2, .int .i64 hi, .int .i64 lob2, .int .i64 hib, .bool false, .int .i64 fby, .slice ra3 R.length rc3]) (by simp [results, Tryz.results69, go_sem, *]) rfl (hpost.out _ ?_ ⟨?_, ?_⟩)
          · repeat (refine Below.setCell ?_ (by simp; omega) _)
            exact hBB
          · repeat (refine SL.row_set ?_ (by first | exact L1.out | exact L3.out) _)
            exact ho1
          · repeat (refine SL.row_set ?_ (by first | exact L2.out | exact L4.out) _)
            exact ho2
        · have HMM : Hid (max fby fby2 = fby2) := Lib.hid (by have h := HM.out; simp at h; omega)
          have hpost := Lib.hid (show ∀ w', Below w.heap.size w w' → OwnPt w' w.heap.size ⟨sa3, sc3, S, lo2, hi, lob2, hib, true, fby2, ra3, rc3, R⟩ → MergedPost w ⟨sa, sc, sh, lo, hi, lob, hib, false, fby, ra, rc, re⟩ ⟨sa2, sc2, sh2, lo2, hi2, lob2, hib2, true, fby2, ra2, rc2, re2⟩ (.returned (.agg #[.slice sa3 S.length sc3, .int .i64 lo2, .int .i64 hi, .int .i64 lob2, .int .i64 hib, .bool true, .int .i64 fby2, .slice ra3 R.length rc3])) w' from fun w' hb ho => by
            refine ⟨sa3, sc3, ra3, rc3, ?_, hb, ?_⟩
            · simp [gluPt, Pt.v, HS.out, HR.out, HMM.out, (show lo < lo2 from A1.out), (show ¬ hi2 < hi by have := A2.out; omega)]
            · simpa [gluPt, HS.out, HR.out, HMM.out, (show lo < lo2 from A1.out), (show ¬ hi2 < hi by have := A2.out; omega)] using ho)
          clear a1 a2 A1 A2 HS HR HM HMM
          go_wp2_with fail
          refine bodyPost_ret (v := .agg #[.slice sa3 S.length sc3, .int .i64 lo2, .int .i64 hi, .int .i64 lob2, .int .i64 hib, .bool true, .int .i64 fby2, .slice ra3 R.length rc3]) (by simp [results, Tryz.results69, go_sem, *]) rfl (hpost.out _ ?_ ⟨?_, ?_⟩)
          · repeat (refine Below.setCell ?_ (by simp; omega) _)
            exact hBB
          · repeat (refine SL.row_set ?_ (by first | exact L1.out | exact L3.out) _)
            exact ho1
          · repeat (refine SL.row_set ?_ (by first | exact L2.out | exact L4.out) _)
            exact ho2
    · have b1 : decide (lo < lo2) = false := by simpa using a1
      have A1 := Lib.hid a1
      by_cases a2 : hi2 < hi
      · have b2 : decide (hi2 < hi) = true := by simpa using a2
        have A2 := Lib.hid a2
        go_wp2_with fail
        apply SLG.rule0 ?hm4 [N] [53, 54, 55, 56, 57, 58, 59, 60, 61, 62] [SLF.pq 53 [] _, SLF.pq 54 [0] _, SLF.pq 55 [1] _, SLF.pq 56 [] _, SLF.pq 57 [3] _, SLF.pq 58 [4] _, SLF.pq 59 [] _, SLF.pq 60 [6] _, SL.aw 0 [2, 7, 12] [12] (fun _ => .blk 0 N 49 #[.slice sa3 S.length sc3, .int .i64 lo, .int .i64 hi2, .int .i64 lob, .int .i64 hib, .bool ft2, .int .i64 fby, .slice ra3 R.length rc3]), SLF.pq 61 [] _, SLF.pq 62 [9] _, SL.aw 0 [5, 8, 10] [8] (fun _ => .blk 0 N 49 #[.slice sa3 S.length sc3, .int .i64 lo, .int .i64 hi2, .int .i64 lob, .int .i64 hib2, .bool ft2, .int .i64 fby, .slice ra3 R.length rc3]), SL.blk [] [] N 49 #[.slice sa3 S.length sc3, .int .i64 lo, .int .i64 hi, .int .i64 lob, .int .i64 hib, .bool ft2, .int .i64 fby, .slice ra3 R.length rc3]] [11] ?hck4 ?hkp4 (fun i => if i = 12 then [N] else []) ?hin4 ?hdj4 ?hfr4 ?ob4 ?en4
        case hm4 => kernel_rfl
        case hin4 => exact SL.one_held rfl rfl ⟨u7, rfl⟩ yl
        case hdj4 => exact SL.one_apart
        case hfr4 => intro us; simp only [SL.frame, SL.put']; simp; exact rfl
        case ob4 =>
          refine ⟨?_, ?_, ?_, ?_, ?_, ?_, ?_, ?_, ?_, ?_, ?_, ?_, trivial⟩
          all_goals first
            | (intro us w' Fe hG hu hd hv Kx hK
               try dsimp only
               simp [SL.Used, SL.pu, SL.row, SL.box, SL.rowIn, SL.boxIn, SL.boxAt, SL.boxAtIn, SLF.pq, Act.put, SL.aw_sub, SL.aw_use, SL.aw_eat, SL.aw_V, SL.aw_quiet, SL.blk] at hu hK
               have hB5 : Below w.heap.size w w' := hBB.trans (hG.belowF hBB.size (by simp; omega))
               obtain ⟨hc5, hf5⟩ := bcell hB5
               have hs5 := hB5.size
               obtain ⟨hc6, hf6⟩ := hG.cellsF
               clear hv
               refine SLF.wpo_do (SLF.wanted_free rfl) ?hd4 ?_
               case hd4 => intro c h; cases h
               clear hd
               first
                 | (go_step; exact hK _ _ _ (SL.Chg.refl _ _) (by first | exact rfl | (simp only [hu]; exact rfl)) rfl (by simp) rfl)
                 | exact hK _ _ _ (SL.Chg.refl _ _) rfl rfl (by simp) rfl)
            | skip
          · refine SLG.ob_no rfl rfl rfl fun us w' Fe hG hu hd Kx hK => ?_
            try dsimp only
            simp [SL.Used, SL.pu, SL.row, SL.box, SL.rowIn, SL.boxIn, SL.boxAt, SL.boxAtIn, SLF.pq, Act.put, SL.aw_sub, SL.aw_use, SL.aw_eat, SL.aw_V, SL.aw_quiet, SL.blk] at hu
            have hB5 : Below w.heap.size w w' := hBB.trans (hG.belowF hBB.size (by simp; omega))
            obtain ⟨hc5, hf5⟩ := bcell hB5
            have hs5 := hB5.size
            obtain ⟨hc6, hf6⟩ := hG.cellsF
            refine SLF.wpo_do (SLF.wanted_free rfl) ?hd4 ?_
            case hd4 => intro c h; cases h
            obtain ⟨⟨e1, _⟩, ⟨e2, _⟩, hb', e5⟩ := hu
            obtain ⟨y0, y1, y2, y3, y4, y5, y6, y7, yf, _⟩ := cell8w hb'
            go_step
            exact hK _ _ (.setCell _ (by simp [SL.aw_eat, e5]) _) (SL.aw_in ⟨Nat.zero_le _, by simpa using SL.heap_set hb' (.int .i64 hi2) (i := 2), rfl⟩) (fun q hq => .inl (by simpa [SL.aw_eat, e5] using hq))
          · refine SLG.ob_no rfl rfl rfl fun us w' Fe hG hu hd Kx hK => ?_
            try dsimp only
            simp [SL.Used, SL.pu, SL.row, SL.box, SL.rowIn, SL.boxIn, SL.boxAt, SL.boxAtIn, SLF.pq, Act.put, SL.aw_sub, SL.aw_use, SL.aw_eat, SL.aw_V, SL.aw_quiet, SL.blk] at hu
            have hB5 : Below w.heap.size w w' := hBB.trans (hG.belowF hBB.size (by simp; omega))
            obtain ⟨hc5, hf5⟩ := bcell hB5
            have hs5 := hB5.size
            obtain ⟨hc6, hf6⟩ := hG.cellsF
            refine SLF.wpo_do (SLF.wanted_free rfl) ?hd4 ?_
            case hd4 => intro c h; cases h
            obtain ⟨⟨e1, _⟩, h2, e2, _⟩ := hu
            obtain ⟨_, hb', e5⟩ := SL.aw_out h2
            obtain ⟨y0, y1, y2, y3, y4, y5, y6, y7, yf, _⟩ := cell8w hb'
            go_step
            exact hK _ _ (.setCell _ (by simp [SL.aw_eat, e5]) _) (SL.aw_in ⟨Nat.zero_le _, by simpa using SL.heap_set hb' (.int .i64 hib2) (i := 4), rfl⟩) (fun q hq => .inl (by simpa [SL.aw_eat, e5] using hq))
        case hck4 => kernel_rfl
        case hkp4 => kernel_rfl
        intro us w7 Fs hG hu hbd hd
        simp [SL.Used, SL.aw_sub] at hu
        obtain ⟨_, u7', _⟩ := SL.aw_out hu
        replace u7 := u7'
        have hX : SL.Chg [N] w5 w7 := ⟨hG.os, hG.tape, hG.output, hG.size, hG.block⟩
        clear hu hbd hd hG u7'
        replace hBB := hBB.trans (hX.belowW hBB.size (by simp; omega))
        obtain ⟨cc, ff⟩ := hX.cellsW
        replace p1 := (cc _ _ k0 (by simp [nN0])).trans p1
        replace p2 := (cc _ _ k0 (by simp [nN0])).trans p2
        replace q1 := (cc _ _ k1 (by simp [nN1])).trans q1
        replace q2 := (cc _ _ k1 (by simp [nN1])).trans q2
        replace q3 := (cc _ _ k1 (by simp [nN1])).trans q3
        replace q4 := (cc _ _ k1 (by simp [nN1])).trans q4
        replace q5 := (cc _ _ k1 (by simp [nN1])).trans q5
        replace q6 := (cc _ _ k1 (by simp [nN1])).trans q6
        replace s0 := (cc _ _ k2 (by simp [nN2])).trans s0
        replace s1 := (cc _ _ k2 (by simp [nN2])).trans s1
        replace s2 := (cc _ _ k2 (by simp [nN2])).trans s2
        replace s3 := (cc _ _ k2 (by simp [nN2])).trans s3
        replace s4 := (cc _ _ k2 (by simp [nN2])).trans s4
        replace s5 := (cc _ _ k2 (by simp [nN2])).trans s5
        replace s6 := (cc _ _ k2 (by simp [nN2])).trans s6
        replace s7 := (cc _ _ k2 (by simp [nN2])).trans s7
        replace f3 : ∀ i, World.frozen? w7 ⟨w.heap.size + 1 + 1, i, none⟩ = false := fun i => (ff _ _ k2 (by simp [nN2])).trans (f3 i)
        replace ho1 := SL.row_stab ho1 fun k hk => hX.block k (SL.row_bounds ho1 k hk).2 (fun h => L1.out (by simp at h; subst h; exact hk))
        replace ho2 := SL.row_stab ho2 fun k hk => hX.block k (SL.row_bounds ho2 k hk).2 (fun h => L2.out (by simp at h; subst h; exact hk))
        replace k0 := Nat.lt_of_lt_of_le k0 hX.size
        replace k1 := Nat.lt_of_lt_of_le k1 hX.size
        replace k2 := Nat.lt_of_lt_of_le k2 hX.size
        replace yl := Nat.lt_of_lt_of_le yl hX.size
        clear cc ff hX
        obtain ⟨y0, y1, y2, y3, y4, y5, y6, y7, yf, _⟩ := cell8w u7
        cases ft2
        · have HMM : Hid (max fby fby2 = fby) := Lib.hid (by have h := HM.out; simp at h; omega)
          have hpost := Lib.hid (show ∀ w', Below w.heap.size w w' → OwnPt w' w.heap.size ⟨sa3, sc3, S, lo, hi2, lob, hib2, false, fby, ra3, rc3, R⟩ → MergedPost w ⟨sa, sc, sh, lo, hi, lob, hib, false, fby, ra, rc, re⟩ ⟨sa2, sc2, sh2, lo2, hi2, lob2, hib2, false, fby2, ra2, rc2, re2⟩ (.returned (.agg #[.slice sa3 S.length sc3, .int .i64 lo, .int .i64 hi2, .int .i64 lob, .int .i64 hib2, .bool false, .int .i64 fby, .slice ra3 R.length rc3])) w' from fun w' hb ho => by
            refine ⟨sa3, sc3, ra3, rc3, ?_, hb, ?_⟩
            · simp [gluPt, Pt.v, HS.out, HR.out, HMM.out, (show ¬ lo < lo2 by have := A1.out; omega), (show hi2 < hi from A2.out)]
            · simpa [gluPt, HS.out, HR.out, HMM.out, (show ¬ lo < lo2 by have := A1.out; omega), (show hi2 < hi from A2.out)] using ho)
          clear a1 a2 A1 A2 HS HR HM HMM
          go_wp2_with fail
          refine bodyPost_ret (v := .agg #[.slice sa3 S.length sc3, .int .i64 lo, .int .i64 hi2, .int .i64 lob, .int .i64 hib2, .bool false, .int .i64 fby, .slice ra3 R.length rc3]) (by simp [results, Tryz.results69, go_sem, *]) rfl (hpost.out _ ?_ ⟨?_, ?_⟩)
          · repeat (refine Below.setCell ?_ (by simp; omega) _)
            exact hBB
          · repeat (refine SL.row_set ?_ (by first | exact L1.out | exact L3.out) _)
            exact ho1
          · repeat (refine SL.row_set ?_ (by first | exact L2.out | exact L4.out) _)
            exact ho2
        · have HMM : Hid (max fby fby2 = fby2) := Lib.hid (by have h := HM.out; simp at h; omega)
          have hpost := Lib.hid (show ∀ w', Below w.heap.size w w' → OwnPt w' w.heap.size ⟨sa3, sc3, S, lo, hi2, lob, hib2, true, fby2, ra3, rc3, R⟩ → MergedPost w ⟨sa, sc, sh, lo, hi, lob, hib, false, fby, ra, rc, re⟩ ⟨sa2, sc2, sh2, lo2, hi2, lob2, hib2, true, fby2, ra2, rc2, re2⟩ (.returned (.agg #[.slice sa3 S.length sc3, .int .i64 lo, .int .i64 hi2, .int .i64 lob, .int .i64 hib2, .bool true, .int .i64 fby2, .slice ra3 R.length rc3])) w' from fun w' hb ho => by
            refine ⟨sa3, sc3, ra3, rc3, ?_, hb, ?_⟩
            · simp [gluPt, Pt.v, HS.out, HR.out, HMM.out, (show ¬ lo < lo2 by have := A1.out; omega), (show hi2 < hi from A2.out)]
            · simpa [gluPt, HS.out, HR.out, HMM.out, (show ¬ lo < lo2 by have := A1.out; omega), (show hi2 < hi from A2.out)] using ho)
          clear a1 a2 A1 A2 HS HR HM HMM
          go_wp2_with fail
          refine bodyPost_ret (v := .agg #[.slice sa3 S.length sc3, .int .i64 lo, .int .i64 hi2, .int .i64 lob, .int .i64 hib2, .bool true, .int .i64 fby2, .slice ra3 R.length rc3]) (by simp [results, Tryz.results69, go_sem, *]) rfl (hpost.out _ ?_ ⟨?_, ?_⟩)
          · repeat (refine Below.setCell ?_ (by simp; omega) _)
            exact hBB
          · repeat (refine SL.row_set ?_ (by first | exact L1.out | exact L3.out) _)
            exact ho1
          · repeat (refine SL.row_set ?_ (by first | exact L2.out | exact L4.out) _)
            exact ho2
      · have b2 : decide (hi2 < hi) = false := by simpa using a2
        have A2 := Lib.hid a2
        obtain ⟨y0, y1, y2, y3, y4, y5, y6, y7, yf, _⟩ := cell8w u7
        cases ft2
        · have HMM : Hid (max fby fby2 = fby) := Lib.hid (by have h := HM.out; simp at h; omega)
          have hpost := Lib.hid (show ∀ w', Below w.heap.size w w' → OwnPt w' w.heap.size ⟨sa3, sc3, S, lo, hi, lob, hib, false, fby, ra3, rc3, R⟩ → MergedPost w ⟨sa, sc, sh, lo, hi, lob, hib, false, fby, ra, rc, re⟩ ⟨sa2, sc2, sh2, lo2, hi2, lob2, hib2, false, fby2, ra2, rc2, re2⟩ (.returned (.agg #[.slice sa3 S.length sc3, .int .i64 lo, .int .i64 hi, .int .i64 lob, .int .i64 hib, .bool false, .int .i64 fby, .slice ra3 R.length rc3])) w' from fun w' hb ho => by
            refine ⟨sa3, sc3, ra3, rc3, ?_, hb, ?_⟩
            · simp [gluPt, Pt.v, HS.out, HR.out, HMM.out, (show ¬ lo < lo2 by have := A1.out; omega), (show ¬ hi2 < hi by have := A2.out; omega)]
            · simpa [gluPt, HS.out, HR.out, HMM.out, (show ¬ lo < lo2 by have := A1.out; omega), (show ¬ hi2 < hi by have := A2.out; omega)] using ho)
          clear a1 a2 A1 A2 HS HR HM HMM
          go_wp2_with fail
          refine bodyPost_ret (v := .agg #[.slice sa3 S.length sc3, .int .i64 lo, .int .i64 hi, .int .i64 lob, .int .i64 hib, .bool false, .int .i64 fby, .slice ra3 R.length rc3]) (by simp [results, Tryz.results69, go_sem, *]) rfl (hpost.out _ ?_ ⟨?_, ?_⟩)
          · repeat (refine Below.setCell ?_ (by simp; omega) _)
            exact hBB
          · repeat (refine SL.row_set ?_ (by first | exact L1.out | exact L3.out) _)
            exact ho1
          · repeat (refine SL.row_set ?_ (by first | exact L2.out | exact L4.out) _)
            exact ho2
        · have HMM : Hid (max fby fby2 = fby2) := Lib.hid (by have h := HM.out; simp at h; omega)
          have hpost := Lib.hid (show ∀ w', Below w.heap.size w w' → OwnPt w' w.heap.size ⟨sa3, sc3, S, lo, hi, lob, hib, true, fby2, ra3, rc3, R⟩ → MergedPost w ⟨sa, sc, sh, lo, hi, lob, hib, false, fby, ra, rc, re⟩ ⟨sa2, sc2, sh2, lo2, hi2, lob2, hib2, true, fby2, ra2, rc2, re2⟩ (.returned (.agg #[.slice sa3 S.length sc3, .int .i64 lo, .int .i64 hi, .int .i64 lob, .int .i64 hib, .bool true, .int .i64 fby2, .slice ra3 R.length rc3])) w' from fun w' hb ho => by
            refine ⟨sa3, sc3, ra3, rc3, ?_, hb, ?_⟩
            · simp [gluPt, Pt.v, HS.out, HR.out, HMM.out, (show ¬ lo < lo2 by have := A1.out; omega), (show ¬ hi2 < hi by have := A2.out; omega)]
            · simpa [gluPt, HS.out, HR.out, HMM.out, (show ¬ lo < lo2 by have := A1.out; omega), (show ¬ hi2 < hi by have := A2.out; omega)] using ho)
          clear a1 a2 A1 A2 HS HR HM HMM
          go_wp2_with fail
          refine bodyPost_ret (v := .agg #[.slice sa3 S.length sc3, .int .i64 lo, .int .i64 hi, .int .i64 lob, .int .i64 hib, .bool true, .int .i64 fby2, .slice ra3 R.length rc3]) (by simp [results, Tryz.results69, go_sem, *]) rfl (hpost.out _ ?_ ⟨?_, ?_⟩)
          · repeat (refine Below.setCell ?_ (by simp; omega) _)
            exact hBB
          · repeat (refine SL.row_set ?_ (by first | exact L1.out | exact L3.out) _)
            exact ho1
          · repeat (refine SL.row_set ?_ (by first | exact L2.out | exact L4.out) _)
            exact ho2
  · apply SLG.rule0 ?hm5 [] [6, 7, 8, 9, 10, 11, 12, 13, 14, 15, 16, 17, 18, 19, 20, 21, 22, 23, 24, 25, 26, 27, 28, 5] [SLF.pq 6 [] _, SLF.pq 7 [0] _, SLF.pq 8 [] _, SLF.pq 9 [2] _, SL.aw 10 [1, 3] [] (fun x => .ex fun N : Nat => .sep (.pure (x = .slice (some ⟨N, 0, none⟩) 2 2)) (.blk w3.heap.size N 34 #[.slice sa sh.length sc, .slice sa2 sh2.length sc2])), SL.row 11 [4] [] w3.heap.size 3 1 S.length (S.map (.int .i64)), SLF.pq 12 [] _, SLF.pq 13 [6] _, SLF.pq 14 [] _, SLF.pq 15 [8] _, SLF.pq 16 [9] _, SLF.pq 17 [10] _, SLF.pq 18 [10, 11] _, SLF.pq 19 [10, 12] _, SLF.pq 20 [] _, SLF.pq 21 [14] _, SLF.pq 22 [] _, SLF.pq 23 [16] _, SLF.pq 24 [] _, SLF.pq 25 [18] _, SL.aw 26 [17, 19] [] (fun x => .ex fun N : Nat => .sep (.pure (x = .slice (some ⟨N, 0, none⟩) 2 2)) (.blk w3.heap.size N 34 #[.slice ra re.length rc, .slice ra2 re2.length rc2])), SL.row 27 [20] [] w3.heap.size 3 1 R.length (R.map (.int .i64)), SL.rows2 28 [5, 7, 13, 15, 21] [5, 21] w3.heap.size 3 S.length (S.map (.int .i64)) R.length (R.map (.int .i64)) (fun y z => .agg #[y, .int .i64 lo, .int .i64 hi, .int .i64 lob, .int .i64 hib, .bool true, .int .i64 fby, z]), SL.box 5 [] [] w3.heap.size 49 #[.slice none 0 0, .int .i64 0, .int .i64 0, .int .i64 0, .int .i64 0, .bool false, .int .i64 0, .slice none 0 0], SL.boxRows2 5 [22, 23] [22, 23] w3.heap.size 49 3 S.length (S.map (.int .i64)) R.length (R.map (.int .i64)) (fun y z => #[y, .int .i64 lo, .int .i64 hi, .int .i64 lob, .int .i64 hib, .bool true, .int .i64 fby, z])] [24] ?hck5 ?hkp5 (fun _ => []) ?hin5 ?hdj5 ?hfr5 ?ob5 ?en5
    case hm5 => kernel_rfl
    case hin5 => exact SL.none_held rfl
    case hdj5 => simp
    case hfr5 => intro us; simp only [SL.frame, SL.put']; simp; exact rfl
    case ob5 =>
      refine ⟨?_, ?_, ?_, ?_, ?_, ?_, ?_, ?_, ?_, ?_, ?_, ?_, ?_, ?_, ?_, ?_, ?_, ?_, ?_, ?_, ?_, ?_, ?_, ?_, ?_, trivial⟩
      all_goals first
        | (intro us w' Fe hG hu hd hv Kx hK
           try dsimp only
           simp [SL.Used, SL.pu, SL.row, SL.box, SL.rowIn, SL.boxIn, SL.boxAt, SL.boxAtIn, SLF.pq, Act.put, SL.aw_sub, SL.aw_use, SL.aw_eat, SL.aw_V, SL.aw_quiet, SL.rows2, SL.boxRows2] at hu hK
           have hB5 : Below w3.heap.size w3 w' := hG.below'
           obtain ⟨hc5, hf5⟩ := bcell hB5
           have hs5 := hB5.size
           clear hv hG
           first
             | (refine SLF.wpo_do (SLF.wanted_free rfl) ?hd5 ?_; (case hd5 => intro c h; cases h))
             | (refine SLF.wpo_do (SLF.wanted_by rfl rfl ?hv5) ?hd5 ?_; (case hv5 => simp [hu]; done); (case hd5 => intro c h; cases h))
             | (refine' SLF.wpo_not (SLG.wanted_not rfl rfl ?hv5 ?hn5) ?_; (case hv5 => simp [hu]; exact rfl); (case hn5 => first | (simp; done) | (simp [undef]; done)))
           clear hd
           first
             | (go_step; exact hK _ _ _ (SL.Chg.refl _ _) (by first | exact rfl | (simp only [hu]; exact rfl)) rfl (by simp) rfl)
             | exact hK _ _ _ (SL.Chg.refl _ _) rfl rfl (by simp) rfl)
        | skip
      · refine SLG.ob_sp rfl rfl rfl fun us w' Fe hG hu hd Kx hK => ?_
        try dsimp only
        simp [SL.Used, SL.pu, SL.row, SL.box, SL.rowIn, SL.boxIn, SL.boxAt, SL.boxAtIn, SLF.pq, Act.put, SL.aw_sub, SL.aw_use, SL.aw_eat, SL.aw_V, SL.aw_quiet, SL.rows2, SL.boxRows2] at hu
        have hB5 : Below w3.heap.size w3 w' := hG.below'
        obtain ⟨hc5, hf5⟩ := bcell hB5
        have hs5 := hB5.size
        refine SLF.wpo_do (SLF.wanted_free rfl) ?hd5 ?_
        case hd5 => intro c h; cases h
        obtain ⟨⟨e7, _⟩, e9, _⟩ := hu
        go_step
        exact hK _ _ _ _ (by simp [Act.put]; done) (.alloc _ _ _) (SL.aw_in ⟨w'.heap.size, _, _, ⟨rfl, rfl⟩, ⟨hs5, World.alloc_heap_new _ _, rfl⟩, rfl⟩) (fun j hj => .inr (by simp at hj; subst hj; simp))
      · refine SLG.ob_sp rfl rfl rfl fun us w' Fe hG hu hd Kx hK => ?_
        try dsimp only
        simp [SL.Used, SL.pu, SL.row, SL.box, SL.rowIn, SL.boxIn, SL.boxAt, SL.boxAtIn, SLF.pq, Act.put, SL.aw_sub, SL.aw_use, SL.aw_eat, SL.aw_V, SL.aw_quiet, SL.rows2, SL.boxRows2] at hu
        have hB5 : Below w3.heap.size w3 w' := hG.below'
        obtain ⟨hc5, hf5⟩ := bcell hB5
        have hs5 := hB5.size
        refine SLF.wpo_do (SLF.wanted_free rfl) ?hd5 ?_
        case hd5 => intro c h; cases h
        obtain ⟨N, F1, F2, ⟨hx, rfl⟩, ⟨hN, hbl, rfl⟩, hF⟩ := SL.aw_out hu
        go_step
        refine (hU1 w' N hbl (hp1'.below hB5) (hq1'.below hB5)).mono ?_
        rintro e w6 ⟨v, rfl, hb6, ho6⟩
        exact hK _ v w6 _ (by simp [Act.put]; done) (.of_below hb6) ⟨SL.row_base ho6 hs5, rfl⟩ (fun k hk => .inr (SL.row_bounds ho6 k hk))
      · refine SLG.ob_sp rfl rfl rfl fun us w' Fe hG hu hd Kx hK => ?_
        try dsimp only
        simp [SL.Used, SL.pu, SL.row, SL.box, SL.rowIn, SL.boxIn, SL.boxAt, SL.boxAtIn, SLF.pq, Act.put, SL.aw_sub, SL.aw_use, SL.aw_eat, SL.aw_V, SL.aw_quiet, SL.rows2, SL.boxRows2] at hu
        have hB5 : Below w3.heap.size w3 w' := hG.below'
        obtain ⟨hc5, hf5⟩ := bcell hB5
        have hs5 := hB5.size
        refine SLF.wpo_do (SLF.wanted_free rfl) ?hd5 ?_
        case hd5 => intro c h; cases h
        obtain ⟨⟨e7, _⟩, e9, _⟩ := hu
        go_step
        exact hK _ _ _ _ (by simp [Act.put]; done) (.alloc _ _ _) (SL.aw_in ⟨w'.heap.size, _, _, ⟨rfl, rfl⟩, ⟨hs5, World.alloc_heap_new _ _, rfl⟩, rfl⟩) (fun j hj => .inr (by simp at hj; subst hj; simp))
      · refine SLG.ob_sp rfl rfl rfl fun us w' Fe hG hu hd Kx hK => ?_
        try dsimp only
        simp [SL.Used, SL.pu, SL.row, SL.box, SL.rowIn, SL.boxIn, SL.boxAt, SL.boxAtIn, SLF.pq, Act.put, SL.aw_sub, SL.aw_use, SL.aw_eat, SL.aw_V, SL.aw_quiet, SL.rows2, SL.boxRows2] at hu
        have hB5 : Below w3.heap.size w3 w' := hG.below'
        obtain ⟨hc5, hf5⟩ := bcell hB5
        have hs5 := hB5.size
        refine SLF.wpo_do (SLF.wanted_free rfl) ?hd5 ?_
        case hd5 => intro c h; cases h
        obtain ⟨N, F1, F2, ⟨hx, rfl⟩, ⟨hN, hbl, rfl⟩, hF⟩ := SL.aw_out hu
        go_step
        refine (hU2 w' N hbl (hp2'.below hB5) (hq2'.below hB5)).mono ?_
        rintro e w6 ⟨v, rfl, hb6, ho6⟩
        exact hK _ v w6 _ (by simp [Act.put]; done) (.of_below hb6) ⟨SL.row_base ho6 hs5, rfl⟩ (fun k hk => .inr (SL.row_bounds ho6 k hk))
      · refine SLG.ob_sp rfl rfl rfl fun us w' Fe hG hu hd Kx hK => ?_
        try dsimp only
        simp [SL.Used, SL.pu, SL.row, SL.box, SL.rowIn, SL.boxIn, SL.boxAt, SL.boxAtIn, SLF.pq, Act.put, SL.aw_sub, SL.aw_use, SL.aw_eat, SL.aw_V, SL.aw_quiet, SL.rows2, SL.boxRows2] at hu
        have hB5 : Below w3.heap.size w3 w' := hG.below'
        obtain ⟨hc5, hf5⟩ := bcell hB5
        have hs5 := hB5.size
        refine SLF.wpo_do (SLF.wanted_free rfl) ?hd5 ?_
        case hd5 => intro c h; cases h
        obtain ⟨⟨ho1, e1⟩, ⟨e3, _⟩, ⟨e4, _⟩, ⟨e5, _⟩, ho2, e2⟩ := hu
        obtain ⟨sa1, sc1, e6, _⟩ := owns_slice ho1
        obtain ⟨ra1, rc1, e7, _⟩ := owns_slice ho2
        rw [e6] at ho1 e1
        rw [e7] at ho2 e2
        go_step
        refine hK _ _ _ _ (by simp [Act.put]; done) (SL.Chg.refl _ _) ⟨_, _, rfl, ho1, ho2, rfl⟩ ?_
        intro k hk
        left
        simpa [SL.rows2, e1, e2] using hk
      · refine SLG.ob_sp rfl rfl rfl fun us w' Fe hG hu hd Kx hK => ?_
        try dsimp only
        simp [SL.Used, SL.pu, SL.row, SL.box, SL.rowIn, SL.boxIn, SL.boxAt, SL.boxAtIn, SLF.pq, Act.put, SL.aw_sub, SL.aw_use, SL.aw_eat, SL.aw_V, SL.aw_quiet, SL.rows2, SL.boxRows2] at hu
        have hB5 : Below w3.heap.size w3 w' := hG.below'
        obtain ⟨hc5, hf5⟩ := bcell hB5
        have hs5 := hB5.size
        refine SLF.wpo_do (SLF.wanted_free rfl) ?hd5 ?_
        case hd5 => intro c h; cases h
        go_step
        exact hK _ _ _ _ (by simp [Act.put]; done) (.alloc _ _ _) ⟨_, rfl, hs5, World.alloc_heap_new _ _, rfl⟩ (by simp)
      · refine SLG.ob_no rfl rfl rfl fun us w' Fe hG hu hd Kx hK => ?_
        try dsimp only
        simp [SL.Used, SL.pu, SL.row, SL.box, SL.rowIn, SL.boxIn, SL.boxAt, SL.boxAtIn, SLF.pq, Act.put, SL.aw_sub, SL.aw_use, SL.aw_eat, SL.aw_V, SL.aw_quiet, SL.rows2, SL.boxRows2] at hu
        have hB5 : Below w3.heap.size w3 w' := hG.below'
        obtain ⟨hc5, hf5⟩ := bcell hB5
        have hs5 := hB5.size
        refine SLF.wpo_do (SLF.wanted_free rfl) ?hd5 ?_
        case hd5 => intro c h; cases h
        obtain ⟨⟨y, z, u1, u2, u3, u4⟩, N, u5, u6, u7, u8⟩ := hu
        have hd1 := hd 22 23 (by simp [SL.boxRows2]) (by simp [SL.boxRows2]) (by simp)
        rw [u4, u8] at hd1
        have n1 : N ∉ y.ownBlock.toList := fun h => hd1 N (by simp only [List.mem_append]; exact .inl h) (by simp)
        have n2 : N ∉ z.ownBlock.toList := fun h => hd1 N (by simp only [List.mem_append]; exact .inr h) (by simp)
        obtain ⟨sa1, sc1, rfl, _⟩ := owns_slice u2
        obtain ⟨ra1, rc1, rfl, _⟩ := owns_slice u3
        obtain ⟨y0, y1, y2, y3, y4, y5, y6, y7, yf, yl⟩ := cell8w u7
        clear hd1
        go_step
        refine hK _ _ (SLG.chg_set8 _ (by simp [SL.boxRows2, u8]) ..) ⟨N, _, _, u5, u6, SLG.heap_set8 u7 .., ⟨fun h => n1 (by simpa using h), fun h => n2 (by simpa using h)⟩, SLG.row_set8 u2 n1 .., SLG.row_set8 u3 n2 .., rfl⟩ ?_
        · intro k hk
          left
          simp [SL.boxRows2, u4, u8] at hk ⊢
          grind
    case hck5 => kernel_rfl
    case hkp5 => kernel_rfl
    intro us w5 Fs hG hu hbd hd
    simp [SL.Used, SL.boxRows2] at hu
    obtain ⟨N, u5, u6, y, z, u7, ⟨m1, m2⟩, ho1, ho2, _⟩ := hu
    have hB5 : Below w3.heap.size w3 w5 := hG.below'
    obtain ⟨y0, y1, y2, y3, y4, y5, y6, y7, yf, yl⟩ := cell8w u7
    have hcc := (bcell hB5).1
    rw [← hcc _ _ z0] at p1 p2
    rw [← hcc _ _ z1] at q1 q2 q3 q4 q5 q6
    rw [← hcc _ _ z2] at s0 s1 s2 s3 s4 s5 s6 s7
    have f3 : ∀ i, w5.frozen? ⟨w.heap.size + 1 + 1, i, none⟩ = false := fun i => by rw [(bcell hB5).2 _ _ z2]; exact f2 i
    obtain ⟨sa3, sc3, rfl, _⟩ := owns_slice ho1
    obtain ⟨ra3, rc3, rfl, _⟩ := owns_slice ho2
    have l1 : (⟨N, 0, none⟩ : Addr).block ∉ (Value.slice sa3 S.length sc3).ownBlock.toList := fun h => m1 (by simpa using h)
    have l2 : (⟨N, 0, none⟩ : Addr).block ∉ (Value.slice ra3 R.length rc3).ownBlock.toList := fun h => m2 (by simpa using h)
    have l3 : (⟨w.heap.size + 1 + 1, 0, none⟩ : Addr).block ∉ (Value.slice sa3 S.length sc3).ownBlock.toList := fun h => by have := SL.row_bounds ho1 _ h; simp at this; omega
    have l4 : (⟨w.heap.size + 1 + 1, 0, none⟩ : Addr).block ∉ (Value.slice ra3 R.length rc3).ownBlock.toList := fun h => by have := SL.row_bounds ho2 _ h; simp at this; omega
    have ho1 := SL.row_base ho1 hwz
    have ho2 := SL.row_base ho2 hwz
    have L1 := Lib.hid l1
    have L2 := Lib.hid l2
    have L3 := Lib.hid l3
    have L4 := Lib.hid l4
    clear l1 l2 l3 l4 m1 m2
    have hBB := hB3.ch2 hB5
    have k0 := Nat.lt_of_lt_of_le z0 hB5.size
    have k1 := Nat.lt_of_lt_of_le z1 hB5.size
    have k2 := Nat.lt_of_lt_of_le z2 hB5.size
    clear hcc hbd hd hG p0 p3 p4 p5 p6 p7 q0 q7 f2
    have nN0 : w.heap.size ≠ N := by omega
    have nN1 : w.heap.size + 1 ≠ N := by omega
    have nN2 : w.heap.size + 1 + 1 ≠ N := by omega
    have mN0 : N ≠ w.heap.size := by omega
    have mN1 : N ≠ w.heap.size + 1 := by omega
    have mN2 : N ≠ w.heap.size + 1 + 1 := by omega
    have hwN : w.heap.size ≤ N := by omega
    simp only [u5]
    clear u5 u6 z0 z1 z2 hB5 y0 y1 y2 y3 y4 y5 y6 y7 yf
    by_cases a1 : lo < lo2
    · have b1 : decide (lo < lo2) = true := by simpa using a1
      have A1 := Lib.hid a1
      go_wp2_with fail
      apply SLG.rule0 ?hm6 [N] [36, 37, 38, 39, 40, 41, 42, 43, 44, 45] [SLF.pq 36 [] _, SLF.pq 37 [0] _, SLF.pq 38 [1] _, SLF.pq 39 [] _, SLF.pq 40 [3] _, SLF.pq 41 [4] _, SLF.pq 42 [] _, SLF.pq 43 [6] _, SL.aw 0 [2, 7, 12] [12] (fun _ => .blk 0 N 49 #[.slice sa3 S.length sc3, .int .i64 lo2, .int .i64 hi, .int .i64 lob, .int .i64 hib, .bool true, .int .i64 fby, .slice ra3 R.length rc3]), SLF.pq 44 [] _, SLF.pq 45 [9] _, SL.aw 0 [5, 8, 10] [8] (fun _ => .blk 0 N 49 #[.slice sa3 S.length sc3, .int .i64 lo2, .int .i64 hi, .int .i64 lob2, .int .i64 hib, .bool true, .int .i64 fby, .slice ra3 R.length rc3]), SL.blk [] [] N 49 #[.slice sa3 S.length sc3, .int .i64 lo, .int .i64 hi, .int .i64 lob, .int .i64 hib, .bool true, .int .i64 fby, .slice ra3 R.length rc3]] [11] ?hck6 ?hkp6 (fun i => if i = 12 then [N] else []) ?hin6 ?hdj6 ?hfr6 ?ob6 ?en6
      case hm6 => kernel_rfl
      case hin6 => exact SL.one_held rfl rfl ⟨u7, rfl⟩ yl
      case hdj6 => exact SL.one_apart
      case hfr6 => intro us; simp only [SL.frame, SL.put']; simp; exact rfl
      case ob6 =>
        refine ⟨?_, ?_, ?_, ?_, ?_, ?_, ?_, ?_, ?_, ?_, ?_, ?_, trivial⟩
        all_goals first
          | (intro us w' Fe hG hu hd hv Kx hK
             try dsimp only
             simp [SL.Used, SL.pu, SL.row, SL.box, SL.rowIn, SL.boxIn, SL.boxAt, SL.boxAtIn, SLF.pq, Act.put, SL.aw_sub, SL.aw_use, SL.aw_eat, SL.aw_V, SL.aw_quiet, SL.blk] at hu hK
             have hB5 : Below w.heap.size w w' := hBB.trans (hG.belowF hBB.size (by simp; omega))
             obtain ⟨hc5, hf5⟩ := bcell hB5
             have hs5 := hB5.size
             obtain ⟨hc6, hf6⟩ := hG.cellsF
             clear hv
             refine SLF.wpo_do (SLF.wanted_free rfl) ?hd6 ?_
             case hd6 => intro c h; cases h
             clear hd
             first
               | (go_step; exact hK _ _ _ (SL.Chg.refl _ _) (by first | exact rfl | (simp only [hu]; exact rfl)) rfl (by simp) rfl)
               | exact hK _ _ _ (SL.Chg.refl _ _) rfl rfl (by simp) rfl)
          | skip
        · refine SLG.ob_no rfl rfl rfl fun us w' Fe hG hu hd Kx hK => ?_
          try dsimp only
          simp [SL.Used, SL.pu, SL.row, SL.box, SL.rowIn, SL.boxIn, SL.boxAt, SL.boxAtIn, SLF.pq, Act.put, SL.aw_sub, SL.aw_use, SL.aw_eat, SL.aw_V, SL.aw_quiet, SL.blk] at hu
          have hB5 : Below w.heap.size w w' := hBB.trans (hG.belowF hBB.size (by simp; omega))
          obtain ⟨hc5, hf5⟩ := bcell hB5
          have hs5 := hB5.size
          obtain ⟨hc6, hf6⟩ := hG.cellsF
          refine SLF.wpo_do (SLF.wanted_free rfl) ?hd6 ?_
          case hd6 => intro c h; cases h
          obtain ⟨⟨e1, _⟩, ⟨e2, _⟩, hb', e5⟩ := hu
          obtain ⟨y0, y1, y2, y3, y4, y5, y6, y7, yf, _⟩ := cell8w hb'
          go_step
          exact hK _ _ (.setCell _ (by simp [SL.aw_eat, e5]) _) (SL.aw_in ⟨Nat.zero_le _, by simpa using SL.heap_set hb' (.int .i64 lo2) (i := 1), rfl⟩) (fun q hq => .inl (by simpa [SL.aw_eat, e5] using hq))
        · refine SLG.ob_no rfl rfl rfl fun us w' Fe hG hu hd Kx hK => ?_
          try dsimp only
          simp [SL.Used, SL.pu, SL.row, SL.box, SL.rowIn, SL.boxIn, SL.boxAt, SL.boxAtIn, SLF.pq, Act.put, SL.aw_sub, SL.aw_use, SL.aw_eat, SL.aw_V, SL.aw_quiet, SL.blk] at hu
          have hB5 : Below w.heap.size w w' := hBB.trans (hG.belowF hBB.size (by simp; omega))
          obtain ⟨hc5, hf5⟩ := bcell hB5
          have hs5 := hB5.size
          obtain ⟨hc6, hf6⟩ := hG.cellsF
          refine SLF.wpo_do (SLF.wanted_free rfl) ?hd6 ?_
          case hd6 => intro c h; cases h
          obtain ⟨⟨e1, _⟩, h2, e2, _⟩ := hu
          obtain ⟨_, hb', e5⟩ := SL.aw_out h2
          obtain ⟨y0, y1, y2, y3, y4, y5, y6, y7, yf, _⟩ := cell8w hb'
          go_step
          exact hK _ _ (.setCell _ (by simp [SL.aw_eat, e5]) _) (SL.aw_in ⟨Nat.zero_le _, by simpa using SL.heap_set hb' (.int .i64 lob2) (i := 3), rfl⟩) (fun q hq => .inl (by simpa [SL.aw_eat, e5] using hq))
      case hck6 => kernel_rfl
      case hkp6 => kernel_rfl
      intro us w6 Fs hG hu hbd hd
      simp [SL.Used, SL.aw_sub] at hu
      obtain ⟨_, u7', _⟩ := SL.aw_out hu
      replace u7 := u7'
      have hX : SL.Chg [N] w5 w6 := ⟨hG.os, hG.tape, hG.output, hG.size, hG.block⟩
      clear hu hbd hd hG u7'
      replace hBB := hBB.trans (hX.belowW hBB.size (by simp; omega))
      obtain ⟨cc, ff⟩ := hX.cellsW
      replace p1 := (cc _ _ k0 (by simp [nN0])).trans p1
      replace p2 := (cc _ _ k0 (by simp [nN0])).trans p2
      replace q1 := (cc _ _ k1 (by simp [nN1])).trans q1
      replace q2 := (cc _ _ k1 (by simp [nN1])).trans q2
      replace q3 := (cc _ _ k1 (by simp [nN1])).trans q3
      replace q4 := (cc _ _ k1 (by simp [nN1])).trans q4
      replace q5 := (cc _ _ k1 (by simp [nN1])).trans q5
      replace q6 := (cc _ _ k1 (by simp [nN1])).trans q6
      replace s0 := (cc _ _ k2 (by simp [nN2])).trans s0
      replace s1 := (cc _ _ k2 (by simp [nN2])).trans s1
      replace s2 := (cc _ _ k2 (by simp [nN2])).trans s2
      replace s3 := (cc _ _ k2 (by simp [nN2])).trans s3
      replace s4 := (cc _ _ k2 (by simp [nN2])).trans s4
      replace s5 := (cc _ _ k2 (by simp [nN2])).trans s5
      replace s6 := (cc _ _ k2 (by simp [nN2])).trans s6
      replace s7 := (cc _ _ k2 (by simp [nN2])).trans s7
      replace f3 : ∀ i, World.frozen? w6 ⟨w.heap.size + 1 + 1, i, none⟩ = false := fun i => (ff _ _ k2 (by simp [nN2])).trans (f3 i)
      replace ho1 := SL.row_stab ho1 fun k hk => hX.block k (SL.row_bounds ho1 k hk).2 (fun h => L1.out (by simp at h; subst h; exact hk))
      replace ho2 := SL.row_stab ho2 fun k hk => hX.block k (SL.row_bounds ho2 k hk).2 (fun h => L2.out (by simp at h; subst h; exact hk))
      replace k0 := Nat.lt_of_lt_of_le k0 hX.size
      replace k1 := Nat.lt_of_lt_of_le k1 hX.size
      replace k2 := Nat.lt_of_lt_of_le k2 hX.size
      replace yl := Nat.lt_of_lt_of_le yl hX.size
      clear cc ff hX
      by_cases a2 : hi2 < hi
      · have b2 : decide (hi2 < hi) = true := by simpa using a2
        have A2 := Lib.hid a2
        go_wp2_with fail
        apply SLG.rule0 ?hm7 [N] [53, 54, 55, 56, 57, 58, 59, 60, 61, 62] [SLF.pq 53 [] _, SLF.pq 54 [0] _, SLF.pq 55 [1] _, SLF.pq 56 [] _, SLF.pq 57 [3] _, SLF.pq 58 [4] _, SLF.pq 59 [] _, SLF.pq 60 [6] _, SL.aw 0 [2, 7, 12] [12] (fun _ => .blk 0 N 49 #[.slice sa3 S.length sc3, .int .i64 lo2, .int .i64 hi2, .int .i64 lob2, .int .i64 hib, .bool true, .int .i64 fby, .slice ra3 R.length rc3]), SLF.pq 61 [] _, SLF.pq 62 [9] _, SL.aw 0 [5, 8, 10] [8] (fun _ => .blk 0 N 49 #[.slice sa3 S.length sc3, .int .i64 lo2, .int .i64 hi2, .int .i64 lob2, .int .i64 hib2, .bool true, .int .i64 fby, .slice ra3 R.length rc3]), SL.blk [] [] N 49 #[.slice sa3 S.length sc3, .int .i64 lo2, .int .i64 hi, .int .i64 lob2, .int .i64 hib, .bool true, .int .i64 fby, .slice ra3 R.length rc3]] [11] ?hck7 ?hkp7 (fun i => if i = 12 then [N] else []) ?hin7 ?hdj7 ?hfr7 ?ob7 ?en7
        case hm7 => kernel_rfl
        case hin7 => exact SL.one_held rfl rfl ⟨u7, rfl⟩ yl
        case hdj7 => exact SL.one_apart
        case hfr7 => intro us; simp only [SL.frame, SL.put']; simp; exact rfl
        case ob7 =>
          refine ⟨?_, ?_, ?_, ?_, ?_, ?_, ?_, ?_, ?_, ?_, ?_, ?_, trivial⟩
          all_goals first
            | (intro us w' Fe hG hu hd hv Kx hK
               try dsimp only
               simp [SL.Used, SL.pu, SL.row, SL.box, SL.rowIn, SL.boxIn, SL.boxAt, SL.boxAtIn, SLF.pq, Act.put, SL.aw_sub, SL.aw_use, SL.aw_eat, SL.aw_V, SL.aw_quiet, SL.blk] at hu hK
               have hB5 : Below w.heap.size w w' := hBB.trans (hG.belowF hBB.size (by simp; omega))
               obtain ⟨hc5, hf5⟩ := bcell hB5
               have hs5 := hB5.size
               obtain ⟨hc6, hf6⟩ := hG.cellsF
               clear hv
               refine SLF.wpo_do (SLF.wanted_free rfl) ?hd7 ?_
               case hd7 => intro c h; cases h
               clear hd
               first
                 | (go_step; exact hK _ _ _ (SL.Chg.refl _ _) (by first | exact rfl | (simp only [hu]; exact rfl)) rfl (by simp) rfl)
                 | exact hK _ _ _ (SL.Chg.refl _ _) rfl rfl (by simp) rfl)
            | skip
          · refine SLG.ob_no rfl rfl rfl fun us w' Fe hG hu hd Kx hK => ?_
            try dsimp only
            simp [SL.Used, SL.pu, SL.row, SL.box, SL.rowIn, SL.boxIn, SL.boxAt, SL.boxAtIn, SLF.pq, Act.put, SL.aw_sub, SL.aw_use, SL.aw_eat, SL.aw_V, SL.aw_quiet, SL.blk] at hu
            have hB5 : Below w.heap.size w w' := hBB.trans (hG.belowF hBB.size (by simp; omega))
            obtain ⟨hc5, hf5⟩ := bcell hB5
            have hs5 := hB5.size
            obtain ⟨hc6, hf6⟩ := hG.cellsF
            refine SLF.wpo_do (SLF.wanted_free rfl) ?hd7 ?_
            case hd7 => intro c h; cases h
            obtain ⟨⟨e1, _⟩, ⟨e2, _⟩, hb', e5⟩ := hu
            obtain ⟨y0, y1, y2, y3, y4, y5, y6, y7, yf, _⟩ := cell8w hb'
            go_step
            exact hK _ _ (.setCell _ (by simp [SL.aw_eat, e5]) _) (SL.aw_in ⟨Nat.zero_le _, by simpa using SL.heap_set hb' (.int .i64 hi2) (i := 2), rfl⟩) (fun q hq => .inl (by simpa [SL.aw_eat, e5] using hq))
          · refine SLG.ob_no rfl rfl rfl fun us w' Fe hG hu hd Kx hK => ?_
            try dsimp only
            simp [SL.Used, SL.pu, SL.row, SL.box, SL.rowIn, SL.boxIn, SL.boxAt, SL.boxAtIn, SLF.pq, Act.put, SL.aw_sub, SL.aw_use, SL.aw_eat, SL.aw_V, SL.aw_quiet, SL.blk] at hu
            have hB5 : Below w.heap.size w w' := hBB.trans (hG.belowF hBB.size (by simp; omega))
            obtain ⟨hc5, hf5⟩ := bcell hB5
            have hs5 := hB5.size
            obtain ⟨hc6, hf6⟩ := hG.cellsF
            refine SLF.wpo_do (SLF.wanted_free rfl) ?hd7 ?_
            case hd7 => intro c h; cases h
            obtain ⟨⟨e1, _⟩, h2, e2, _⟩ := hu
            obtain ⟨_, hb', e5⟩ := SL.aw_out h2
            obtain ⟨y0, y1, y2, y3, y4, y5, y6, y7, yf, _⟩ := cell8w hb'
            go_step
            exact hK _ _ (.setCell _ (by simp [SL.aw_eat, e5]) _) (SL.aw_in ⟨Nat.zero_le _, by simpa using SL.heap_set hb' (.int .i64 hib2) (i := 4), rfl⟩) (fun q hq => .inl (by simpa [SL.aw_eat, e5] using hq))
        case hck7 => kernel_rfl
        case hkp7 => kernel_rfl
        intro us w7 Fs hG hu hbd hd
        simp [SL.Used, SL.aw_sub] at hu
        obtain ⟨_, u7', _⟩ := SL.aw_out hu
        replace u7 := u7'
        have hX : SL.Chg [N] w6 w7 := ⟨hG.os, hG.tape, hG.output, hG.size, hG.block⟩
        clear hu hbd hd hG u7'
        replace hBB := hBB.trans (hX.belowW hBB.size (by simp; omega))
        obtain ⟨cc, ff⟩ := hX.cellsW
        replace p1 := (cc _ _ k0 (by simp [nN0])).trans p1
        replace p2 := (cc _ _ k0 (by simp [nN0])).trans p2
        replace q1 := (cc _ _ k1 (by simp [nN1])).trans q1
        replace q2 := (cc _ _ k1 (by simp [nN1])).trans q2
        replace q3 := (cc _ _ k1 (by simp [nN1])).trans q3
        replace q4 := (cc _ _ k1 (by simp [nN1])).trans q4
        replace q5 := (cc _ _ k1 (by simp [nN1])).trans q5
        replace q6 := (cc _ _ k1 (by simp [nN1])).trans q6
        replace s0 := (cc _ _ k2 (by simp [nN2])).trans s0
        replace s1 := (cc _ _ k2 (by simp [nN2])).trans s1
        replace s2 := (cc _ _ k2 (by simp [nN2])).trans s2
        replace s3 := (cc _ _ k2 (by simp [nN2])).trans s3
        replace s4 := (cc _ _ k2 (by simp [nN2])).trans s4
        replace s5 := (cc _ _ k2 (by simp [nN2])).trans s5
        replace s6 := (cc _ _ k2 (by simp [nN2])).trans s6
        replace s7 := (cc _ _ k2 (by simp [nN2])).trans s7
        replace f3 : ∀ i, World.frozen? w7 ⟨w.heap.size + 1 + 1, i, none⟩ = false := fun i => (ff _ _ k2 (by simp [nN2])).trans (f3 i)
        replace ho1 := SL.row_stab ho1 fun k hk => hX.block k (SL.row_bounds ho1 k hk).2 (fun h => L1.out (by simp at h; subst h; exact hk))
        replace ho2 := SL.row_stab ho2 fun k hk => hX.block k (SL.row_bounds ho2 k hk).2 (fun h => L2.out (by simp at h; subst h; exact hk))
        replace k0 := Nat.lt_of_lt_of_le k0 hX.size
        replace k1 := Nat.lt_of_lt_of_le k1 hX.size
        replace k2 := Nat.lt_of_lt_of_le k2 hX.size
        replace yl := Nat.lt_of_lt_of_le yl hX.size
        clear cc ff hX
        obtain ⟨y0, y1, y2, y3, y4, y5, y6, y7, yf, _⟩ := cell8w u7
        cases ft2
        · have HMM : Hid (max fby fby2 = fby) := Lib.hid (by have h := HM.out; simp at h; omega)
          have hpost := Lib.hid (show ∀ w', Below w.heap.size w w' → OwnPt w' w.heap.size ⟨sa3, sc3, S, lo2, hi2, lob2, hib2, true, fby, ra3, rc3, R⟩ → MergedPost w ⟨sa, sc, sh, lo, hi, lob, hib, true, fby, ra, rc, re⟩ ⟨sa2, sc2, sh2, lo2, hi2, lob2, hib2, false, fby2, ra2, rc2, re2⟩ (.returned (.agg #[.slice sa3 S.length sc3, .int .i64 lo2, .int .i64 hi2, .int .i64 lob2, .int .i64 hib2, .bool true, .int .i64 fby, .slice ra3 R.length rc3])) w' from fun w' hb ho => by
            refine ⟨sa3, sc3, ra3, rc3, ?_, hb, ?_⟩
            · simp [gluPt, Pt.v, HS.out, HR.out, HMM.out, (show lo < lo2 from A1.out), (show hi2 < hi from A2.out)]
            · simpa [gluPt, HS.out, HR.out, HMM.out, (show lo < lo2 from A1.out), (show hi2 < hi from A2.out)] using ho)
          clear a1 a2 A1 A2 HS HR HM HMM
          go_wp2_with fail
          refine bodyPost_ret (v := .agg #[.slice sa3 S.length sc3, .int .i64 lo2, .int .i64 hi2, .int .i64 lob2, .int .i64 hib2, .bool true, .int .i64 fby, .slice ra3 R.length rc3]) (by simp [results, Tryz.results69, go_sem, *]) rfl (hpost.out _ ?_ ⟨?_, ?_⟩)
          · repeat (refine Below.setCell ?_ (by simp; omega) _)
            exact hBB
          · repeat (refine SL.row_set ?_ (by first | exact L1.out | exact L3.out) _)
            exact ho1
          · repeat (refine SL.row_set ?_ (by first | exact L2.out | exact L4.out) _)
            exact ho2
        · have HMM : Hid (max fby fby2 = fby2) := Lib.hid (by have h := HM.out; simp at h; omega)
          have hpost := Lib.hid (show ∀ w', Below w.heap.size w w' → OwnPt w' w.heap.size ⟨sa3, sc3, S, lo2, hi2, lob2, hib2, true, fby2, ra3, rc3, R⟩ → MergedPost w ⟨sa, sc, sh, lo, hi, lob, hib, true, fby, ra, rc, re⟩ ⟨sa2, sc2, sh2, lo2, hi2, lob2, hib2, true, fby2, ra2, rc2, re2⟩ (.returned (.agg #[.slice sa3 S.length sc3, .int .i64 lo2, .int .i64 hi2, .int .i64 lob2, .int .i64 hib2, .bool true, .int .i64 fby2, .slice ra3 R.length rc3])) w' from fun w' hb ho => by
            refine ⟨sa3, sc3, ra3, rc3, ?_, hb, ?_⟩
            · simp [gluPt, Pt.v, HS.out, HR.out, HMM.out, (show lo < lo2 from A1.out), (show hi2 < hi from A2.out)]
            · simpa [gluPt, HS.out, HR.out, HMM.out, (show lo < lo2 from A1.out), (show hi2 < hi from A2.out)] using ho)
          clear a1 a2 A1 A2 HS HR HM HMM
          go_wp2_with fail
          refine bodyPost_ret (v := .agg #[.slice sa3 S.length sc3, .int .i64 lo2, .int .i64 hi2, .int .i64 lob2, .int .i64 hib2, .bool true, .int .i64 fby2, .slice ra3 R.length rc3]) (by simp [results, Tryz.results69, go_sem, *]) rfl (hpost.out _ ?_ ⟨?_, ?_⟩)
          · repeat (refine Below.setCell ?_ (by simp; omega) _)
            exact hBB
          · repeat (refine SL.row_set ?_ (by first | exact L1.out | exact L3.out) _)
            exact ho1
          · repeat (refine SL.row_set ?_ (by first | exact L2.out | exact L4.out) _)
            exact ho2
      · have b2 : decide (hi2 < hi) = false := by simpa using a2
        have A2 := Lib.hid a2
        obtain ⟨y0, y1, y2, y3, y4, y5, y6, y7, yf, _⟩ := cell8w u7
        cases ft2
        · have HMM : Hid (max fby fby2 = fby) := Lib.hid (by have h := HM.out; simp at h; omega)
          have hpost := Lib.hid (show ∀ w', Below w.heap.size w w' → OwnPt w' w.heap.size ⟨sa3, sc3, S, lo2, hi, lob2, hib, true, fby, ra3, rc3, R⟩ → MergedPost w ⟨sa, sc, sh, lo, hi, lob, hib, true, fby, ra, rc, re⟩ ⟨sa2, sc2, sh2, lo2, hi2, lob2, hib2, false, fby2, ra2, rc2, re2⟩ (.returned (.agg #[.slice sa3 S.length sc3, .int .i64 lo2, .int .i64 hi, .int .i64 lob2, .int .i64 hib, .bool true, .int .i64 fby, .slice ra3 R.length rc3])) w' from fun w' hb ho => by
            refine ⟨sa3, sc3, ra3, rc3, ?_, hb, ?_⟩
            · simp [gluPt, Pt.v, HS.out, HR.out, HMM.out, (show lo < lo2 from A1.out), (show ¬ hi2 < hi by have := A2.out; omega)]
            · simpa [gluPt, HS.out, HR.out, HMM.out, (show lo < lo2 from A1.out), (show ¬ hi2 < hi by have := A2.out; omega)] using ho)
          clear a1 a2 A1 A2 HS HR HM HMM
          go_wp2_with fail
          refine bodyPost_ret (v := .agg #[.slice sa3 S.length sc3, .int .i64 lo2, .int .i64 hi, .int .i64 lob2, .int .i64 hib, .bool true, .int .i64 fby, .slice ra3 R.length rc3]) (by simp [results, Tryz.results69, go_sem, *]) rfl (hpost.out _ ?_ ⟨?_, ?_⟩)
          · repeat (refine Below.setCell ?_ (by simp; omega) _)
            exact hBB
          · repeat (refine SL.row_set ?_ (by first | exact L1.out | exact L3.out) _)
            exact ho1
          · repeat (refine SL.row_set ?_ (by first | exact L2.out | exact L4.out) _)
            exact ho2
        · have HMM : Hid (max fby fby2 = fby2) := Lib.hid (by have h := HM.out; simp at h; omega)
          have hpost := Lib.hid (show ∀ w', Below w.heap.size w w' → OwnPt w' w.heap.size ⟨sa3, sc3, S, lo2, hi, lob2, hib, true, fby2, ra3, rc3, R⟩ → MergedPost w ⟨sa, sc, sh, lo, hi, lob, hib, true, fby, ra, rc, re⟩ ⟨sa2, sc2, sh2, lo2, hi2, lob2, hib2, true, fby2, ra2, rc2, re2⟩ (.returned (.agg #[.slice sa3 S.length sc3, .int .i64 lo2, .int .i64 hi, .int .i64 lob2, .int .i64 hib, .bool true, .int .i64 fby2, .slice ra3 R.length rc3])) w' from fun w' hb ho => by
            refine ⟨sa3, sc3, ra3, rc3, ?_, hb, ?_⟩
            · simp [gluPt, Pt.v, HS.out, HR.out, HMM.out, (show lo < lo2 from A1.out), (show ¬ hi2 < hi by have := A2.out; omega)]
            · simpa [gluPt, HS.out, HR.out, HMM.out, (show lo < lo2 from A1.out), (show ¬ hi2 < hi by have := A2.out; omega)] using ho)
          clear a1 a2 A1 A2 HS HR HM HMM
          go_wp2_with fail
          refine bodyPost_ret (v := .agg #[.slice sa3 S.length sc3, .int .i64 lo2, .int .i64 hi, .int .i64 lob2, .int .i64 hib, .bool true, .int .i64 fby2, .slice ra3 R.length rc3]) (by simp [results, Tryz.results69, go_sem, *]) rfl (hpost.out _ ?_ ⟨?_, ?_⟩)
          · repeat (refine Below.setCell ?_ (by simp; omega) _)
            exact hBB
          · repeat (refine SL.row_set ?_ (by first | exact L1.out | exact L3.out) _)
            exact ho1
          · repeat (refine SL.row_set ?_ (by first | exact L2.out | exact L4.out) _)
            exact ho2
    · have b1 : decide (lo < lo2) = false := by simpa using a1
      have A1 := Lib.hid a1
      by_cases a2 : hi2 < hi
      · have b2 : decide (hi2 < hi) = true := by simpa using a2
        have A2 := Lib.hid a2
        go_wp2_with fail
        apply SLG.rule0 ?hm8 [N] [53, 54, 55, 56, 57, 58, 59, 60, 61, 62] [SLF.pq 53 [] _, SLF.pq 54 [0] _, SLF.pq 55 [1] _, SLF.pq 56 [] _, SLF.pq 57 [3] _, SLF.pq 58 [4] _, SLF.pq 59 [] _, SLF.pq 60 [6] _, SL.aw 0 [2, 7, 12] [12] (fun _ => .blk 0 N 49 #[.slice sa3 S.length sc3, .int .i64 lo, .int .i64 hi2, .int .i64 lob, .int .i64 hib, .bool true, .int .i64 fby, .slice ra3 R.length rc3]), SLF.pq 61 [] _, SLF.pq 62 [9] _, SL.aw 0 [5, 8, 10] [8] (fun _ => .blk 0 N 49 #[.slice sa3 S.length sc3, .int .i64 lo, .int .i64 hi2, .int .i64 lob, .int .i64 hib2, .bool true, .int .i64 fby, .slice ra3 R.length rc3]), SL.blk [] [] N 49 #[.slice sa3 S.length sc3, .int .i64 lo, .int .i64 hi, .int .i64 lob, .int .i64 hib, .bool true, .int .i64 fby, .slice ra3 R.length rc3]] [11] ?hck8 ?hkp8 (fun i => if i = 12 then [N] else []) ?hin8 ?hdj8 ?hfr8 ?ob8 ?en8
        case hm8 => kernel_rfl
        case hin8 => exact SL.one_held rfl rfl ⟨u7, rfl⟩ yl
        case hdj8 => exact SL.one_apart
        case hfr8 => intro us; simp only [SL.frame, SL.put']; simp; exact rfl
        case ob8 =>
          refine ⟨?_, ?_, ?_, ?_, ?_, ?_, ?_, ?_, ?_, ?_, ?_, ?_, trivial⟩
          all_goals first
            | (intro us w' Fe hG hu hd hv Kx hK
               try dsimp only
               simp [SL.Used, SL.pu, SL.row, SL.box, SL.rowIn, SL.boxIn, SL.boxAt, SL.boxAtIn, SLF.pq, Act.put, SL.aw_sub, SL.aw_use, SL.aw_eat, SL.aw_V, SL.aw_quiet, SL.blk] at hu hK
               have hB5 : Below w.heap.size w w' := hBB.trans (hG.belowF hBB.size (by simp; omega))
               obtain ⟨hc5, hf5⟩ := bcell hB5
               have hs5 := hB5.size
               obtain ⟨hc6, hf6⟩ := hG.cellsF
               clear hv
               refine SLF.wpo_do (SLF.wanted_free rfl) ?hd8 ?_
               case hd8 => intro c h; cases h
               clear hd
               first
                 | (go_step; exact hK _ _ _ (SL.Chg.refl _ _) (by first | exact rfl | (simp only [hu]; exact rfl)) rfl (by simp) rfl)
                 | exact hK _ _ _ (SL.Chg.refl _ _) rfl rfl (by simp) rfl)
            | skip
          · refine SLG.ob_no rfl rfl rfl fun us w' Fe hG hu hd Kx hK => ?_
            try dsimp only
            simp [SL.Used, SL.pu, SL.row, SL.box, SL.rowIn, SL.boxIn, SL.boxAt, SL.boxAtIn, SLF.pq, Act.put, SL.aw_sub, SL.aw_use, SL.aw_eat, SL.aw_V, SL.aw_quiet, SL.blk] at hu
            have hB5 : Below w.heap.size w w' := hBB.trans (hG.belowF hBB.size (by simp; omega))
            obtain ⟨hc5, hf5⟩ := bcell hB5
            have hs5 := hB5.size
            obtain ⟨hc6, hf6⟩ := hG.cellsF
            refine SLF.wpo_do (SLF.wanted_free rfl) ?hd8 ?_
            case hd8 => intro c h; cases h
            obtain ⟨⟨e1, _⟩, ⟨e2, _⟩, hb', e5⟩ := hu
            obtain ⟨y0, y1, y2, y3, y4, y5, y6, y7, yf, _⟩ := cell8w hb'
            go_step
            exact hK _ _ (.setCell _ (by simp [SL.aw_eat, e5]) _) (SL.aw_in ⟨Nat.zero_le _, by simpa using SL.heap_set hb' (.int .i64 hi2) (i := 2), rfl⟩) (fun q hq => .inl (by simpa [SL.aw_eat, e5] using hq))
          · refine SLG.ob_no rfl rfl rfl fun us w' Fe hG hu hd Kx hK => ?_
            try dsimp only
            simp [SL.Used, SL.pu, SL.row, SL.box, SL.rowIn, SL.boxIn, SL.boxAt, SL.boxAtIn, SLF.pq, Act.put, SL.aw_sub, SL.aw_use, SL.aw_eat, SL.aw_V, SL.aw_quiet, SL.blk] at hu
            have hB5 : Below w.heap.size w w' := hBB.trans (hG.belowF hBB.size (by simp; omega))
            obtain ⟨hc5, hf5⟩ := bcell hB5
            have hs5 := hB5.size
            obtain ⟨hc6, hf6⟩ := hG.cellsF
            refine SLF.wpo_do (SLF.wanted_free rfl) ?hd8 ?_
            case hd8 => intro c h; cases h
            obtain ⟨⟨e1, _⟩, h2, e2, _⟩ := hu
            obtain ⟨_, hb', e5⟩ := SL.aw_out h2
            obtain ⟨y0, y1, y2, y3, y4, y5, y6, y7, yf, _⟩ := cell8w hb'
            go_step
            exact hK _ _ (.setCell _ (by simp [SL.aw_eat, e5]) _) (SL.aw_in ⟨Nat.zero_le _, by simpa using SL.heap_set hb' (.int .i64 hib2) (i := 4), rfl⟩) (fun q hq => .inl (by simpa [SL.aw_eat, e5] using hq))
        case hck8 => kernel_rfl
        case hkp8 => kernel_rfl
        intro us w7 Fs hG hu hbd hd
        simp [SL.Used, SL.aw_sub] at hu
        obtain ⟨_, u7', _⟩ := SL.aw_out hu
        replace u7 := u7'
        have hX : SL.Chg [N] w5 w7 := ⟨hG.os, hG.tape, hG.output, hG.size, hG.block⟩
        clear hu hbd hd hG u7'
        replace hBB := hBB.trans (hX.belowW hBB.size (by simp; omega))
        obtain ⟨cc, ff⟩ := hX.cellsW
        replace p1 := (cc _ _ k0 (by simp [nN0])).trans p1
        replace p2 := (cc _ _ k0 (by simp [nN0])).trans p2
        replace q1 := (cc _ _ k1 (by simp [nN1])).trans q1
        replace q2 := (cc _ _ k1 (by simp [nN1])).trans q2
        replace q3 := (cc _ _ k1 (by simp [nN1])).trans q3
        replace q4 := (cc _ _ k1 (by simp [nN1])).trans q4
        replace q5 := (cc _ _ k1 (by simp [nN1])).trans q5
        replace q6 := (cc _ _ k1 (by simp [nN1])).trans q6
        replace s0 := (cc _ _ k2 (by simp [nN2])).trans s0
        replace s1 := (cc _ _ k2 (by simp [nN2])).trans s1
        replace s2 := (cc _ _ k2 (by simp [nN2])).trans s2
        replace s3 := (cc _ _ k2 (by simp [nN2])).trans s3
        replace s4 := (cc _ _ k2 (by simp [nN2])).trans s4
        replace s5 := (cc _ _ k2 (by simp [nN2])).trans s5
        replace s6 := (cc _ _ k2 (by simp [nN2])).trans s6
        replace s7 := (cc _ _ k2 (by simp [nN2])).trans s7
        replace f3 : ∀ i, World.frozen? w7 ⟨w.heap.size + 1 + 1, i, none⟩ = false := fun i => (ff _ _ k2 (by simp [nN2])).trans (f3 i)
        replace ho1 := SL.row_stab ho1 fun k hk => hX.block k (SL.row_bounds ho1 k hk).2 (fun h => L1.out (by simp at h; subst h; exact hk))
        replace ho2 := SL.row_stab ho2 fun k hk => hX.block k (SL.row_bounds ho2 k hk).2 (fun h => L2.out (by simp at h; subst h; exact hk))
        replace k0 := Nat.lt_of_lt_of_le k0 hX.size
        replace k1 := Nat.lt_of_lt_of_le k1 hX.size
        replace k2 := Nat.lt_of_lt_of_le k2 hX.size
        replace yl := Nat.lt_of_lt_of_le yl hX.size
        clear cc ff hX
        obtain ⟨y0, y1, y2, y3, y4, y5, y6, y7, yf, _⟩ := cell8w u7
        cases ft2
        · have HMM : Hid (max fby fby2 = fby) := Lib.hid (by have h := HM.out; simp at h; omega)
          have hpost := Lib.hid (show ∀ w', Below w.heap.size w w' → OwnPt w' w.heap.size ⟨sa3, sc3, S, lo, hi2, lob, hib2, true, fby, ra3, rc3, R⟩ → MergedPost w ⟨sa, sc, sh, lo, hi, lob, hib, true, fby, ra, rc, re⟩ ⟨sa2, sc2, sh2, lo2, hi2, lob2, hib2, false, fby2, ra2, rc2, re2⟩ (.returned (.agg #[.slice sa3 S.length sc3, .int .i64 lo, .int .i64 hi2, .int .i64 lob, .int .i64 hib2, .bool true, .int .i64 fby, .slice ra3 R.length rc3])) w' from fun w' hb ho => by
            refine ⟨sa3, sc3, ra3, rc3, ?_, hb, ?_⟩
            · simp [gluPt, Pt.v, HS.out, HR.out, HMM.out, (show ¬ lo < lo2 by have := A1.out; omega), (show hi2 < hi from A2.out)]
            · simpa [gluPt, HS.out, HR.out, HMM.out, (show ¬ lo < lo2 by have := A1.out; omega), (show hi2 < hi from A2.out)] using ho)
          clear a1 a2 A1 A2 HS HR HM HMM
          go_wp2_with fail
          refine bodyPost_ret (v := .agg #[.slice sa3 S.length sc3, .int .i64 lo, .int .i64 hi2, .int .i64 lob, .int .i64 hib2, .bool true, .int .i64 fby, .slice ra3 R.length rc3]) (by simp [results, Tryz.results69, go_sem, *]) rfl (hpost.out _ ?_ ⟨?_, ?_⟩)
          · repeat (refine Below.setCell ?_ (by simp; omega) _)
            exact hBB
          · repeat (refine SL.row_set ?_ (by first | exact L1.out | exact L3.out) _)
            exact ho1
          · repeat (refine SL.row_set ?_ (by first | exact L2.out | exact L4.out) _)
            exact ho2
        · have HMM : Hid (max fby fby2 = fby2) := Lib.hid (by have h := HM.out; simp at h; omega)
          have hpost := Lib.hid (show ∀ w', Below w.heap.size w w' → OwnPt w' w.heap.size ⟨sa3, sc3, S, lo, hi2, lob, hib2, true, fby2, ra3, rc3, R⟩ → MergedPost w ⟨sa, sc, sh, lo, hi, lob, hib, true, fby, ra, rc, re⟩ ⟨sa2, sc2, sh2, lo2, hi2, lob2, hib2, true, fby2, ra2, rc2, re2⟩ (.returned (.agg #[.slice sa3 S.length sc3, .int .i64 lo, .int .i64 hi2, .int .i64 lob, .int .i64 hib2, .bool true, .int .i64 fby2, .slice ra3 R.length rc3])) w' from fun w' hb ho => by
            refine ⟨sa3, sc3, ra3, rc3, ?_, hb, ?_⟩
            · simp [gluPt, Pt.v, HS.out, HR.out, HMM.out, (show ¬ lo < lo2 by have := A1.out; omega), (show hi2 < hi from A2.out)]
            · simpa [gluPt, HS.out, HR.out, HMM.out, (show ¬ lo < lo2 by have := A1.out; omega), (show hi2 < hi from A2.out)] using ho)
          clear a1 a2 A1 A2 HS HR HM HMM
          go_wp2_with fail
          refine bodyPost_ret (v := .agg #[.slice sa3 S.length sc3, .int .i64 lo, .int .i64 hi2, .int .i64 lob, .int .i64 hib2, .bool true, .int .i64 fby2, .slice ra3 R.length rc3]) (by simp [results, Tryz.results69, go_sem, *]) rfl (hpost.out _ ?_ ⟨?_, ?_⟩)
          · repeat (refine Below.setCell ?_ (by simp; omega) _)
            exact hBB
          · repeat (refine SL.row_set ?_ (by first | exact L1.out | exact L3.out) _)
            exact ho1
          · repeat (refine SL.row_set ?_ (by first | exact L2.out | exact L4.out) _)
            exact ho2
      · have b2 : decide (hi2 < hi) = false := by simpa using a2
        have A2 := Lib.hid a2
        obtain ⟨y0, y1, y2, y3, y4, y5, y6, y7, yf, _⟩ := cell8w u7
        cases ft2
        · have HMM : Hid (max fby fby2 = fby) := Lib.hid (by have h := HM.out; simp at h; omega)
          have hpost := Lib.hid (show ∀ w', Below w.heap.size w w' → OwnPt w' w.heap.size ⟨sa3, sc3, S, lo, hi, lob, hib, true, fby, ra3, rc3, R⟩ → MergedPost w ⟨sa, sc, sh, lo, hi, lob, hib, true, fby, ra, rc, re⟩ ⟨sa2, sc2, sh2, lo2, hi2, lob2, hib2, false, fby2, ra2, rc2, re2⟩ (.returned (.agg #[.slice sa3 S.length sc3, .int .i64 lo, .int .i64 hi, .int .i64 lob, .int .i64 hib, .bool true, .int .i64 fby, .slice ra3 R.length rc3])) w' from fun w' hb ho => by
            refine ⟨sa3, sc3, ra3, rc3, ?_, hb, ?_⟩
            · simp [gluPt, Pt.v, HS.out, HR.out, HMM.out, (show ¬ lo < lo2 by have := A1.out; omega), (show ¬ hi2 < hi by have := A2.out; omega)]
            · simpa [gluPt, HS.out, HR.out, HMM.out, (show ¬ lo < lo2 by have := A1.out; omega), (show ¬ hi2 < hi by have := A2.out; omega)] using ho)
          clear a1 a2 A1 A2 HS HR HM HMM
          go_wp2_with fail
          refine bodyPost_ret (v := .agg #[.slice sa3 S.length sc3, .int .i64 lo, .int .i64 hi, .int .i64 lob, .int .i64 hib, .bool true, .int .i64 fby, .slice ra3 R.length rc3]) (by simp [results, Tryz.results69, go_sem, *]) rfl (hpost.out _ ?_ ⟨?_, ?_⟩)
          · repeat (refine Below.setCell ?_ (by simp; omega) _)
            exact hBB
          · repeat (refine SL.row_set ?_ (by first | exact L1.out | exact L3.out) _)
            exact ho1
          · repeat (refine SL.row_set ?_ (by first | exact L2.out | exact L4.out) _)
            exact ho2
        · have HMM : Hid (max fby fby2 = fby2) := Lib.hid (by have h := HM.out; simp at h; omega)
          have hpost := Lib.hid (show ∀ w', Below w.heap.size w w' → OwnPt w' w.heap.size ⟨sa3, sc3, S, lo, hi, lob, hib, true, fby2, ra3, rc3, R⟩ → MergedPost w ⟨sa, sc, sh, lo, hi, lob, hib, true, fby, ra, rc, re⟩ ⟨sa2, sc2, sh2, lo2, hi2, lob2, hib2, true, fby2, ra2, rc2, re2⟩ (.returned (.agg #[.slice sa3 S.length sc3, .int .i64 lo, .int .i64 hi, .int .i64 lob, .int .i64 hib, .bool true, .int .i64 fby2, .slice ra3 R.length rc3])) w' from fun w' hb ho => by
            refine ⟨sa3, sc3, ra3, rc3, ?_, hb, ?_⟩
            · simp [gluPt, Pt.v, HS.out, HR.out, HMM.out, (show ¬ lo < lo2 by have := A1.out; omega), (show ¬ hi2 < hi by have := A2.out; omega)]
            · simpa [gluPt, HS.out, HR.out, HMM.out, (show ¬ lo < lo2 by have := A1.out; omega), (show ¬ hi2 < hi by have := A2.out; omega)] using ho)
          clear a1 a2 A1 A2 HS HR HM HMM
          go_wp2_with fail
          refine bodyPost_ret (v := .agg #[.slice sa3 S.length sc3, .int .i64 lo, .int .i64 hi, .int .i64 lob, .int .i64 hib, .bool true, .int .i64 fby2, .slice ra3 R.length rc3]) (by simp [results, Tryz.results69, go_sem, *]) rfl (hpost.out _ ?_ ⟨?_, ?_⟩)
          · repeat (refine Below.setCell ?_ (by simp; omega) _)
            exact hBB
          · repeat (refine SL.row_set ?_ (by first | exact L1.out | exact L3.out) _)
            exact ho1
          · repeat (refine SL.row_set ?_ (by first | exact L2.out | exact L4.out) _)
            exact ho2
end Go.Proofs.YtodkbfbbpfghiaaGreat
