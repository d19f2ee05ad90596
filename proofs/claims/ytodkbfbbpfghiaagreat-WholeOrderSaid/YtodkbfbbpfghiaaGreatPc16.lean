/-
  Lemmas and walks for the laws on roads and boards: what each function of the program answers, for every input.
-/
import Derived.Test.YtodkbfbbpfghiaaGreatPc15
import Derived.Test.YtodkbfbbpfghiaaGreatPc11
import Derived.Test.YtodkbfbbpfghiaaGreatPc07
set_option linter.unusedSimpArgs false
set_option linter.unusedVariables false
set_option linter.unnecessarySimpa false
namespace Go.Proofs.YtodkbfbbpfghiaaGreat
open Go.RowKit Go.Shelf
set_option maxHeartbeats 4000000
set_option maxRecDepth 100000
theorem rws2 {w : World} {N size : Nat} {t : TypeId} {x y : Rw} (h : w.heap[N]? = some (.cells #[x.v, y.v] t (0, 0))) (hx : RwOk w size x) (hy : RwOk w size y) : RwsAt w size (some ⟨N, 0, none⟩) 2 2 [x, y] :=
  ⟨rfl, by simp, RowAt.of_heap h, fun z hz => by
    simp at hz
    rcases hz with rfl | rfl
    · exact hx
    · exact hy⟩
theorem bools_one (l : List Bool) : ∀ u ∈ l.map Value.bool, u.oneCell' = true := fun u hu => by
  obtain ⟨b, _, rfl⟩ := List.mem_map.1 hu
  rfl
theorem rcs_take (l : List (Int × Int)) (X : Nat) (h : X ≤ l.length) : (rcs l).take (X * 2) = rcs (l.take X) := by
  conv => lhs; rw [← List.take_append_drop X l, rcs_append]
  rw [List.take_left' (by rw [rcs_length, List.length_take]; omega)]
theorem rcs_drop (l : List (Int × Int)) (X : Nat) (h : X ≤ l.length) : (rcs l).drop (X * 2) = rcs (l.drop X) := by
  conv => lhs; rw [← List.take_append_drop X l, rcs_append]
  rw [List.drop_left' (by rw [rcs_length, List.length_take]; omega)]
theorem wwithout (a : Option Addr) (ca : Nat) (f : Option Addr) (cf n X : Nat) (s : List Pn) (w : World) (hs : SpansAt w a ca f cf n s) (hX : X < s.length) (hn : s.length ≤ 100) (hra : n ≤ ca) (hrf : n ≤ cf) :
    Calls Tryz.prog 83 #[spV a ca f cf n, .int .i64 X] w (SpansPost w (s.eraseIdx X)) := by
  obtain rfl := hs.len
  obtain ⟨b, o, d, q, rfl, rfl, bl, dl, _, _, _⟩ := hs.get hX
  have hK : (s.eraseIdx X).length = s.length - 1 := by rw [List.length_eraseIdx, if_pos hX]
  have hV1 : rcs ((s.eraseIdx X).map fun p => (p.lo, p.hi)) = rcs ((s.map fun p => (p.lo, p.hi)).take X) ++ rcs ((s.map fun p => (p.lo, p.hi)).drop (X + 1)) := by
    rw [← rcs_append, List.eraseIdx_eq_take_drop_succ, List.map_append, List.map_take, List.map_drop]
  have hV2 : ((s.eraseIdx X).map (·.ft)).map Value.bool = ((s.map (·.ft)).map Value.bool).take X ++ ((s.map (·.ft)).map Value.bool).drop (X + 1) := by
    rw [List.eraseIdx_eq_take_drop_succ, List.map_append, List.map_append, List.map_take, List.map_drop, List.map_take, List.map_drop]
  have hQ : ∀ e w' a ca f cf, e = .returned (.agg #[.slice a (s.eraseIdx X).length ca, .slice f (s.eraseIdx X).length cf]) → Below w.heap.size w w' → w'.ownsRow w.heap.size 33 2 (.slice a (s.eraseIdx X).length ca) (s.eraseIdx X).length (rcs ((s.eraseIdx X).map fun p => (p.lo, p.hi))) →
      w'.ownsRow w.heap.size 4 1 (.slice f (s.eraseIdx X).length cf) (s.eraseIdx X).length (((s.eraseIdx X).map (·.ft)).map Value.bool) → SpansPost w (s.eraseIdx X) e w' := fun e w' a ca f cf h1 h2 h3 h4 => ⟨a, ca, f, cf, h1, h2, h3, h4⟩
  have hRa := hs.at_.row
  have hRf := hs.ft.row
  have hrl : (rcs (s.map fun p => (p.lo, p.hi))).length = s.length * 2 := by rw [rcs_length, List.length_map]
  have ht1 := rcs_take (s.map fun p => (p.lo, p.hi)) X (by rw [List.length_map]; omega)
  have ht2 := rcs_drop (s.map fun p => (p.lo, p.hi)) (X + 1) (by rw [List.length_map]; omega)
  have hT1 : ∀ W, Below w.heap.size w W → RwOk W 2 ⟨some ⟨b, o, none⟩, X, X, rcs ((s.map fun p => (p.lo, p.hi)).take X)⟩ := fun W h =>
    ⟨.inl (by rw [← ht1]; exact rowTake (hRa.below h) _ _ (fun h => by cases h)), by rw [rcs_length, List.length_take, List.length_map]; simp only; congr 1; omega, rcs_one _, by simp only; omega⟩
  have hT2 : ∀ W o2 c2, Below w.heap.size w W → (o2 = o + (X + 1) * 2 ∨ s.length = X + 1) → RwOk W 2 ⟨some ⟨b, o2, none⟩, s.length - (X + 1), c2, rcs ((s.map fun p => (p.lo, p.hi)).drop (X + 1))⟩ := fun W o2 c2 h ho =>
    ⟨.inl (by
      rw [← ht2]
      refine rowDrop (hRa.below h) _ ?_
      rcases ho with ho | ho
      · left; rw [ho]
      · right; exact ⟨by rw [hrl]; omega, _, rfl⟩), by rw [rcs_length, List.length_drop, List.length_map], rcs_one _, by simp only; omega⟩
  have hT3 : ∀ W, Below w.heap.size w W → RwOk W 1 ⟨some ⟨d, q, none⟩, X, X, ((s.map (·.ft)).map Value.bool).take X⟩ := fun W h =>
    ⟨.inl (rowTake (hRf.below h) _ _ (fun h => by cases h)), by rw [List.length_take]; simp; omega, fun u hu => bools_one _ u (List.mem_of_mem_take hu), by simp only; omega⟩
  have hT4 : ∀ W q2 c2, Below w.heap.size w W → (q2 = q + (X + 1) ∨ s.length = X + 1) → RwOk W 1 ⟨some ⟨d, q2, none⟩, s.length - (X + 1), c2, ((s.map (·.ft)).map Value.bool).drop (X + 1)⟩ := fun W q2 c2 h ho =>
    ⟨.inl (by
      refine rowDrop (hRf.below h) _ ?_
      rcases ho with ho | ho
      · left; rw [ho]
      · right; exact ⟨by simp; omega, _, rfl⟩), by simp, fun u hu => bools_one _ u (List.mem_of_mem_drop hu), by simp only; omega⟩
  have hC1 : ∀ W N o2 c2, Below w.heap.size w W → (o2 = o + (X + 1) * 2 ∨ s.length = X + 1) → W.heap[N]? = some (.cells #[.slice (some ⟨b, o, none⟩) X X, .slice (some ⟨b, o2, none⟩) (s.length - (X + 1)) c2] 35 (0, 0)) →
      Calls Tryz.prog 118 #[.slice (some ⟨N, 0, none⟩) 2 2] W (RowPost W 33 2 (s.eraseIdx X).length (rcs ((s.eraseIdx X).map fun p => (p.lo, p.hi)))) := fun W N o2 c2 h ho hbl => by
    have := concatR (some ⟨N, 0, none⟩) 2 2 _ W (rws2 (x := ⟨some ⟨b, o, none⟩, X, X, rcs ((s.map fun p => (p.lo, p.hi)).take X)⟩) (y := ⟨some ⟨b, o2, none⟩, s.length - (X + 1), c2, rcs ((s.map fun p => (p.lo, p.hi)).drop (X + 1))⟩) hbl (hT1 W h) (hT2 W o2 c2 h ho))
    simp only [totR, celR, List.map_cons, List.map_nil, List.sum_cons, List.sum_nil, List.flatMap_cons, List.flatMap_nil, List.append_nil, Nat.add_zero] at this
    rw [hV1, show (s.eraseIdx X).length = X + (s.length - (X + 1)) by omega]
    exact this
  have hC2 : ∀ W N q2 c2, Below w.heap.size w W → (q2 = q + (X + 1) ∨ s.length = X + 1) → W.heap[N]? = some (.cells #[.slice (some ⟨d, q, none⟩) X X, .slice (some ⟨d, q2, none⟩) (s.length - (X + 1)) c2] 81 (0, 0)) →
      Calls Tryz.prog 119 #[.slice (some ⟨N, 0, none⟩) 2 2] W (RowPost W 4 1 (s.eraseIdx X).length (((s.eraseIdx X).map (·.ft)).map Value.bool)) := fun W N q2 c2 h ho hbl => by
    have := concatF (some ⟨N, 0, none⟩) 2 2 _ W (rws2 (x := ⟨some ⟨d, q, none⟩, X, X, ((s.map (·.ft)).map Value.bool).take X⟩) (y := ⟨some ⟨d, q2, none⟩, s.length - (X + 1), c2, ((s.map (·.ft)).map Value.bool).drop (X + 1)⟩) hbl (hT3 W h) (hT4 W q2 c2 h ho))
    simp only [totR, celR, List.map_cons, List.map_nil, List.sum_cons, List.sum_nil, List.flatMap_cons, List.flatMap_nil, List.append_nil, Nat.add_zero] at this
    rw [hV2, show (s.eraseIdx X).length = X + (s.length - (X + 1)) by omega]
    exact this
  generalize SpansPost w (s.eraseIdx X) = Post at *
  generalize rcs ((s.eraseIdx X).map fun p => (p.lo, p.hi)) = V1 at *
  generalize ((s.eraseIdx X).map (·.ft)).map Value.bool = V2 at *
  generalize (s.eraseIdx X).length = K at *
  have HQ := Lib.hid hQ
  have HC1 := Lib.hid hC1
  have HC2 := Lib.hid hC2
  have hs0 := hs
  clear hQ hC1 hC2 hT1 hT2 hT3 hT4 ht1 ht2 hrl hRa hRf hV1 hV2 hK hs
  have x1 : (X : Int) ≤ (ca : Int) := by omega
  have x2 : (X : Int) ≤ (s.length : Int) := by omega
  have x3 : (0 : Int) ≤ (X : Int) := by omega
  have x4 : IntKind.i64.wrap ((X : Int) + 1) = (X : Int) + 1 := IntWalk.i64_in _ (by omega)
  have x5 : (X : Int) + 1 ≤ (s.length : Int) := by omega
  have x6 : (0 : Int) ≤ (X : Int) + 1 := by omega
  have x7 : ((X : Int) + 1).toNat = X + 1 := by omega
  have x8 : (X : Int) + 1 ≤ (ca : Int) := by omega
  have x9 : (s.length : Int) ≤ (ca : Int) := by omega
  have z1 : (X : Int) ≤ (cf : Int) := by omega
  have z8 : (X : Int) + 1 ≤ (cf : Int) := by omega
  have z9 : (s.length : Int) ≤ (cf : Int) := by omega
  unfold spV
  go_enter Tryz.func83, Tryz.ntmps83
  go_wp2_with fail
  generalize hw1 : (w.alloc (Obj.cells #[.slice (some ⟨b, o, none⟩) s.length ca, .slice (some ⟨d, q, none⟩) s.length cf] 83)).alloc (Obj.cells #[.slice none 0 0, .slice none 0 0] 83) = w1
  have hBW : Below w.heap.size w w1 := by rw [← hw1]; ((repeat (first | assumption | exact Below.refl _ _ | refine Below.alloc ?_ ?_ _ | refine Below.setCell ?_ ?_ _ | refine Below.drew ?_ | refine belowN ?_ | refine Below.up ?_ (by assumption) ?_)) <;> (first | assumption | omega | (simp; done) | (simp; omega)))
  have hz1 : w.heap.size < w1.heap.size := by rw [← hw1]; simp; omega
  have hz2 : w.heap.size + 1 < w1.heap.size := by rw [← hw1]; simp
  have zw := hBW.size
  have c0 : w1.cell? ⟨w.heap.size, 0, none⟩ = some (.slice (some ⟨b, o, none⟩) s.length ca) := by rw [← hw1]; simp [go_sem]
  have c1 : w1.cell? ⟨w.heap.size, 1, none⟩ = some (.slice (some ⟨d, q, none⟩) s.length cf) := by rw [← hw1]; simp [go_sem]
  have hbox : w1.heap[w.heap.size + 1]? = some (.cells #[.slice none 0 0, .slice none 0 0] 83 (0, 0)) := by rw [← hw1]; exact heap_alloc2_new w _ _
  clear hw1
  by_cases hcx : ca = X + 1
  · have Hn1 := Lib.hid (show s.length = X + 1 by omega)
    subst hcx
    have y1 : ((X : Int) + 1 == ((X + 1 : Nat) : Int)) = true := by simp
    by_cases hcz : cf = X + 1
    · have Hn1 := Lib.hid (show s.length = X + 1 by omega)
      subst hcz
      have v1 : ((X : Int) + 1 == ((X + 1 : Nat) : Int)) = true := by simp
      have hU1 : ∀ W N, Below w.heap.size w W → W.heap[N]? = some (Obj.cells #[.slice (some ⟨b, o, none⟩) X X, .slice (some ⟨b, o, none⟩) 0 0] 35 (0, 0)) → _ := fun W N h hbl => HC1.out W N o 0 h (.inr Hn1.out) (by rw [show s.length - (X + 1) = 0 by have := Hn1.out; omega]; exact hbl)
      have hU2 : ∀ W N, Below w.heap.size w W → W.heap[N]? = some (Obj.cells #[.slice (some ⟨d, q, none⟩) X X, .slice (some ⟨d, q, none⟩) 0 0] 81 (0, 0)) → _ := fun W N h hbl => HC2.out W N q 0 h (.inr Hn1.out) (by rw [show s.length - (X + 1) = 0 by have := Hn1.out; omega]; exact hbl)
      apply SLG.rule0 ?hm1 [w.heap.size + 1] [5, 6, 7, 8, 9, 10, 11, 12, 13, 14, 15, 16, 17, 18, 19, 20, 21, 22, 23, 24, 25, 26, 27, 28, 29] [SLF.pq 5 [] _, SLF.pq 6 [0] _, SLF.pq 7 [] _, SLF.pq 8 [] _, SLF.pq 9 [1, 2, 3] _, SLF.pq 10 [] _, SLF.pq 11 [5] _, SLF.pq 12 [] _, SLF.pq 13 [7] _, SLF.pq 14 [6, 8] _, SL.aw 15 [4, 9] [] (fun x => .ex fun N : Nat => .sep (.pure (x = .slice (some ⟨N, 0, none⟩) 2 2)) (.blk w.heap.size N 35 #[.slice (some ⟨b, o, none⟩) X X, .slice (some ⟨b, o, none⟩) (0) (0)])), SL.row 16 [10] [] w.heap.size 33 2 K V1, SLF.pq 17 [] _, SLF.pq 18 [12] _, SLF.pq 19 [] _, SLF.pq 20 [] _, SLF.pq 21 [13, 14, 15] _, SLF.pq 22 [] _, SLF.pq 23 [17] _, SLF.pq 24 [] _, SLF.pq 25 [19] _, SLF.pq 26 [18, 20] _, SL.aw 27 [16, 21] [] (fun x => .ex fun N : Nat => .sep (.pure (x = .slice (some ⟨N, 0, none⟩) 2 2)) (.blk w.heap.size N 81 #[.slice (some ⟨d, q, none⟩) X X, .slice (some ⟨d, q, none⟩) (0) (0)])), SL.row 28 [22] [] w.heap.size 4 1 K V2, SL.aw 29 [11, 23] [11, 23] (fun x => .ex fun y : Value => .ex fun z : Value => .sep (.pure (x = .agg #[y, z])) (.sepd (.row w.heap.size 33 2 y K V1) (.row w.heap.size 4 1 z K V2))), SL.aw 4 [24, 26] [24, 26] (fun _ => .ex fun y : Value => .ex fun z : Value => .sep (.blk w.heap.size (w.heap.size + 1) 83 #[y, z]) (.sep (.row w.heap.size 33 2 y K V1) (.row w.heap.size 4 1 z K V2))), SL.boxAt 4 [] [] (w.heap.size + 1) 83 #[.slice none 0 0, .slice none 0 0]] [25] ?hck1 ?hkp1 (fun i => if i = 26 then [w.heap.size + 1] else []) ?hin1 ?hdj1 ?hfr1 ?ob1 ?en1
      case hm1 => kernel_rfl
      case hin1 => exact SL.one_held rfl rfl ⟨rfl, hbox, rfl⟩ hz2
      case hdj1 => exact SL.one_apart
      case hfr1 => intro us; simp only [SL.frame, SL.put']; simp; exact rfl
      case ob1 =>
        refine ⟨?_, ?_, ?_, ?_, ?_, ?_, ?_, ?_, ?_, ?_, ?_, ?_, ?_, ?_, ?_, ?_, ?_, ?_, ?_, ?_, ?_, ?_, ?_, ?_, ?_, ?_, trivial⟩
        all_goals first
          | (intro us w' Fe hG hu hd hv Kx hK
             try dsimp only
             simp [SL.Used, SL.pu, SL.row, SL.box, SL.rowIn, SL.boxIn, SL.boxAt, SL.boxAtIn, SLF.pq, Act.put, SL.aw_sub, SL.aw_use, SL.aw_eat, SL.aw_V, SL.aw_quiet] at hu hK
             have hB5 : Below w.heap.size w w' := hBW.trans (hG.belowF hBW.size (by simp))
             obtain ⟨hc5, hf5⟩ := bcell hB5
             have hs5 := hB5.size
             obtain ⟨hc6, hf6⟩ := hG.cellsF
             clear hv
             refine SLF.wpo_do (SLF.wanted_free rfl) ?hd1 ?_
             case hd1 => intro c h; cases h
             clear hd
             first
               | (go_step; exact hK _ _ _ (SL.Chg.refl _ _) (by first | exact rfl | (simp only [hu]; exact rfl)) rfl (by simp) rfl)
               | exact hK _ _ _ (SL.Chg.refl _ _) rfl rfl (by simp) rfl)
          | skip
        · refine SLG.ob_sp rfl rfl rfl fun us w' Fe hG hu hd Kx hK => ?_
          try dsimp only
          simp [SL.Used, SL.pu, SL.row, SL.box, SL.rowIn, SL.boxIn, SL.boxAt, SL.boxAtIn, SLF.pq, Act.put, SL.aw_sub, SL.aw_use, SL.aw_eat, SL.aw_V, SL.aw_quiet] at hu
          have hB5 : Below w.heap.size w w' := hBW.trans (hG.belowF hBW.size (by simp))
          obtain ⟨hc5, hf5⟩ := bcell hB5
          have hs5 := hB5.size
          obtain ⟨hc6, hf6⟩ := hG.cellsF
          refine SLF.wpo_do (SLF.wanted_free rfl) ?hd1 ?_
          case hd1 => intro c h; cases h
          obtain ⟨⟨e7, _⟩, e9, _⟩ := hu
          go_step
          exact hK _ _ _ _ (by simp [Act.put]; done) (.alloc _ _ _) (SL.aw_in ⟨w'.heap.size, _, _, ⟨rfl, rfl⟩, ⟨hs5, World.alloc_heap_new _ _, rfl⟩, rfl⟩) (fun j hj => .inr (by simp at hj; subst hj; simp))
        · refine SLG.ob_sp rfl rfl rfl fun us w' Fe hG hu hd Kx hK => ?_
          try dsimp only
          simp [SL.Used, SL.pu, SL.row, SL.box, SL.rowIn, SL.boxIn, SL.boxAt, SL.boxAtIn, SLF.pq, Act.put, SL.aw_sub, SL.aw_use, SL.aw_eat, SL.aw_V, SL.aw_quiet] at hu
          have hB5 : Below w.heap.size w w' := hBW.trans (hG.belowF hBW.size (by simp))
          obtain ⟨hc5, hf5⟩ := bcell hB5
          have hs5 := hB5.size
          obtain ⟨hc6, hf6⟩ := hG.cellsF
          refine SLF.wpo_do (SLF.wanted_free rfl) ?hd1 ?_
          case hd1 => intro c h; cases h
          obtain ⟨N, F1, F2, ⟨hx, rfl⟩, ⟨hN, hbl, rfl⟩, hF⟩ := SL.aw_out hu
          go_step
          refine (hU1 w' N hB5 hbl).mono ?_
          rintro e w6 ⟨v, rfl, hb6, ho6⟩
          exact hK _ v w6 _ (by simp [Act.put]; done) (.of_below hb6) ⟨SL.row_base ho6 hs5, rfl⟩ (fun k hk => .inr (SL.row_bounds ho6 k hk))
        · refine SLG.ob_sp rfl rfl rfl fun us w' Fe hG hu hd Kx hK => ?_
          try dsimp only
          simp [SL.Used, SL.pu, SL.row, SL.box, SL.rowIn, SL.boxIn, SL.boxAt, SL.boxAtIn, SLF.pq, Act.put, SL.aw_sub, SL.aw_use, SL.aw_eat, SL.aw_V, SL.aw_quiet] at hu
          have hB5 : Below w.heap.size w w' := hBW.trans (hG.belowF hBW.size (by simp))
          obtain ⟨hc5, hf5⟩ := bcell hB5
          have hs5 := hB5.size
          obtain ⟨hc6, hf6⟩ := hG.cellsF
          refine SLF.wpo_do (SLF.wanted_free rfl) ?hd1 ?_
          case hd1 => intro c h; cases h
          obtain ⟨⟨e7, _⟩, e9, _⟩ := hu
          go_step
          exact hK _ _ _ _ (by simp [Act.put]; done) (.alloc _ _ _) (SL.aw_in ⟨w'.heap.size, _, _, ⟨rfl, rfl⟩, ⟨hs5, World.alloc_heap_new _ _, rfl⟩, rfl⟩) (fun j hj => .inr (by simp at hj; subst hj; simp))
        · refine SLG.ob_sp rfl rfl rfl fun us w' Fe hG hu hd Kx hK => ?_
          try dsimp only
          simp [SL.Used, SL.pu, SL.row, SL.box, SL.rowIn, SL.boxIn, SL.boxAt, SL.boxAtIn, SLF.pq, Act.put, SL.aw_sub, SL.aw_use, SL.aw_eat, SL.aw_V, SL.aw_quiet] at hu
          have hB5 : Below w.heap.size w w' := hBW.trans (hG.belowF hBW.size (by simp))
          obtain ⟨hc5, hf5⟩ := bcell hB5
          have hs5 := hB5.size
          obtain ⟨hc6, hf6⟩ := hG.cellsF
          refine SLF.wpo_do (SLF.wanted_free rfl) ?hd1 ?_
          case hd1 => intro c h; cases h
          obtain ⟨N, F1, F2, ⟨hx, rfl⟩, ⟨hN, hbl, rfl⟩, hF⟩ := SL.aw_out hu
          go_step
          refine (hU2 w' N hB5 hbl).mono ?_
          rintro e w6 ⟨v, rfl, hb6, ho6⟩
          exact hK _ v w6 _ (by simp [Act.put]; done) (.of_below hb6) ⟨SL.row_base ho6 hs5, rfl⟩ (fun k hk => .inr (SL.row_bounds ho6 k hk))
        · refine SLG.ob_sp rfl rfl rfl fun us w' Fe hG hu hd Kx hK => ?_
          try dsimp only
          simp [SL.Used, SL.pu, SL.row, SL.box, SL.rowIn, SL.boxIn, SL.boxAt, SL.boxAtIn, SLF.pq, Act.put, SL.aw_sub, SL.aw_use, SL.aw_eat, SL.aw_V, SL.aw_quiet] at hu
          have hB5 : Below w.heap.size w w' := hBW.trans (hG.belowF hBW.size (by simp))
          obtain ⟨hc5, hf5⟩ := bcell hB5
          have hs5 := hB5.size
          obtain ⟨hc6, hf6⟩ := hG.cellsF
          refine SLF.wpo_do (SLF.wanted_free rfl) ?hd1 ?_
          case hd1 => intro c h; cases h
          obtain ⟨⟨ho1, e1⟩, ho2, e2⟩ := hu
          have hd1 := hd 11 23 (by simp [SL.aw_use]) (by simp [SL.aw_use]) (by simp)
          rw [e1, e2] at hd1
          obtain ⟨sa1, sc1, e6, _⟩ := owns_slice ho1
          obtain ⟨ra1, rc1, e7, _⟩ := owns_slice ho2
          rw [e6] at ho1 e1 hd1
          rw [e7] at ho2 e2 hd1
          go_step
          refine hK _ _ _ _ (by simp [Act.put]; done) (SL.Chg.refl _ _) (SL.aw_in ⟨_, _, _, _, ⟨rfl, rfl⟩, ⟨_, _, ⟨ho1, rfl⟩, ⟨ho2, rfl⟩, hd1, rfl⟩, rfl⟩) ?_
          intro k hk
          left
          simpa [SL.aw_eat, e1, e2] using hk
        · refine SLG.ob_no rfl rfl rfl fun us w' Fe hG hu hd Kx hK => ?_
          try dsimp only
          simp [SL.Used, SL.pu, SL.row, SL.box, SL.rowIn, SL.boxIn, SL.boxAt, SL.boxAtIn, SLF.pq, Act.put, SL.aw_sub, SL.aw_use, SL.aw_eat, SL.aw_V, SL.aw_quiet] at hu
          have hB5 : Below w.heap.size w w' := hBW.trans (hG.belowF hBW.size (by simp))
          obtain ⟨hc5, hf5⟩ := bcell hB5
          have hs5 := hB5.size
          obtain ⟨hc6, hf6⟩ := hG.cellsF
          refine SLF.wpo_do (SLF.wanted_free rfl) ?hd1 ?_
          case hd1 => intro c h; cases h
          obtain ⟨h1, e4, hbl, e2⟩ := hu
          obtain ⟨y, z, F1, F2, ⟨hx, rfl⟩, ⟨F3, F4, ⟨hoy, rfl⟩, ⟨hoz, rfl⟩, hyz, rfl⟩, e24⟩ := SL.aw_out h1
          have hd1 := hd 24 26 (by simp [SL.aw_use]) (by simp [SL.aw_use]) (by simp)
          rw [e24, e2] at hd1
          have n1 : w.heap.size + 1 ∉ y.ownBlock.toList := fun h => hd1 _ (by simp only [List.nil_append, List.mem_append]; exact .inl h) (by simp)
          have n2 : w.heap.size + 1 ∉ z.ownBlock.toList := fun h => hd1 _ (by simp only [List.nil_append, List.mem_append]; exact .inr h) (by simp)
          obtain ⟨sa1, sc1, rfl, _⟩ := owns_slice hoy
          obtain ⟨ra1, rc1, rfl, _⟩ := owns_slice hoz
          obtain ⟨y0, y1, yf, yl⟩ := cell2w hbl
          go_step
          refine hK _ _ (SLG.chg_set2 _ (by simp [SL.aw_eat, e2]) ..) (SL.aw_in ⟨_, _, _, _, ⟨Nat.le_succ _, SLG.heap_set2 hbl .., rfl⟩, ⟨_, _, ⟨SLG.row_set2 hoy n1 .., rfl⟩, ⟨SLG.row_set2 hoz n2 .., rfl⟩, rfl⟩, rfl⟩) ?_
          intro k hk
          left
          simp [SL.aw_eat, e24, e2] at hk ⊢
          grind
      case hck1 => kernel_rfl
      case hkp1 => kernel_rfl
      intro us w5 Fs hG hu hbd hd
      simp [SL.Used, SL.aw_sub] at hu
      obtain ⟨y, z, F1, F2, ⟨_, hbl, rfl⟩, ⟨F3, F4, ⟨hoy, rfl⟩, ⟨hoz, rfl⟩, rfl⟩, _⟩ := SL.aw_out hu
      have hB5 : Below w.heap.size w w5 := hBW.trans (hG.belowF hBW.size (by simp))
      obtain ⟨sa1, sc1, rfl, _⟩ := owns_slice hoy
      obtain ⟨ra1, rc1, rfl, _⟩ := owns_slice hoz
      obtain ⟨y0, y1, yf, yl⟩ := cell2w hbl
      have HF := Lib.hid (HQ.out _ w5 _ _ _ _ rfl hB5 hoy hoz)
      clear hoy hoz hu hbd hd hG hU1 hU2
      go_wp2_with fail
      refine bodyPost_ret (v := .agg #[.slice sa1 K sc1, .slice ra1 K rc1]) (by simp [results, Tryz.results83, go_sem, *]) rfl HF.out
    · have v1 : ((X : Int) + 1 == (cf : Int)) = false := by simp; omega
      have v2 : (X + 1 == cf) = false := by simp; omega
      have hU1 : ∀ W N, Below w.heap.size w W → W.heap[N]? = some (Obj.cells #[.slice (some ⟨b, o, none⟩) X X, .slice (some ⟨b, o, none⟩) 0 0] 35 (0, 0)) → _ := fun W N h hbl => HC1.out W N o 0 h (.inr Hn1.out) (by rw [show s.length - (X + 1) = 0 by have := Hn1.out; omega]; exact hbl)
      have hU2 : ∀ W N, Below w.heap.size w W → W.heap[N]? = some (Obj.cells #[.slice (some ⟨d, q, none⟩) X X, .slice (some ⟨d, q + (X + 1), none⟩) 0 (cf - (X + 1))] 81 (0, 0)) → _ := fun W N h hbl => HC2.out W N (q + (X + 1)) (cf - (X + 1)) h (.inl rfl) (by rw [show s.length - (X + 1) = 0 by have := Hn1.out; omega]; exact hbl)
      apply SLG.rule0 ?hm2 [w.heap.size + 1] [5, 6, 7, 8, 9, 10, 11, 12, 13, 14, 15, 16, 17, 18, 19, 20, 21, 22, 23, 24, 25, 26, 27, 28, 29] [SLF.pq 5 [] _, SLF.pq 6 [0] _, SLF.pq 7 [] _, SLF.pq 8 [] _, SLF.pq 9 [1, 2, 3] _, SLF.pq 10 [] _, SLF.pq 11 [5] _, SLF.pq 12 [] _, SLF.pq 13 [7] _, SLF.pq 14 [6, 8] _, SL.aw 15 [4, 9] [] (fun x => .ex fun N : Nat => .sep (.pure (x = .slice (some ⟨N, 0, none⟩) 2 2)) (.blk w.heap.size N 35 #[.slice (some ⟨b, o, none⟩) X X, .slice (some ⟨b, o, none⟩) (0) (0)])), SL.row 16 [10] [] w.heap.size 33 2 K V1, SLF.pq 17 [] _, SLF.pq 18 [12] _, SLF.pq 19 [] _, SLF.pq 20 [] _, SLF.pq 21 [13, 14, 15] _, SLF.pq 22 [] _, SLF.pq 23 [17] _, SLF.pq 24 [] _, SLF.pq 25 [19] _, SLF.pq 26 [18, 20] _, SL.aw 27 [16, 21] [] (fun x => .ex fun N : Nat => .sep (.pure (x = .slice (some ⟨N, 0, none⟩) 2 2)) (.blk w.heap.size N 81 #[.slice (some ⟨d, q, none⟩) X X, .slice (some ⟨d, q + (X + 1), none⟩) (0) (cf - (X + 1))])), SL.row 28 [22] [] w.heap.size 4 1 K V2, SL.aw 29 [11, 23] [11, 23] (fun x => .ex fun y : Value => .ex fun z : Value => .sep (.pure (x = .agg #[y, z])) (.sepd (.row w.heap.size 33 2 y K V1) (.row w.heap.size 4 1 z K V2))), SL.aw 4 [24, 26] [24, 26] (fun _ => .ex fun y : Value => .ex fun z : Value => .sep (.blk w.heap.size (w.heap.size + 1) 83 #[y, z]) (.sep (.row w.heap.size 33 2 y K V1) (.row w.heap.size 4 1 z K V2))), SL.boxAt 4 [] [] (w.heap.size + 1) 83 #[.slice none 0 0, .slice none 0 0]] [25] ?hck2 ?hkp2 (fun i => if i = 26 then [w.heap.size + 1] else []) ?hin2 ?hdj2 ?hfr2 ?ob2 ?en2
      case hm2 => kernel_rfl
      case hin2 => exact SL.one_held rfl rfl ⟨rfl, hbox, rfl⟩ hz2
      case hdj2 => exact SL.one_apart
      case hfr2 => intro us; simp only [SL.frame, SL.put']; simp; exact rfl
      case ob2 =>
        refine ⟨?_, ?_, ?_, ?_, ?_, ?_, ?_, ?_, ?_, ?_, ?_, ?_, ?_, ?_, ?_, ?_, ?_, ?_, ?_, ?_, ?_, ?_, ?_, ?_, ?_, ?_, trivial⟩
        all_goals first
          | (intro us w' Fe hG hu hd hv Kx hK
             try dsimp only
             simp [SL.Used, SL.pu, SL.row, SL.box, SL.rowIn, SL.boxIn, SL.boxAt, SL.boxAtIn, SLF.pq, Act.put, SL.aw_sub, SL.aw_use, SL.aw_eat, SL.aw_V, SL.aw_quiet] at hu hK
             have hB5 : Below w.heap.size w w' := hBW.trans (hG.belowF hBW.size (by simp))
             obtain ⟨hc5, hf5⟩ := bcell hB5
             have hs5 := hB5.size
             obtain ⟨hc6, hf6⟩ := hG.cellsF
             clear hv
             refine SLF.wpo_do (SLF.wanted_free rfl) ?hd2 ?_
             case hd2 => intro c h; cases h
             clear hd
             first
               | (go_step; exact hK _ _ _ (SL.Chg.refl _ _) (by first | exact rfl | (simp only [hu]; exact rfl)) rfl (by simp) rfl)
               | exact hK _ _ _ (SL.Chg.refl _ _) rfl rfl (by simp) rfl)
          | skip
        · refine SLG.ob_sp rfl rfl rfl fun us w' Fe hG hu hd Kx hK => ?_
          try dsimp only
          simp [SL.Used, SL.pu, SL.row, SL.box, SL.rowIn, SL.boxIn, SL.boxAt, SL.boxAtIn, SLF.pq, Act.put, SL.aw_sub, SL.aw_use, SL.aw_eat, SL.aw_V, SL.aw_quiet] at hu
          have hB5 : Below w.heap.size w w' := hBW.trans (hG.belowF hBW.size (by simp))
          obtain ⟨hc5, hf5⟩ := bcell hB5
          have hs5 := hB5.size
          obtain ⟨hc6, hf6⟩ := hG.cellsF
          refine SLF.wpo_do (SLF.wanted_free rfl) ?hd2 ?_
          case hd2 => intro c h; cases h
          obtain ⟨⟨e7, _⟩, e9, _⟩ := hu
          go_step
          exact hK _ _ _ _ (by simp [Act.put]; done) (.alloc _ _ _) (SL.aw_in ⟨w'.heap.size, _, _, ⟨rfl, rfl⟩, ⟨hs5, World.alloc_heap_new _ _, rfl⟩, rfl⟩) (fun j hj => .inr (by simp at hj; subst hj; simp))
        · refine SLG.ob_sp rfl rfl rfl fun us w' Fe hG hu hd Kx hK => ?_
          try dsimp only
          simp [SL.Used, SL.pu, SL.row, SL.box, SL.rowIn, SL.boxIn, SL.boxAt, SL.boxAtIn, SLF.pq, Act.put, SL.aw_sub, SL.aw_use, SL.aw_eat, SL.aw_V, SL.aw_quiet] at hu
          have hB5 : Below w.heap.size w w' := hBW.trans (hG.belowF hBW.size (by simp))
          obtain ⟨hc5, hf5⟩ := bcell hB5
          have hs5 := hB5.size
          obtain ⟨hc6, hf6⟩ := hG.cellsF
          refine SLF.wpo_do (SLF.wanted_free rfl) ?hd2 ?_
          case hd2 => intro c h; cases h
          obtain ⟨N, F1, F2, ⟨hx, rfl⟩, ⟨hN, hbl, rfl⟩, hF⟩ := SL.aw_out hu
          go_step
          refine (hU1 w' N hB5 hbl).mono ?_
          rintro e w6 ⟨v, rfl, hb6, ho6⟩
          exact hK _ v w6 _ (by simp [Act.put]; done) (.of_below hb6) ⟨SL.row_base ho6 hs5, rfl⟩ (fun k hk => .inr (SL.row_bounds ho6 k hk))
        · refine SLG.ob_sp rfl rfl rfl fun us w' Fe hG hu hd Kx hK => ?_
          try dsimp only
          simp [SL.Used, SL.pu, SL.row, SL.box, SL.rowIn, SL.boxIn, SL.boxAt, SL.boxAtIn, SLF.pq, Act.put, SL.aw_sub, SL.aw_use, SL.aw_eat, SL.aw_V, SL.aw_quiet] at hu
          have hB5 : Below w.heap.size w w' := hBW.trans (hG.belowF hBW.size (by simp))
          obtain ⟨hc5, hf5⟩ := bcell hB5
          have hs5 := hB5.size
          obtain ⟨hc6, hf6⟩ := hG.cellsF
          refine SLF.wpo_do (SLF.wanted_free rfl) ?hd2 ?_
          case hd2 => intro c h; cases h
          obtain ⟨⟨e7, _⟩, e9, _⟩ := hu
          go_step
          exact hK _ _ _ _ (by simp [Act.put]; done) (.alloc _ _ _) (SL.aw_in ⟨w'.heap.size, _, _, ⟨rfl, rfl⟩, ⟨hs5, World.alloc_heap_new _ _, rfl⟩, rfl⟩) (fun j hj => .inr (by simp at hj; subst hj; simp))
        · refine SLG.ob_sp rfl rfl rfl fun us w' Fe hG hu hd Kx hK => ?_
          try dsimp only
          simp [SL.Used, SL.pu, SL.row, SL.box, SL.rowIn, SL.boxIn, SL.boxAt, SL.boxAtIn, SLF.pq, Act.put, SL.aw_sub, SL.aw_use, SL.aw_eat, SL.aw_V, SL.aw_quiet] at hu
          have hB5 : Below w.heap.size w w' := hBW.trans (hG.belowF hBW.size (by simp))
          obtain ⟨hc5, hf5⟩ := bcell hB5
          have hs5 := hB5.size
          obtain ⟨hc6, hf6⟩ := hG.cellsF
          refine SLF.wpo_do (SLF.wanted_free rfl) ?hd2 ?_
          case hd2 => intro c h; cases h
          obtain ⟨N, F1, F2, ⟨hx, rfl⟩, ⟨hN, hbl, rfl⟩, hF⟩ := SL.aw_out hu
          go_step
          refine (hU2 w' N hB5 hbl).mono ?_
          rintro e w6 ⟨v, rfl, hb6, ho6⟩
          exact hK _ v w6 _ (by simp [Act.put]; done) (.of_below hb6) ⟨SL.row_base ho6 hs5, rfl⟩ (fun k hk => .inr (SL.row_bounds ho6 k hk))
        · refine SLG.ob_sp rfl rfl rfl fun us w' Fe hG hu hd Kx hK => ?_
          try dsimp only
          simp [SL.Used, SL.pu, SL.row, SL.box, SL.rowIn, SL.boxIn, SL.boxAt, SL.boxAtIn, SLF.pq, Act.put, SL.aw_sub, SL.aw_use, SL.aw_eat, SL.aw_V, SL.aw_quiet] at hu
          have hB5 : Below w.heap.size w w' := hBW.trans (hG.belowF hBW.size (by simp))
          obtain ⟨hc5, hf5⟩ := bcell hB5
          have hs5 := hB5.size
          obtain ⟨hc6, hf6⟩ := hG.cellsF
          refine SLF.wpo_do (SLF.wanted_free rfl) ?hd2 ?_
          case hd2 => intro c h; cases h
          obtain ⟨⟨ho1, e1⟩, ho2, e2⟩ := hu
          have hd1 := hd 11 23 (by simp [SL.aw_use]) (by simp [SL.aw_use]) (by simp)
          rw [e1, e2] at hd1
          obtain ⟨sa1, sc1, e6, _⟩ := owns_slice ho1
          obtain ⟨ra1, rc1, e7, _⟩ := owns_slice ho2
          rw [e6] at ho1 e1 hd1
          rw [e7] at ho2 e2 hd1
          go_step
          refine hK _ _ _ _ (by simp [Act.put]; done) (SL.Chg.refl _ _) (SL.aw_in ⟨_, _, _, _, ⟨rfl, rfl⟩, ⟨_, _, ⟨ho1, rfl⟩, ⟨ho2, rfl⟩, hd1, rfl⟩, rfl⟩) ?_
          intro k hk
          left
          simpa [SL.aw_eat, e1, e2] using hk
        · refine SLG.ob_no rfl rfl rfl fun us w' Fe hG hu hd Kx hK => ?_
          try dsimp only
          simp [SL.Used, SL.pu, SL.row, SL.box, SL.rowIn, SL.boxIn, SL.boxAt, SL.boxAtIn, SLF.pq, Act.put, SL.aw_sub, SL.aw_use, SL.aw_eat, SL.aw_V, SL.aw_quiet] at hu
          have hB5 : Below w.heap.size w w' := hBW.trans (hG.belowF hBW.size (by simp))
          obtain ⟨hc5, hf5⟩ := bcell hB5
          have hs5 := hB5.size
          obtain ⟨hc6, hf6⟩ := hG.cellsF
          refine SLF.wpo_do (SLF.wanted_free rfl) ?hd2 ?_
          case hd2 => intro c h; cases h
          obtain ⟨h1, e4, hbl, e2⟩ := hu
          obtain ⟨y, z, F1, F2, ⟨hx, rfl⟩, ⟨F3, F4, ⟨hoy, rfl⟩, ⟨hoz, rfl⟩, hyz, rfl⟩, e24⟩ := SL.aw_out h1
          have hd1 := hd 24 26 (by simp [SL.aw_use]) (by simp [SL.aw_use]) (by simp)
          rw [e24, e2] at hd1
          have n1 : w.heap.size + 1 ∉ y.ownBlock.toList := fun h => hd1 _ (by simp only [List.nil_append, List.mem_append]; exact .inl h) (by simp)
          have n2 : w.heap.size + 1 ∉ z.ownBlock.toList := fun h => hd1 _ (by simp only [List.nil_append, List.mem_append]; exact .inr h) (by simp)
          obtain ⟨sa1, sc1, rfl, _⟩ := owns_slice hoy
          obtain ⟨ra1, rc1, rfl, _⟩ := owns_slice hoz
          obtain ⟨y0, y1, yf, yl⟩ := cell2w hbl
          go_step
          refine hK _ _ (SLG.chg_set2 _ (by simp [SL.aw_eat, e2]) ..) (SL.aw_in ⟨_, _, _, _, ⟨Nat.le_succ _, SLG.heap_set2 hbl .., rfl⟩, ⟨_, _, ⟨SLG.row_set2 hoy n1 .., rfl⟩, ⟨SLG.row_set2 hoz n2 .., rfl⟩, rfl⟩, rfl⟩) ?_
          intro k hk
          left
          simp [SL.aw_eat, e24, e2] at hk ⊢
          grind
      case hck2 => kernel_rfl
      case hkp2 => kernel_rfl
      intro us w5 Fs hG hu hbd hd
      simp [SL.Used, SL.aw_sub] at hu
      obtain ⟨y, z, F1, F2, ⟨_, hbl, rfl⟩, ⟨F3, F4, ⟨hoy, rfl⟩, ⟨hoz, rfl⟩, rfl⟩, _⟩ := SL.aw_out hu
      have hB5 : Below w.heap.size w w5 := hBW.trans (hG.belowF hBW.size (by simp))
      obtain ⟨sa1, sc1, rfl, _⟩ := owns_slice hoy
      obtain ⟨ra1, rc1, rfl, _⟩ := owns_slice hoz
      obtain ⟨y0, y1, yf, yl⟩ := cell2w hbl
      have HF := Lib.hid (HQ.out _ w5 _ _ _ _ rfl hB5 hoy hoz)
      clear hoy hoz hu hbd hd hG hU1 hU2
      go_wp2_with fail
      refine bodyPost_ret (v := .agg #[.slice sa1 K sc1, .slice ra1 K rc1]) (by simp [results, Tryz.results83, go_sem, *]) rfl HF.out
  · have y1 : ((X : Int) + 1 == (ca : Int)) = false := by simp; omega
    have y2 : (X + 1 == ca) = false := by simp; omega
    by_cases hcz : cf = X + 1
    · have Hn1 := Lib.hid (show s.length = X + 1 by omega)
      subst hcz
      have v1 : ((X : Int) + 1 == ((X + 1 : Nat) : Int)) = true := by simp
      have hU1 : ∀ W N, Below w.heap.size w W → W.heap[N]? = some (Obj.cells #[.slice (some ⟨b, o, none⟩) X X, .slice (some ⟨b, o + (X + 1) * 2, none⟩) 0 (ca - (X + 1))] 35 (0, 0)) → _ := fun W N h hbl => HC1.out W N (o + (X + 1) * 2) (ca - (X + 1)) h (.inl rfl) (by rw [show s.length - (X + 1) = 0 by have := Hn1.out; omega]; exact hbl)
      have hU2 : ∀ W N, Below w.heap.size w W → W.heap[N]? = some (Obj.cells #[.slice (some ⟨d, q, none⟩) X X, .slice (some ⟨d, q, none⟩) 0 0] 81 (0, 0)) → _ := fun W N h hbl => HC2.out W N q 0 h (.inr Hn1.out) (by rw [show s.length - (X + 1) = 0 by have := Hn1.out; omega]; exact hbl)
      apply SLG.rule0 ?hm3 [w.heap.size + 1] [5, 6, 7, 8, 9, 10, 11, 12, 13, 14, 15, 16, 17, 18, 19, 20, 21, 22, 23, 24, 25, 26, 27, 28, 29] [SLF.pq 5 [] _, SLF.pq 6 [0] _, SLF.pq 7 [] _, SLF.pq 8 [] _, SLF.pq 9 [1, 2, 3] _, SLF.pq 10 [] _, SLF.pq 11 [5] _, SLF.pq 12 [] _, SLF.pq 13 [7] _, SLF.pq 14 [6, 8] _, SL.aw 15 [4, 9] [] (fun x => .ex fun N : Nat => .sep (.pure (x = .slice (some ⟨N, 0, none⟩) 2 2)) (.blk w.heap.size N 35 #[.slice (some ⟨b, o, none⟩) X X, .slice (some ⟨b, o + (X + 1) * 2, none⟩) (0) (ca - (X + 1))])), SL.row 16 [10] [] w.heap.size 33 2 K V1, SLF.pq 17 [] _, SLF.pq 18 [12] _, SLF.pq 19 [] _, SLF.pq 20 [] _, SLF.pq 21 [13, 14, 15] _, SLF.pq 22 [] _, SLF.pq 23 [17] _, SLF.pq 24 [] _, SLF.pq 25 [19] _, SLF.pq 26 [18, 20] _, SL.aw 27 [16, 21] [] (fun x => .ex fun N : Nat => .sep (.pure (x = .slice (some ⟨N, 0, none⟩) 2 2)) (.blk w.heap.size N 81 #[.slice (some ⟨d, q, none⟩) X X, .slice (some ⟨d, q, none⟩) (0) (0)])), SL.row 28 [22] [] w.heap.size 4 1 K V2, SL.aw 29 [11, 23] [11, 23] (fun x => .ex fun y : Value => .ex fun z : Value => .sep (.pure (x = .agg #[y, z])) (.sepd (.row w.heap.size 33 2 y K V1) (.row w.heap.size 4 1 z K V2))), SL.aw 4 [24, 26] [24, 26] (fun _ => .ex fun y : Value => .ex fun z : Value => .sep (.blk w.heap.size (w.heap.size + 1) 83 #[y, z]) (.sep (.row w.heap.size 33 2 y K V1) (.row w.heap.size 4 1 z K V2))), SL.boxAt 4 [] [] (w.heap.size + 1) 83 #[.slice none 0 0, .slice none 0 0]] [25] ?hck3 ?hkp3 (fun i => if i = 26 then [w.heap.size + 1] else []) ?hin3 ?hdj3 ?hfr3 ?ob3 ?en3
      case hm3 => kernel_rfl
      case hin3 => exact SL.one_held rfl rfl ⟨rfl, hbox, rfl⟩ hz2
      case hdj3 => exact SL.one_apart
      case hfr3 => intro us; simp only [SL.frame, SL.put']; simp; exact rfl
      case ob3 =>
        refine ⟨?_, ?_, ?_, ?_, ?_, ?_, ?_, ?_, ?_, ?_, ?_, ?_, ?_, ?_, ?_, ?_, ?_, ?_, ?_, ?_, ?_, ?_, ?_, ?_, ?_, ?_, trivial⟩
        all_goals first
          | (intro us w' Fe hG hu hd hv Kx hK
             try dsimp only
             simp [SL.Used, SL.pu, SL.row, SL.box, SL.rowIn, SL.boxIn, SL.boxAt, SL.boxAtIn, SLF.pq, Act.put, SL.aw_sub, SL.aw_use, SL.aw_eat, SL.aw_V, SL.aw_quiet] at hu hK
             have hB5 : Below w.heap.size w w' := hBW.trans (hG.belowF hBW.size (by simp))
             obtain ⟨hc5, hf5⟩ := bcell hB5
             have hs5 := hB5.size
             obtain ⟨hc6, hf6⟩ := hG.cellsF
             clear hv
             refine SLF.wpo_do (SLF.wanted_free rfl) ?hd3 ?_
             case hd3 => intro c h; cases h
             clear hd
             first
               | (go_step; exact hK _ _ _ (SL.Chg.refl _ _) (by first | exact rfl | (simp only [hu]; exact rfl)) rfl (by simp) rfl)
               | exact hK _ _ _ (SL.Chg.refl _ _) rfl rfl (by simp) rfl)
          | skip
        · refine SLG.ob_sp rfl rfl rfl fun us w' Fe hG hu hd Kx hK => ?_
          try dsimp only
          simp [SL.Used, SL.pu, SL.row, SL.box, SL.rowIn, SL.boxIn, SL.boxAt, SL.boxAtIn, SLF.pq, Act.put, SL.aw_sub, SL.aw_use, SL.aw_eat, SL.aw_V, SL.aw_quiet] at hu
          have hB5 : Below w.heap.size w w' := hBW.trans (hG.belowF hBW.size (by simp))
          obtain ⟨hc5, hf5⟩ := bcell hB5
          have hs5 := hB5.size
          obtain ⟨hc6, hf6⟩ := hG.cellsF
          refine SLF.wpo_do (SLF.wanted_free rfl) ?hd3 ?_
          case hd3 => intro c h; cases h
          obtain ⟨⟨e7, _⟩, e9, _⟩ := hu
          go_step
          exact hK _ _ _ _ (by simp [Act.put]; done) (.alloc _ _ _) (SL.aw_in ⟨w'.heap.size, _, _, ⟨rfl, rfl⟩, ⟨hs5, World.alloc_heap_new _ _, rfl⟩, rfl⟩) (fun j hj => .inr (by simp at hj; subst hj; simp))
        · refine SLG.ob_sp rfl rfl rfl fun us w' Fe hG hu hd Kx hK => ?_
          try dsimp only
          simp [SL.Used, SL.pu, SL.row, SL.box, SL.rowIn, SL.boxIn, SL.boxAt, SL.boxAtIn, SLF.pq, Act.put, SL.aw_sub, SL.aw_use, SL.aw_eat, SL.aw_V, SL.aw_quiet] at hu
          have hB5 : Below w.heap.size w w' := hBW.trans (hG.belowF hBW.size (by simp))
          obtain ⟨hc5, hf5⟩ := bcell hB5
          have hs5 := hB5.size
          obtain ⟨hc6, hf6⟩ := hG.cellsF
          refine SLF.wpo_do (SLF.wanted_free rfl) ?hd3 ?_
          case hd3 => intro c h; cases h
          obtain ⟨N, F1, F2, ⟨hx, rfl⟩, ⟨hN, hbl, rfl⟩, hF⟩ := SL.aw_out hu
          go_step
          refine (hU1 w' N hB5 hbl).mono ?_
          rintro e w6 ⟨v, rfl, hb6, ho6⟩
          exact hK _ v w6 _ (by simp [Act.put]; done) (.of_below hb6) ⟨SL.row_base ho6 hs5, rfl⟩ (fun k hk => .inr (SL.row_bounds ho6 k hk))
        · refine SLG.ob_sp rfl rfl rfl fun us w' Fe hG hu hd Kx hK => ?_
          try dsimp only
          simp [SL.Used, SL.pu, SL.row, SL.box, SL.rowIn, SL.boxIn, SL.boxAt, SL.boxAtIn, SLF.pq, Act.put, SL.aw_sub, SL.aw_use, SL.aw_eat, SL.aw_V, SL.aw_quiet] at hu
          have hB5 : Below w.heap.size w w' := hBW.trans (hG.belowF hBW.size (by simp))
          obtain ⟨hc5, hf5⟩ := bcell hB5
          have hs5 := hB5.size
          obtain ⟨hc6, hf6⟩ := hG.cellsF
          refine SLF.wpo_do (SLF.wanted_free rfl) ?hd3 ?_
          case hd3 => intro c h; cases h
          obtain ⟨⟨e7, _⟩, e9, _⟩ := hu
          go_step
          exact hK _ _ _ _ (by simp [Act.put]; done) (.alloc _ _ _) (SL.aw_in ⟨w'.heap.size, _, _, ⟨rfl, rfl⟩, ⟨hs5, World.alloc_heap_new _ _, rfl⟩, rfl⟩) (fun j hj => .inr (by simp at hj; subst hj; simp))
        · refine SLG.ob_sp rfl rfl rfl fun us w' Fe hG hu hd Kx hK => ?_
          try dsimp only
          simp [SL.Used, SL.pu, SL.row, SL.box, SL.rowIn, SL.boxIn, SL.boxAt, SL.boxAtIn, SLF.pq, Act.put, SL.aw_sub, SL.aw_use, SL.aw_eat, SL.aw_V, SL.aw_quiet] at hu
          have hB5 : Below w.heap.size w w' := hBW.trans (hG.belowF hBW.size (by simp))
          obtain ⟨hc5, hf5⟩ := bcell hB5
          have hs5 := hB5.size
          obtain ⟨hc6, hf6⟩ := hG.cellsF
          refine SLF.wpo_do (SLF.wanted_free rfl) ?hd3 ?_
          case hd3 => intro c h; cases h
          obtain ⟨N, F1, F2, ⟨hx, rfl⟩, ⟨hN, hbl, rfl⟩, hF⟩ := SL.aw_out hu
          go_step
          refine (hU2 w' N hB5 hbl).mono ?_
          rintro e w6 ⟨v, rfl, hb6, ho6⟩
          exact hK _ v w6 _ (by simp [Act.put]; done) (.of_below hb6) ⟨SL.row_base ho6 hs5, rfl⟩ (fun k hk => .inr (SL.row_bounds ho6 k hk))
        · refine SLG.ob_sp rfl rfl rfl fun us w' Fe hG hu hd Kx hK => ?_
          try dsimp only
          simp [SL.Used, SL.pu, SL.row, SL.box, SL.rowIn, SL.boxIn, SL.boxAt, SL.boxAtIn, SLF.pq, Act.put, SL.aw_sub, SL.aw_use, SL.aw_eat, SL.aw_V, SL.aw_quiet] at hu
          have hB5 : Below w.heap.size w w' := hBW.trans (hG.belowF hBW.size (by simp))
          obtain ⟨hc5, hf5⟩ := bcell hB5
          have hs5 := hB5.size
          obtain ⟨hc6, hf6⟩ := hG.cellsF
          refine SLF.wpo_do (SLF.wanted_free rfl) ?hd3 ?_
          case hd3 => intro c h; cases h
          obtain ⟨⟨ho1, e1⟩, ho2, e2⟩ := hu
          have hd1 := hd 11 23 (by simp [SL.aw_use]) (by simp [SL.aw_use]) (by simp)
          rw [e1, e2] at hd1
          obtain ⟨sa1, sc1, e6, _⟩ := owns_slice ho1
          obtain ⟨ra1, rc1, e7, _⟩ := owns_slice ho2
          rw [e6] at ho1 e1 hd1
          rw [e7] at ho2 e2 hd1
          go_step
          refine hK _ _ _ _ (by simp [Act.put]; done) (SL.Chg.refl _ _) (SL.aw_in ⟨_, _, _, _, ⟨rfl, rfl⟩, ⟨_, _, ⟨ho1, rfl⟩, ⟨ho2, rfl⟩, hd1, rfl⟩, rfl⟩) ?_
          intro k hk
          left
          simpa [SL.aw_eat, e1, e2] using hk
        · refine SLG.ob_no rfl rfl rfl fun us w' Fe hG hu hd Kx hK => ?_
          try dsimp only
          simp [SL.Used, SL.pu, SL.row, SL.box, SL.rowIn, SL.boxIn, SL.boxAt, SL.boxAtIn, SLF.pq, Act.put, SL.aw_sub, SL.aw_use, SL.aw_eat, SL.aw_V, SL.aw_quiet] at hu
          have hB5 : Below w.heap.size w w' := hBW.trans (hG.belowF hBW.size (by simp))
          obtain ⟨hc5, hf5⟩ := bcell hB5
          have hs5 := hB5.size
          obtain ⟨hc6, hf6⟩ := hG.cellsF
          refine SLF.wpo_do (SLF.wanted_free rfl) ?hd3 ?_
          case hd3 => intro c h; cases h
          obtain ⟨h1, e4, hbl, e2⟩ := hu
          obtain ⟨y, z, F1, F2, ⟨hx, rfl⟩, ⟨F3, F4, ⟨hoy, rfl⟩, ⟨hoz, rfl⟩, hyz, rfl⟩, e24⟩ := SL.aw_out h1
          have hd1 := hd 24 26 (by simp [SL.aw_use]) (by simp [SL.aw_use]) (by simp)
          rw [e24, e2] at hd1
          have n1 : w.heap.size + 1 ∉ y.ownBlock.toList := fun h => hd1 _ (by simp only [List.nil_append, List.mem_append]; exact .inl h) (by simp)
          have n2 : w.heap.size + 1 ∉ z.ownBlock.toList := fun h => hd1 _ (by simp only [List.nil_append, List.mem_append]; exact .inr h) (by simp)
          obtain ⟨sa1, sc1, rfl, _⟩ := owns_slice hoy
          obtain ⟨ra1, rc1, rfl, _⟩ := owns_slice hoz
          obtain ⟨y0, y1, yf, yl⟩ := cell2w hbl
          go_step
          refine hK _ _ (SLG.chg_set2 _ (by simp [SL.aw_eat, e2]) ..) (SL.aw_in ⟨_, _, _, _, ⟨Nat.le_succ _, SLG.heap_set2 hbl .., rfl⟩, ⟨_, _, ⟨SLG.row_set2 hoy n1 .., rfl⟩, ⟨SLG.row_set2 hoz n2 .., rfl⟩, rfl⟩, rfl⟩) ?_
          intro k hk
          left
          simp [SL.aw_eat, e24, e2] at hk ⊢
          grind
      case hck3 => kernel_rfl
      case hkp3 => kernel_rfl
      intro us w5 Fs hG hu hbd hd
      simp [SL.Used, SL.aw_sub] at hu
      obtain ⟨y, z, F1, F2, ⟨_, hbl, rfl⟩, ⟨F3, F4, ⟨hoy, rfl⟩, ⟨hoz, rfl⟩, rfl⟩, _⟩ := SL.aw_out hu
      have hB5 : Below w.heap.size w w5 := hBW.trans (hG.belowF hBW.size (by simp))
      obtain ⟨sa1, sc1, rfl, _⟩ := owns_slice hoy
      obtain ⟨ra1, rc1, rfl, _⟩ := owns_slice hoz
      obtain ⟨y0, y1, yf, yl⟩ := cell2w hbl
      have HF := Lib.hid (HQ.out _ w5 _ _ _ _ rfl hB5 hoy hoz)
      clear hoy hoz hu hbd hd hG hU1 hU2
      go_wp2_with fail
      refine bodyPost_ret (v := .agg #[.slice sa1 K sc1, .slice ra1 K rc1]) (by simp [results, Tryz.results83, go_sem, *]) rfl HF.out
    · have v1 : ((X : Int) + 1 == (cf : Int)) = false := by simp; omega
      have v2 : (X + 1 == cf) = false := by simp; omega
      have hU1 := fun W N h hbl => HC1.out W N (o + (X + 1) * 2) (ca - (X + 1)) h (.inl rfl) hbl
      have hU2 := fun W N h hbl => HC2.out W N (q + (X + 1)) (cf - (X + 1)) h (.inl rfl) hbl
      apply SLG.rule0 ?hm4 [w.heap.size + 1] [5, 6, 7, 8, 9, 10, 11, 12, 13, 14, 15, 16, 17, 18, 19, 20, 21, 22, 23, 24, 25, 26, 27, 28, 29] [SLF.pq 5 [] _, SLF.pq 6 [0] _, SLF.pq 7 [] _, SLF.pq 8 [] _, SLF.pq 9 [1, 2, 3] _, SLF.pq 10 [] _, SLF.pq 11 [5] _, SLF.pq 12 [] _, SLF.pq 13 [7] _, SLF.pq 14 [6, 8] _, SL.aw 15 [4, 9] [] (fun x => .ex fun N : Nat => .sep (.pure (x = .slice (some ⟨N, 0, none⟩) 2 2)) (.blk w.heap.size N 35 #[.slice (some ⟨b, o, none⟩) X X, .slice (some ⟨b, o + (X + 1) * 2, none⟩) (s.length - (X + 1)) (ca - (X + 1))])), SL.row 16 [10] [] w.heap.size 33 2 K V1, SLF.pq 17 [] _, SLF.pq 18 [12] _, SLF.pq 19 [] _, SLF.pq 20 [] _, SLF.pq 21 [13, 14, 15] _, SLF.pq 22 [] _, SLF.pq 23 [17] _, SLF.pq 24 [] _, SLF.pq 25 [19] _, SLF.pq 26 [18, 20] _, SL.aw 27 [16, 21] [] (fun x => .ex fun N : Nat => .sep (.pure (x = .slice (some ⟨N, 0, none⟩) 2 2)) (.blk w.heap.size N 81 #[.slice (some ⟨d, q, none⟩) X X, .slice (some ⟨d, q + (X + 1), none⟩) (s.length - (X + 1)) (cf - (X + 1))])), SL.row 28 [22] [] w.heap.size 4 1 K V2, SL.aw 29 [11, 23] [11, 23] (fun x => .ex fun y : Value => .ex fun z : Value => .sep (.pure (x = .agg #[y, z])) (.sepd (.row w.heap.size 33 2 y K V1) (.row w.heap.size 4 1 z K V2))), SL.aw 4 [24, 26] [24, 26] (fun _ => .ex fun y : Value => .ex fun z : Value => .sep (.blk w.heap.size (w.heap.size + 1) 83 #[y, z]) (.sep (.row w.heap.size 33 2 y K V1) (.row w.heap.size 4 1 z K V2))), SL.boxAt 4 [] [] (w.heap.size + 1) 83 #[.slice none 0 0, .slice none 0 0]] [25] ?hck4 ?hkp4 (fun i => if i = 26 then [w.heap.size + 1] else []) ?hin4 ?hdj4 ?hfr4 ?ob4 ?en4
      case hm4 => kernel_rfl
      case hin4 => exact SL.one_held rfl rfl ⟨rfl, hbox, rfl⟩ hz2
      case hdj4 => exact SL.one_apart
      case hfr4 => intro us; simp only [SL.frame, SL.put']; simp; exact rfl
      case ob4 =>
        refine ⟨?_, ?_, ?_, ?_, ?_, ?_, ?_, ?_, ?_, ?_, ?_, ?_, ?_, ?_, ?_, ?_, ?_, ?_, ?_, ?_, ?_, ?_, ?_, ?_, ?_, ?_, trivial⟩
        all_goals first
          | (intro us w' Fe hG hu hd hv Kx hK
             try dsimp only
             simp [SL.Used, SL.pu, SL.row, SL.box, SL.rowIn, SL.boxIn, SL.boxAt, SL.boxAtIn, SLF.pq, Act.put, SL.aw_sub, SL.aw_use, SL.aw_eat, SL.aw_V, SL.aw_quiet] at hu hK
             have hB5 : Below w.heap.size w w' := hBW.trans (hG.belowF hBW.size (by simp))
             obtain ⟨hc5, hf5⟩ := bcell hB5
             have hs5 := hB5.size
             obtain ⟨hc6, hf6⟩ := hG.cellsF
             clear hv
             refine SLF.wpo_do (SLF.wanted_free rfl) ?hd4 ?_
             case hd4 => intro c h; cases h
             clear hd
             first
               | (go_step; exact hK _ _ _ (SL.Chg.refl _ _) (by first | exact rfl | (simp only [hu]; exact rfl)) rfl (by simp) rfl)
               | exact hK _ _ _ (SL.Chg.refl _ _) rfl rfl (by simp) rfl)
          | skip
        · refine SLG.ob_sp rfl rfl rfl fun us w' Fe hG hu hd Kx hK => ?_
          try dsimp only
          simp [SL.Used, SL.pu, SL.row, SL.box, SL.rowIn, SL.boxIn, SL.boxAt, SL.boxAtIn, SLF.pq, Act.put, SL.aw_sub, SL.aw_use, SL.aw_eat, SL.aw_V, SL.aw_quiet] at hu
          have hB5 : Below w.heap.size w w' := hBW.trans (hG.belowF hBW.size (by simp))
          obtain ⟨hc5, hf5⟩ := bcell hB5
          have hs5 := hB5.size
          obtain ⟨hc6, hf6⟩ := hG.cellsF
          refine SLF.wpo_do (SLF.wanted_free rfl) ?hd4 ?_
          case hd4 => intro c h; cases h
          obtain ⟨⟨e7, _⟩, e9, _⟩ := hu
          go_step
          exact hK _ _ _ _ (by simp [Act.put]; done) (.alloc _ _ _) (SL.aw_in ⟨w'.heap.size, _, _, ⟨rfl, rfl⟩, ⟨hs5, World.alloc_heap_new _ _, rfl⟩, rfl⟩) (fun j hj => .inr (by simp at hj; subst hj; simp))
        · refine SLG.ob_sp rfl rfl rfl fun us w' Fe hG hu hd Kx hK => ?_
          try dsimp only
          simp [SL.Used, SL.pu, SL.row, SL.box, SL.rowIn, SL.boxIn, SL.boxAt, SL.boxAtIn, SLF.pq, Act.put, SL.aw_sub, SL.aw_use, SL.aw_eat, SL.aw_V, SL.aw_quiet] at hu
          have hB5 : Below w.heap.size w w' := hBW.trans (hG.belowF hBW.size (by simp))
          obtain ⟨hc5, hf5⟩ := bcell hB5
          have hs5 := hB5.size
          obtain ⟨hc6, hf6⟩ := hG.cellsF
          refine SLF.wpo_do (SLF.wanted_free rfl) ?hd4 ?_
          case hd4 => intro c h; cases h
          obtain ⟨N, F1, F2, ⟨hx, rfl⟩, ⟨hN, hbl, rfl⟩, hF⟩ := SL.aw_out hu
          go_step
          refine (hU1 w' N hB5 hbl).mono ?_
          rintro e w6 ⟨v, rfl, hb6, ho6⟩
          exact hK _ v w6 _ (by simp [Act.put]; done) (.of_below hb6) ⟨SL.row_base ho6 hs5, rfl⟩ (fun k hk => .inr (SL.row_bounds ho6 k hk))
        · refine SLG.ob_sp rfl rfl rfl fun us w' Fe hG hu hd Kx hK => ?_
          try dsimp only
          simp [SL.Used, SL.pu, SL.row, SL.box, SL.rowIn, SL.boxIn, SL.boxAt, SL.boxAtIn, SLF.pq, Act.put, SL.aw_sub, SL.aw_use, SL.aw_eat, SL.aw_V, SL.aw_quiet] at hu
          have hB5 : Below w.heap.size w w' := hBW.trans (hG.belowF hBW.size (by simp))
          obtain ⟨hc5, hf5⟩ := bcell hB5
          have hs5 := hB5.size
          obtain ⟨hc6, hf6⟩ := hG.cellsF
          refine SLF.wpo_do (SLF.wanted_free rfl) ?hd4 ?_
          case hd4 => intro c h; cases h
          obtain ⟨⟨e7, _⟩, e9, _⟩ := hu
          go_step
          exact hK _ _ _ _ (by simp [Act.put]; done) (.alloc _ _ _) (SL.aw_in ⟨w'.heap.size, _, _, ⟨rfl, rfl⟩, ⟨hs5, World.alloc_heap_new _ _, rfl⟩, rfl⟩) (fun j hj => .inr (by simp at hj; subst hj; simp))
        · refine SLG.ob_sp rfl rfl rfl fun us w' Fe hG hu hd Kx hK => ?_
          try dsimp only
          simp [SL.Used, SL.pu, SL.row, SL.box, SL.rowIn, SL.boxIn, SL.boxAt, SL.boxAtIn, SLF.pq, Act.put, SL.aw_sub, SL.aw_use, SL.aw_eat, SL.aw_V, SL.aw_quiet] at hu
          have hB5 : Below w.heap.size w w' := hBW.trans (hG.belowF hBW.size (by simp))
          obtain ⟨hc5, hf5⟩ := bcell hB5
          have hs5 := hB5.size
          obtain ⟨hc6, hf6⟩ := hG.cellsF
          refine SLF.wpo_do (SLF.wanted_free rfl) ?hd4 ?_
          case hd4 => intro c h; cases h
          obtain ⟨N, F1, F2, ⟨hx, rfl⟩, ⟨hN, hbl, rfl⟩, hF⟩ := SL.aw_out hu
          go_step
          refine (hU2 w' N hB5 hbl).mono ?_
          rintro e w6 ⟨v, rfl, hb6, ho6⟩
          exact hK _ v w6 _ (by simp [Act.put]; done) (.of_below hb6) ⟨SL.row_base ho6 hs5, rfl⟩ (fun k hk => .inr (SL.row_bounds ho6 k hk))
        · refine SLG.ob_sp rfl rfl rfl fun us w' Fe hG hu hd Kx hK => ?_
          try dsimp only
          simp [SL.Used, SL.pu, SL.row, SL.box, SL.rowIn, SL.boxIn, SL.boxAt, SL.boxAtIn, SLF.pq, Act.put, SL.aw_sub, SL.aw_use, SL.aw_eat, SL.aw_V, SL.aw_quiet] at hu
          have hB5 : Below w.heap.size w w' := hBW.trans (hG.belowF hBW.size (by simp))
          obtain ⟨hc5, hf5⟩ := bcell hB5
          have hs5 := hB5.size
          obtain ⟨hc6, hf6⟩ := hG.cellsF
          refine SLF.wpo_do (SLF.wanted_free rfl) ?hd4 ?_
          case hd4 => intro c h; cases h
          obtain ⟨⟨ho1, e1⟩, ho2, e2⟩ := hu
          have hd1 := hd 11 23 (by simp [SL.aw_use]) (by simp [SL.aw_use]) (by simp)
          rw [e1, e2] at hd1
          obtain ⟨sa1, sc1, e6, _⟩ := owns_slice ho1
          obtain ⟨ra1, rc1, e7, _⟩ := owns_slice ho2
          rw [e6] at ho1 e1 hd1
          rw [e7] at ho2 e2 hd1
          go_step
          refine hK _ _ _ _ (by simp [Act.put]; done) (SL.Chg.refl _ _) (SL.aw_in ⟨_, _, _, _, ⟨rfl, rfl⟩, ⟨_, _, ⟨ho1, rfl⟩, ⟨ho2, rfl⟩, hd1, rfl⟩, rfl⟩) ?_
          intro k hk
          left
          simpa [SL.aw_eat, e1, e2] using hk
        · refine SLG.ob_no rfl rfl rfl fun us w' Fe hG hu hd Kx hK => ?_
          try dsimp only
          simp [SL.Used, SL.pu, SL.row, SL.box, SL.rowIn, SL.boxIn, SL.boxAt, SL.boxAtIn, SLF.pq, Act.put, SL.aw_sub, SL.aw_use, SL.aw_eat, SL.aw_V, SL.aw_quiet] at hu
          have hB5 : Below w.heap.size w w' := hBW.trans (hG.belowF hBW.size (by simp))
          obtain ⟨hc5, hf5⟩ := bcell hB5
          have hs5 := hB5.size
          obtain ⟨hc6, hf6⟩ := hG.cellsF
          refine SLF.wpo_do (SLF.wanted_free rfl) ?hd4 ?_
          case hd4 => intro c h; cases h
          obtain ⟨h1, e4, hbl, e2⟩ := hu
          obtain ⟨y, z, F1, F2, ⟨hx, rfl⟩, ⟨F3, F4, ⟨hoy, rfl⟩, ⟨hoz, rfl⟩, hyz, rfl⟩, e24⟩ := SL.aw_out h1
          have hd1 := hd 24 26 (by simp [SL.aw_use]) (by simp [SL.aw_use]) (by simp)
          rw [e24, e2] at hd1
          have n1 : w.heap.size + 1 ∉ y.ownBlock.toList := fun h => hd1 _ (by simp only [List.nil_append, List.mem_append]; exact .inl h) (by simp)
          have n2 : w.heap.size + 1 ∉ z.ownBlock.toList := fun h => hd1 _ (by simp only [List.nil_append, List.mem_append]; exact .inr h) (by simp)
          obtain ⟨sa1, sc1, rfl, _⟩ := owns_slice hoy
          obtain ⟨ra1, rc1, rfl, _⟩ := owns_slice hoz
          obtain ⟨y0, y1, yf, yl⟩ := cell2w hbl
          go_step
          refine hK _ _ (SLG.chg_set2 _ (by simp [SL.aw_eat, e2]) ..) (SL.aw_in ⟨_, _, _, _, ⟨Nat.le_succ _, SLG.heap_set2 hbl .., rfl⟩, ⟨_, _, ⟨SLG.row_set2 hoy n1 .., rfl⟩, ⟨SLG.row_set2 hoz n2 .., rfl⟩, rfl⟩, rfl⟩) ?_
          intro k hk
          left
          simp [SL.aw_eat, e24, e2] at hk ⊢
          grind
      case hck4 => kernel_rfl
      case hkp4 => kernel_rfl
      intro us w5 Fs hG hu hbd hd
      simp [SL.Used, SL.aw_sub] at hu
      obtain ⟨y, z, F1, F2, ⟨_, hbl, rfl⟩, ⟨F3, F4, ⟨hoy, rfl⟩, ⟨hoz, rfl⟩, rfl⟩, _⟩ := SL.aw_out hu
      have hB5 : Below w.heap.size w w5 := hBW.trans (hG.belowF hBW.size (by simp))
      obtain ⟨sa1, sc1, rfl, _⟩ := owns_slice hoy
      obtain ⟨ra1, rc1, rfl, _⟩ := owns_slice hoz
      obtain ⟨y0, y1, yf, yl⟩ := cell2w hbl
      have HF := Lib.hid (HQ.out _ w5 _ _ _ _ rfl hB5 hoy hoz)
      clear hoy hoz hu hbd hd hG hU1 hU2
      go_wp2_with fail
      refine bodyPost_ret (v := .agg #[.slice sa1 K sc1, .slice ra1 K rc1]) (by simp [results, Tryz.results83, go_sem, *]) rfl HF.out
end Go.Proofs.YtodkbfbbpfghiaaGreat
