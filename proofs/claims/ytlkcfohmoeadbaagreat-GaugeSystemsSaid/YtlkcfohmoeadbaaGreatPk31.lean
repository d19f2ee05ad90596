/-
  The law GaugeSystems, walked: it returns true.
-/
import Derived.Test.YtlkcfohmoeadbaaGreatPk30
import Derived.Test.YtlkcfohmoeadbaaGreatPk28
import Derived.Test.YtlkcfohmoeadbaaGreatPk27
import Derived.Test.YtlkcfohmoeadbaaGreatPk20
set_option linter.unusedSimpArgs false
set_option linter.unusedVariables false
set_option linter.unnecessarySimpa false
namespace Go.Proofs.YtlkcfohmoeadbaaGreat
open Go.RowKit Go.Shelf
set_option maxHeartbeats 8000000
set_option maxRecDepth 100000

theorem withL_sm {p : Int} {bs : List Bd} {x : Bd} : (withL p bs x).length ≤ 1000 := by
  by_cases h : withE p bs x = 0
  · obtain ⟨h1, h2⟩ := withE_zero h
    unfold withL
    rw [if_pos h]
    have := chk_400 h1
    simp; omega
  · unfold withL
    rw [if_neg h]; simp
theorem fl_sm {p : Int} {bs : List Bd} {f : Bd → Bool} : (if chk p bs = 0 then bs.filter f else []).length ≤ 1000 := by
  split
  · rename_i h
    have := chk_400 h
    have := List.length_filter_le f bs
    omega
  · simp
theorem idL_sm {p : Int} {bs : List Bd} {xs : List Int} (h : xs.length ≤ 1000) : (idL p bs xs).length ≤ 1000 := by
  unfold idL
  split
  · have := idsL_len (pickB bs xs)
    have := pickB_len bs xs
    omega
  · simp
theorem set2y {W : World} {N : Nat} {x0 x1 u v : Value} {t : TypeId} (h : W.heap[N]? = some (.cells #[x0, x1] t (0, 0))) :
    SL.Chg [N] W ((W.setCell ⟨N, 0, none⟩ u).setCell ⟨N, 1, none⟩ v) ∧ ((W.setCell ⟨N, 0, none⟩ u).setCell ⟨N, 1, none⟩ v).heap[N]? = some (.cells #[u, v] t (0, 0)) := by
  refine ⟨(SL.Chg.setCell _ (by simp) _).trans (.setCell _ (by simp) _), ?_⟩
  have := SL.heap_set (SL.heap_set h u (i := 0)) v (i := 1)
  exact this
theorem cell2y {W : World} {N : Nat} {u v : Value} {t : TypeId} (h : W.heap[N]? = some (.cells #[u, v] t (0, 0))) : W.cell? ⟨N, 0, none⟩ = some u ∧ W.cell? ⟨N, 1, none⟩ = some v ∧ (∀ i, W.frozen? ⟨N, i, none⟩ = false) ∧ N < W.heap.size := by
  have h0 := (SL.cells_of h).1 0
  have h1 := (SL.cells_of h).1 1
  exact ⟨by simpa using h0, by simpa using h1, (SL.cells_of h).2, (Array.getElem?_eq_some_iff.1 h).1⟩
theorem law_systems (p : Int) (a : Option Addr) (n cap : Nat) (bs : List Bd) (x : Bd) (a2 : Option Addr) (n2 c2 : Nat) (ls : List Int) (id : Int) (w : World) (hb : BdsAt w a n cap bs) (hn : n ≤ 140737488351232) (hl : IntsAt w a2 n2 c2 ls) :
    Calls Tryz.prog 3 #[.agg #[.int .i64 p, .slice a n cap], .agg #[.int .i64 x.frm, .int .i64 x.tow, .int .i64 x.most, .int .i64 x.bid], .slice a2 n2 c2, .int .i64 id] w fun e w' => e = .returned (.bool true) ∧ Below w.heap.size w w' := by
  have hW := fun w1 => lwide_any p a n cap w1 hn
  have s2 : n2 ≤ 140737488351232 := by have := hl.len; have := hl.small; omega
  by_cases hn4 : n ≤ 403
  · have h1 : decide (n ≤ 403) = true := by simpa using hn4
    simp only [h1] at hW
    by_cases k2 : (n2 : Int) ≤ 70
    · have hls : ls.length ≤ 1000 := by have := hl.len; omega
      have hgB := fun w1 (h : Below w.heap.size w w1) => gBreaks_any p a n cap bs a2 n2 c2 ls w1 (hb.below h) (hl.below h)
      have hrB := fun w1 (h : Below w.heap.size w w1) => rBreaks_any p a n cap bs a2 n2 c2 ls w1 (hb.below h) (hl.below h)
      have hgK := fun w1 (h : Below w.heap.size w w1) => gKeeps_any p a n cap bs a2 n2 c2 ls w1 (hb.below h) (hl.below h)
      have hrK := fun w1 (h : Below w.heap.size w w1) => rKeeps_any p a n cap bs a2 n2 c2 ls w1 (hb.below h) (hl.below h)
      have hgC := fun w1 (h : Below w.heap.size w w1) => gcheck_any p a n cap bs w1 (hb.below h)
      have hrC := fun w1 (h : Below w.heap.size w w1) => rcheck_any p a n cap bs w1 (hb.below h)
      generalize (decide (brE p bs ls = 0) && !brH p bs ls) = K at *
      generalize (if brH p bs ls then idxB (brkB ls) bs else 0) = I at *
      generalize brH p bs ls = H at *
      generalize brE p bs ls = E at *
      have e1 : (I != I) = false := by simp
      have e2 : (H != H) = false := by simp
      have e3 : (E != E) = false := by simp
      have e4 : (K != K) = false := by simp
      have hGW := fun w1 (h : Below w.heap.size w w1) => gWith_any p a n cap bs x w1 (hb.below h)
      have hRW := fun w1 (h : Below w.heap.size w w1) => rWith_any p a n cap bs x w1 (hb.below h)
      have hGO := fun w1 (h : Below w.heap.size w w1) => gWithout_any p a n cap bs id w1 (hb.below h)
      have hRO := fun w1 (h : Below w.heap.size w w1) => rWithout_any p a n cap bs id w1 (hb.below h)
      have hGn := fun w1 (h : Below w.heap.size w w1) => gOnly_any p a n cap bs a2 n2 c2 ls w1 (hb.below h) (hl.below h)
      have hRn := fun w1 (h : Below w.heap.size w w1) => rOnly_any p a n cap bs a2 n2 c2 ls w1 (hb.below h) (hl.below h)
      have hgI := fun w1 (h : Below w.heap.size w w1) => gIds_any p a n cap bs a2 n2 c2 ls w1 (hb.below h) (hl.below h) hls
      have hrI := fun w1 (h : Below w.heap.size w w1) => rIds_any p a n cap bs a2 n2 c2 ls w1 (hb.below h) (hl.below h) hls
      have l4 := idL_sm (p := p) (bs := bs) hls
      generalize idE p bs ls = E4 at *
      generalize idL p bs ls = L4 at *
      have l1 := withL_sm (p := p) (bs := bs) (x := x)
      have l2 := fl_sm (p := p) (bs := bs) (f := fun b => b.bid != id)
      have l3 := fl_sm (p := p) (bs := bs) (f := onlyB ls)
      generalize (if withE p bs x = 0 then p else 0) = R1 at *
      generalize (if chk p bs = 0 then p else 0) = R2 at *
      generalize withL p bs x = L1 at *
      generalize (if chk p bs = 0 then bs.filter (fun b => b.bid != id) else []) = L2 at *
      generalize (if chk p bs = 0 then bs.filter (onlyB ls) else []) = L3 at *
      generalize withE p bs x = E1 at *
      generalize chk p bs = EC at *
      have e5 : (E1 != E1) = false := by simp
      have e6 : (EC != EC) = false := by simp
      have e7 : (EC == EC) = true := by simp
      have e8 : (E4 == E4) = true := by simp
      clear hn4 hn h1
      go_enter Tryz.func3, Tryz.ntmps3
      go_upto_region 7 with (first
        | (go_at_call 4; refine (hW _).mono ?_; rintro e w0 ⟨rfl, hb0⟩; obtain ⟨hc0, hf0⟩ := bcell hb0; have hz0a := lt_size hb0 (b := w.heap.size) (by first | assumption | omega | (simp; done) | (simp; omega)); have hz0b := lt_size hb0 (b := w.heap.size+1) (by first | assumption | omega | (simp; done) | (simp; omega)))
        | (go_at_call 6; refine (hgB _ (by ((repeat (first | exact Below.refl _ _ | assumption | refine Below.al ?_ _ | refine Below.ch ?_ (by assumption) | refine belowN ?_))))).mono ?_; rintro e w1 ⟨rfl, hb1⟩; obtain ⟨hc1, hf1⟩ := bcell hb1; have hz1a := lt_size hb1 (b := w.heap.size) (by first | assumption | omega | (simp; done) | (simp; omega)); have hz1b := lt_size hb1 (b := w.heap.size+1) (by first | assumption | omega | (simp; done) | (simp; omega)))
        | (go_at_call 7; refine (hrB _ (by ((repeat (first | exact Below.refl _ _ | assumption | refine Below.al ?_ _ | refine Below.ch ?_ (by assumption) | refine belowN ?_))))).mono ?_; rintro e w2 ⟨rfl, hb2⟩; obtain ⟨hc2, hf2⟩ := bcell hb2; have hz2a := lt_size hb2 (b := w.heap.size) (by first | assumption | omega | (simp; done) | (simp; omega)); have hz2b := lt_size hb2 (b := w.heap.size+1) (by first | assumption | omega | (simp; done) | (simp; omega)))
        | (go_at_call 8; refine (hgK _ (by ((repeat (first | exact Below.refl _ _ | assumption | refine Below.al ?_ _ | refine Below.ch ?_ (by assumption) | refine belowN ?_))))).mono ?_; rintro e w3 ⟨rfl, hb3⟩; obtain ⟨hc3, hf3⟩ := bcell hb3; have hz3a := lt_size hb3 (b := w.heap.size) (by first | assumption | omega | (simp; done) | (simp; omega)); have hz3b := lt_size hb3 (b := w.heap.size+1) (by first | assumption | omega | (simp; done) | (simp; omega)))
        | (go_at_call 9; refine (hrK _ (by ((repeat (first | exact Below.refl _ _ | assumption | refine Below.al ?_ _ | refine Below.ch ?_ (by assumption) | refine belowN ?_))))).mono ?_; rintro e w4 ⟨rfl, hb4⟩; obtain ⟨hc4, hf4⟩ := bcell hb4; have hz4a := lt_size hb4 (b := w.heap.size) (by first | assumption | omega | (simp; done) | (simp; omega)); have hz4b := lt_size hb4 (b := w.heap.size+1) (by first | assumption | omega | (simp; done) | (simp; omega))))
      have hB4 : Below w.heap.size w w4 := by ((repeat (first | exact Below.refl _ _ | assumption | refine Below.al ?_ _ | refine Below.ch ?_ (by assumption) | refine belowN ?_)))
      have p0 : w4.cell? ⟨w.heap.size, 0, none⟩ = some (.int .i64 p) := by simp [go_sem, *]
      have p1 : w4.cell? ⟨w.heap.size, 1, none⟩ = some (.slice a n cap) := by simp [go_sem, *]
      have p2 : w4.cell? ⟨w.heap.size + 1, 0, none⟩ = some (.int .i64 x.frm) := by simp [go_sem, *]
      have p3 : w4.cell? ⟨w.heap.size + 1, 1, none⟩ = some (.int .i64 x.tow) := by simp [go_sem, *]
      have p4 : w4.cell? ⟨w.heap.size + 1, 2, none⟩ = some (.int .i64 x.most) := by simp [go_sem, *]
      have p5 : w4.cell? ⟨w.heap.size + 1, 3, none⟩ = some (.int .i64 x.bid) := by simp [go_sem, *]
      have s4 : w.heap.size < w4.heap.size := by assumption
      have s4' : w.heap.size + 1 < w4.heap.size := by assumption
      refine (wpIn_wide (n := 0)).1 ?_
      refine SLF.rule (ro := none) (by kernel_rfl) [] [60, 61, 62, 63, 64, 65, 66, 67, 68, 69, 70, 71, 72, 73, 74, 75, 76, 77, 78, 79, 80, 81, 82, 83, 84, 85, 86, 87, 88, 89] [SLF.pq 60 [] (.int .i64 I), SLF.pq 61 [] (.int .i64 I), SLF.pq 62 [0, 1] (.bool false), SLF.pq 63 [2] (.bool false), SLF.pq 64 [3] (.bool H), SLF.pq 65 [3] (.bool H), SLF.pq 66 [3, 4, 5] (.bool false), SLF.pq 67 [3, 6] (.bool false), SLF.pq 68 [7] (.bool false), SLF.pq 69 [8] (.int .i64 E), SLF.pq 70 [8] (.int .i64 E), SLF.pq 71 [8, 9, 10] (.bool false), SLF.pq 72 [8, 11] (.bool false), SLF.pq 73 [12] (.bool false), SLF.pq 74 [13] (.bool K), SLF.pq 75 [13] (.bool K), SLF.pq 76 [13, 14, 15] (.bool false), SLF.pq 77 [13, 16] (.bool false), SLF.pq 78 [17] (.bool false), SLF.pq 79 [18] (.int .i64 E), SLF.pq 80 [18] (.int .i64 E), SLF.pq 81 [18, 19, 20] (.bool false), SLF.pq 82 [18, 21] (.bool false), SLF.pq 83 [22] (.bool false), SLF.pq 84 [23] (.agg #[.int .i64 p, .slice a n cap]), SL.pu 85 [23, 24] (.int .i64 EC), SLF.pq 86 [23] (.agg #[.int .i64 p, .slice a n cap]), SL.pu 87 [23, 26] (.int .i64 EC), SLF.pq 88 [23, 25, 27] (.bool false), SLF.pq 89 [23, 28] (.bool false)]
        [29] (by kernel_rfl) (by kernel_rfl) (fun _ => []) (SL.none_held rfl) (by simp) ?_ ?_
      · refine ⟨?_, ?_, ?_, ?_, ?_, ?_, ?_, ?_, ?_, ?_, ?_, ?_, ?_, ?_, ?_, ?_, ?_, ?_, ?_, ?_, ?_, ?_, ?_, ?_, ?_, ?_, ?_, ?_, ?_, ?_, trivial⟩
        all_goals refine SLF.ob fun us w' Fe hG hu hd hv Kx hK => ?_
        all_goals simp [SL.frame, SL.put', SL.Used, SL.Seen, SL.pu, SL.row, SL.box, SL.rowIn, SL.boxIn, SL.boxAt, SL.boxAtIn, Bd.v, Bd.cs, SLF.pq] at hu hv hK
        all_goals (have hB5 : Below w.heap.size w w' := hB4.trans (hG.below'.mono (by omega)))
        all_goals (have hcc := (bcell hG.below').1)
        all_goals (have g0 := (hcc _ 0 s4).trans p0)
        all_goals (have g1 := (hcc _ 1 s4).trans p1)
        all_goals clear hcc p0 p1 p2 p3 p4 p5 hd hv hG
        all_goals first
          | refine SLF.wpo_do (SLF.wanted_free rfl) (by intro c h; cases h) ?_
          | refine SLF.wpo_do (SLF.wanted_by rfl rfl (by simp [SL.frame, SL.put', hu]; done)) (by intro c h; cases h) ?_
        all_goals simp [SL.frame, SL.put', SL.Used, SL.Seen, SL.pu, SL.row, SL.box, SL.rowIn, SL.boxIn, SL.boxAt, SL.boxAtIn, Bd.v, Bd.cs]
        all_goals try (go_step; exact hK _ _ _ _ (by simp [Act.put, *]; done) (SL.Chg.refl _ _) rfl rfl (by simp) (by simp))
        · go_step
          refine (hgC _ hB5).mono ?_
          rintro e w2 ⟨rfl, hb3⟩
          exact hK _ _ w2 _ (by simp [Act.put, *]; done) (.of_below hb3) rfl rfl (by simp)
        · go_step
          refine (hrC _ hB5).mono ?_
          rintro e w2 ⟨rfl, hb3⟩
          exact hK _ _ w2 _ (by simp [Act.put, *]; done) (.of_below hb3) rfl rfl (by simp)
      · intro us w5 Fs hG hu hbd hd
        simp [SL.frame, SL.put', SL.Used, SL.Seen, SL.pu, SL.row, SL.box, SL.rowIn, SL.boxIn, SL.boxAt, SL.boxAtIn, Bd.v, Bd.cs, SLF.pq] at hu ⊢
        obtain ⟨u7, _⟩ := hu
        have B5 := hG.below'
        have hB5 : Below w.heap.size w w5 := hB4.trans (B5.mono (by omega))
        have hcc := (bcell B5).1
        have g0 := (hcc _ 0 s4).trans p0
        have g1 := (hcc _ 1 s4).trans p1
        have g2 := (hcc _ 0 s4').trans p2
        have g3 := (hcc _ 1 s4').trans p3
        have g4 := (hcc _ 2 s4').trans p4
        have g5 := (hcc _ 3 s4').trans p5
        have s5a : w.heap.size < w5.heap.size := Nat.lt_of_lt_of_le s4 B5.size
        have s5b : w.heap.size + 1 < w5.heap.size := Nat.lt_of_lt_of_le s4' B5.size
        clear hcc p0 p1 p2 p3 p4 p5 hG hbd hd
        simp only [u7]
        clear u7
        go_upto_region 13 with (first
          | (go_at_call 12; refine (hGW _ (by ((repeat (first | exact Below.refl _ _ | assumption | refine Below.al ?_ _ | refine Below.ch ?_ (by assumption) | refine belowN ?_))))).mono ?_; rintro e w6 ⟨v6, rfl, ho6, hb6⟩; obtain ⟨a6, c6, rfl, h6b⟩ := owns_slice ho6; obtain ⟨hc6, hf6⟩ := bcell hb6; have s6a := lt_size hb6 (b := w.heap.size) (by first | assumption | omega | (simp; done) | (simp; omega)); have s6b := lt_size hb6 (b := w.heap.size + 1) (by first | assumption | omega | (simp; done) | (simp; omega)))
          | (go_at_call 13; refine (hRW _ (by ((repeat (first | exact Below.refl _ _ | assumption | refine Below.al ?_ _ | refine Below.ch ?_ (by assumption) | refine belowN ?_))))).mono ?_; rintro e w7 ⟨v7, rfl, ho7, hb7⟩; obtain ⟨a7, c7, rfl, h7b⟩ := owns_slice ho7; obtain ⟨hc7, hf7⟩ := bcell hb7; have s7a := lt_size hb7 (b := w.heap.size) (by first | assumption | omega | (simp; done) | (simp; omega)); have s7b := lt_size hb7 (b := w6.heap.size) (by first | assumption | omega | (simp; done) | (simp; omega)))
          | (go_at_call 14; refine (hGO _ (by ((repeat (first | exact Below.refl _ _ | assumption | refine Below.al ?_ _ | refine Below.ch ?_ (by assumption) | refine belowN ?_))))).mono ?_; rintro e w8 ⟨v8, rfl, hb8, ho8⟩; obtain ⟨a8, c8, rfl, h8b⟩ := owns_slice ho8; obtain ⟨hc8, hf8⟩ := bcell hb8; have s8a := lt_size hb8 (b := w.heap.size) (by first | assumption | omega | (simp; done) | (simp; omega)); have s8b := lt_size hb8 (b := w6.heap.size) (by first | assumption | omega | (simp; done) | (simp; omega)); have s8c := lt_size hb8 (b := w7.heap.size) (by first | assumption | omega | (simp; done) | (simp; omega)))
          | (go_at_call 15; refine (hRO _ (by ((repeat (first | exact Below.refl _ _ | assumption | refine Below.al ?_ _ | refine Below.ch ?_ (by assumption) | refine belowN ?_))))).mono ?_; rintro e w9 ⟨v9, rfl, hb9, ho9⟩; obtain ⟨a9, c9, rfl, h9b⟩ := owns_slice ho9; obtain ⟨hc9, hf9⟩ := bcell hb9; have s9a := lt_size hb9 (b := w.heap.size) (by first | assumption | omega | (simp; done) | (simp; omega)); have s9b := lt_size hb9 (b := w6.heap.size) (by first | assumption | omega | (simp; done) | (simp; omega)); have s9c := lt_size hb9 (b := w7.heap.size) (by first | assumption | omega | (simp; done) | (simp; omega)); have s9d := lt_size hb9 (b := w8.heap.size) (by first | assumption | omega | (simp; done) | (simp; omega))))
        have z5 := hb6.size
        have z7 := hb7.size
        have z8 := hb8.size
        have z9 := hb9.size
        simp only [World.size_alloc] at z7 z8 z9
        obtain ⟨W10, hW10⟩ : ∃ W10, W10 = w9.alloc (Obj.cells #[.int .i64 R2, .slice a9 L2.length c9] 24) := ⟨_, rfl⟩
        rw [← hW10]
        have z10 : w9.heap.size + 1 ≤ W10.heap.size := by rw [hW10]; simp
        have hB10 : Below w.heap.size w W10 := by rw [hW10]; ((repeat (first | exact Below.refl _ _ | assumption | refine Below.al ?_ _ | refine Below.ch ?_ (by assumption) | refine belowN ?_)))
        have x5 : Below w5.heap.size w5 W10 := by rw [hW10]; ((repeat (first | exact Below.refl _ _ | assumption | refine Below.al ?_ _ | refine Below.ch ?_ (by assumption) | refine belowN ?_)))
        have x6 : Below (w6.alloc (Obj.cells #[.int .i64 R1, .slice a6 L1.length c6] 24)).heap.size (w6.alloc (Obj.cells #[.int .i64 R1, .slice a6 L1.length c6] 24)) W10 := by rw [hW10]; ((repeat (first | exact Below.refl _ _ | assumption | refine Below.al ?_ _ | refine Below.ch ?_ (by assumption) | refine belowN ?_)))
        have x7 : Below (w7.alloc (Obj.cells #[.int .i64 R1, .slice a7 L1.length c7] 24)).heap.size (w7.alloc (Obj.cells #[.int .i64 R1, .slice a7 L1.length c7] 24)) W10 := by rw [hW10]; ((repeat (first | exact Below.refl _ _ | assumption | refine Below.al ?_ _ | refine Below.ch ?_ (by assumption) | refine belowN ?_)))
        have x8 : Below (w8.alloc (Obj.cells #[.int .i64 R2, .slice a8 L2.length c8] 24)).heap.size (w8.alloc (Obj.cells #[.int .i64 R2, .slice a8 L2.length c8] 24)) W10 := by rw [hW10]; ((repeat (first | exact Below.refl _ _ | assumption | refine Below.al ?_ _ | refine Below.ch ?_ (by assumption) | refine belowN ?_)))
        have h6 := (x6.block w6.heap.size (by simp)).trans (World.alloc_heap_new w6 _)
        have h7 := (x7.block w7.heap.size (by simp)).trans (World.alloc_heap_new w7 _)
        have h8 := (x8.block w8.heap.size (by simp)).trans (World.alloc_heap_new w8 _)
        have h9 : W10.heap[w9.heap.size]? = some (.cells #[.int .i64 R2, .slice a9 L2.length c9] 24 (0, 0)) := by rw [hW10]; exact World.alloc_heap_new w9 _
        have d6 := ((BdsAt.of_owns ho6 (by omega)).below ((Below.refl _ _).alloc (Nat.le_refl _) _)).below x6
        have d7 := ((BdsAt.of_owns ho7 (by omega)).below ((Below.refl _ _).alloc (Nat.le_refl _) _)).below x7
        have d8 := ((BdsAt.of_owns ho8 (by omega)).below ((Below.refl _ _).alloc (Nat.le_refl _) _)).below x8
        have d9 : BdsAt W10 a9 L2.length c9 L2 := by rw [hW10]; exact (BdsAt.of_owns ho9 (by omega)).below ((Below.refl _ _).alloc (Nat.le_refl _) _)
        have r0 := ((bcell x5).1 _ 0 s5a).trans g0
        have r1 := ((bcell x5).1 _ 1 s5a).trans g1
        obtain ⟨k6a, k6b, _, y6⟩ := cell2y h6
        obtain ⟨k7a, k7b, _, y7⟩ := cell2y h7
        obtain ⟨k8a, k8b, _, y8⟩ := cell2y h8
        obtain ⟨k9a, k9b, _, y9⟩ := cell2y h9
        have y1 : w.heap.size < W10.heap.size := by omega
        clear hW10 hc6 hf6 hc7 hf7 hc8 hf8 hc9 hf9 x5 x6 x7 x8 g0 g1 g2 g3 g4 g5 ho6 ho7 ho8 ho9 hb6 hb7 hb8 hb9 h8 h9 h6b h7b h8b h9b s6a s6b s7a s7b s8a s8b s8c s9a s9b s9c s9d hB5 hB4 B5
        go_upto_region 15 with (first
          | (go_at_call 16; have hg := hb11; clear hg; refine (rsamesys_yes _ _ _ _ _ _ _ _ _ (d8.below hb11) (d9.below hb11)).mono ?_; rintro e w12 ⟨rfl, hb12⟩; obtain ⟨hc12, hf12⟩ := bcell hb12)
          | (go_at_call 16; refine (rsamesys_yes _ _ _ _ _ _ _ _ _ d6 d7).mono ?_; rintro e w11 ⟨rfl, hb11⟩; obtain ⟨hc11, hf11⟩ := bcell hb11))
        have C12 : Below W10.heap.size W10 w12 := hb11.ch hb12
        have hB12 : Below w.heap.size w w12 := hB10.ch C12
        have n6 := (C12.block w6.heap.size y6).trans h6
        have n7 := (C12.block w7.heap.size y7).trans h7
        have q0 := ((bcell C12).1 _ 0 y1).trans r0
        have q1 := ((bcell C12).1 _ 1 y1).trans r1
        have z12 := C12.size
        clear hc11 hf11 hc12 hf12 r0 r1 k6a k6b k7a k7b k8a k8b k9a k9b h6 h7 d6 d7 d8 d9 hb11 hb12 C12
        go_upto_region 16 with (go_at_call 17; refine (hGn _ hB12).mono ?_; rintro e w13 ⟨v13, rfl, hb13, ho13⟩; obtain ⟨a13, c13, rfl, u13⟩ := owns_slice ho13; have m6 := (hb13.block _ (show w6.heap.size < w12.heap.size by omega)).trans n6; obtain ⟨k6a, k6b, f6, l6⟩ := cell2y m6)
        obtain ⟨W13, hW13⟩ : ∃ W13, W13 = (w13.setCell ⟨w6.heap.size, 0, none⟩ (.int .i64 R2)).setCell ⟨w6.heap.size, 1, none⟩ (.slice a13 L3.length c13) := ⟨_, rfl⟩
        rw [← hW13]
        obtain ⟨cg13, nb13⟩ := set2y m6 (u := .int .i64 R2) (v := .slice a13 L3.length c13)
        rw [← hW13] at cg13 nb13
        have C13 : SL.Chg [w6.heap.size] w12 W13 := (SL.Chg.of_below hb13).trans cg13
        have z13 := hb13.size
        have z13' := cg13.size
        have e0 := ((SL.Chg.cellsE C13).1 w.heap.size 0 (by omega) (by simp; omega)).trans q0
        have e1' := ((SL.Chg.cellsE C13).1 w.heap.size 1 (by omega) (by simp; omega)).trans q1
        have n7' := (C13.block w7.heap.size (by omega) (by simp; omega)).trans n7
        have d13 := (BdsAt.of_owns ho13 (by omega)).chg cg13 (fun z hz => by have := (u13 z hz).1; simp; omega)
        have hB13 : Below w.heap.size w W13 := (hB12.ch hb13).trans (cg13.belowE (by have := hB12.size; omega) (by simp; omega))
        clear hW13 q0 q1 m6 k6a k6b f6 n6 n7 ho13
        go_upto_region 17 with (go_at_call 18; refine (hRn _ hB13).mono ?_; rintro e w14 ⟨v14, rfl, hb14, ho14⟩; obtain ⟨a14, c14, rfl, u14⟩ := owns_slice ho14; have m7 := (hb14.block _ (show w7.heap.size < W13.heap.size by omega)).trans n7'; obtain ⟨k7a, k7b, f7, l7⟩ := cell2y m7)
        obtain ⟨W14, hW14⟩ : ∃ W14, W14 = (w14.setCell ⟨w7.heap.size, 0, none⟩ (.int .i64 R2)).setCell ⟨w7.heap.size, 1, none⟩ (.slice a14 L3.length c14) := ⟨_, rfl⟩
        rw [← hW14]
        obtain ⟨cg14, nb14⟩ := set2y m7 (u := .int .i64 R2) (v := .slice a14 L3.length c14)
        rw [← hW14] at cg14 nb14
        have C14 : SL.Chg [w7.heap.size] W13 W14 := (SL.Chg.of_below hb14).trans cg14
        have z14 := hb14.size
        have z14' := cg14.size
        have o0 := ((SL.Chg.cellsE C14).1 w.heap.size 0 (by omega) (by simp; omega)).trans e0
        have o1 := ((SL.Chg.cellsE C14).1 w.heap.size 1 (by omega) (by simp; omega)).trans e1'
        have nb6 := (C14.block w6.heap.size (by omega) (by simp; omega)).trans nb13
        have d13' := d13.chg C14 (fun z hz => by have := (u13 z hz).1; simp; omega)
        have d14 := (BdsAt.of_owns ho14 (by omega)).chg cg14 (fun z hz => by have := (u14 z hz).1; simp; omega)
        have hB14 : Below w.heap.size w W14 := (hB13.ch hb14).trans (cg14.belowE (by have := hB13.size; omega) (by simp; omega))
        obtain ⟨i6a, i6b, _, i6⟩ := cell2y nb6
        obtain ⟨i7a, i7b, _, i7⟩ := cell2y nb14
        have i1 : w.heap.size < W14.heap.size := by omega
        clear hW14 e0 e1' m7 k7a k7b f7 n7' ho14 d13 cg13 cg14 C13 C14 nb13 nb14 nb6 hb13 hb14 hB12 hB13 hB10 u13 u14
        go_wp2_with (first
          | (go_at_call 19; refine (hgI _ hB14).mono ?_; rintro e w15 ⟨v15, rfl, hb15, ho15⟩; obtain ⟨a15, c15, rfl, _⟩ := owns_slice ho15; obtain ⟨hc15, hf15⟩ := bcell hb15; have j1 := lt_size hb15 i1; have j6 := lt_size hb15 i6; have j7 := lt_size hb15 i7; have f15 := IntsAt.of_owns ho15 (by omega); have t15a := d13'.below hb15; have t15b := d14.below hb15; have hB15 : Below w.heap.size w w15 := hB14.ch hb15)
          | (go_at_call 20; refine (hrI _ hB15).mono ?_; rintro e w16 ⟨v16, rfl, hb16, ho16⟩; obtain ⟨a16, c16, rfl, _⟩ := owns_slice ho16; obtain ⟨hc16, hf16⟩ := bcell hb16; have b6 := lt_size hb16 j6; have b7 := lt_size hb16 j7; have f16 := IntsAt.of_owns ho16 (by omega); have f15' := f15.below hb16; have t16a := t15a.below hb16; have t16b := t15b.below hb16; have hB16 : Below w.heap.size w w16 := hB15.ch hb16)
          | (go_at_call 5; refine (lalive_any _).mono ?_; rintro e w17 ⟨rfl, hb17⟩; obtain ⟨hc17, hf17⟩ := bcell hb17; have g16 := f16.below hb17; have g15 := f15'.below hb17; have t17a := t16a.below hb17; have t17b := t16b.below hb17; have hB17 : Below w.heap.size w w17 := hB16.ch hb17)
          | (go_at_call 16; refine (rsamesys_yes _ _ _ _ _ _ _ _ _ t17a t17b).mono ?_; rintro e w18 ⟨rfl, hb18⟩; obtain ⟨hc18, hf18⟩ := bcell hb18; have g16' := g16.below hb18; have g15' := g15.below hb18; have hB18 : Below w.heap.size w w18 := hB17.ch hb18)
          | (go_at_call 21; refine (rsame_yes _ _ _ _ _ _ _ _ g15' g16').mono ?_; rintro e w19 ⟨rfl, hb19⟩; have hB19 : Below w.heap.size w w19 := hB18.ch hb19))
        go_ret
        exact ⟨rfl, hB19⟩
    · go_enter Tryz.func3, Tryz.ntmps3
      go_wp2_with (first
        | (go_at_call 4; refine (hW _).mono ?_; rintro e w0 ⟨rfl, hb0⟩; obtain ⟨hc0, hf0⟩ := bcell hb0; have hz0a := lt_size hb0 (b := w.heap.size) (by first | assumption | omega | (simp; done) | (simp; omega)))
        | (go_at_call 5; refine (lalive_any _).mono ?_; rintro e w9 ⟨rfl, hb9⟩; obtain ⟨hc9, hf9⟩ := bcell hb9))
      go_ret
      exact ⟨rfl, by ((repeat (first | exact Below.refl _ _ | assumption | refine Below.al ?_ _ | refine Below.ch ?_ (by assumption) | refine belowN ?_)))⟩
  · have h1 : decide (n ≤ 403) = false := by simpa using hn4
    simp only [h1] at hW
    go_enter Tryz.func3, Tryz.ntmps3
    go_wp2_with (first
      | (go_at_call 4; refine (hW _).mono ?_; rintro e w0 ⟨rfl, hb0⟩; obtain ⟨hc0, hf0⟩ := bcell hb0; have hz0a := lt_size hb0 (b := w.heap.size) (by first | assumption | omega | (simp; done) | (simp; omega)))
      | (go_at_call 5; refine (lalive_any _).mono ?_; rintro e w9 ⟨rfl, hb9⟩; obtain ⟨hc9, hf9⟩ := bcell hb9))
    go_ret
    exact ⟨rfl, by ((repeat (first | exact Below.refl _ _ | assumption | refine Below.al ?_ _ | refine Below.ch ?_ (by assumption) | refine belowN ?_)))⟩
end Go.Proofs.YtlkcfohmoeadbaaGreat
