/-
  The law GaugeMemory, walked: it returns true.
-/
import Derived.Test.YtlkcfohmoeadbaaPk36
import Derived.Test.YtlkcfohmoeadbaaPk30
import Derived.Test.YtlkcfohmoeadbaaPk27
import Derived.Test.YtlkcfohmoeadbaaPk29
import Derived.Test.YtlkcfohmoeadbaaPk10
set_option linter.unusedSimpArgs false
set_option linter.unusedVariables false
set_option linter.unnecessarySimpa false
namespace Go.Proofs.Ytlkcfohmoeadbaa
open Go.RowKit Go.Shelf
set_option maxHeartbeats 8000000
set_option maxRecDepth 100000

theorem withL_small {p : Int} {bs : List Bd} {x : Bd} : (withL p bs x).length ≤ 1000 := by
  by_cases h : withE p bs x = 0
  · obtain ⟨h1, h2⟩ := withE_zero h
    unfold withL
    rw [if_pos h]
    have := chk_400 h1
    simp; omega
  · unfold withL
    rw [if_neg h]; simp
theorem woL_small {p : Int} {bs : List Bd} {id : Int} : (if chk p bs = 0 then bs.filter (fun b => b.bid != id) else []).length ≤ 1000 := by
  split
  · rename_i h
    have := chk_400 h
    have := List.length_filter_le (fun b : Bd => b.bid != id) bs
    omega
  · simp
theorem set2 {W : World} {N : Nat} {x0 x1 u v : Value} {t : TypeId} (h : W.heap[N]? = some (.cells #[x0, x1] t (0, 0))) :
    SL.Chg [N] W ((W.setCell ⟨N, 0, none⟩ u).setCell ⟨N, 1, none⟩ v) ∧ ((W.setCell ⟨N, 0, none⟩ u).setCell ⟨N, 1, none⟩ v).heap[N]? = some (.cells #[u, v] t (0, 0)) := by
  refine ⟨(SL.Chg.setCell _ (by simp) _).trans (.setCell _ (by simp) _), ?_⟩
  have := SL.heap_set (SL.heap_set h u (i := 0)) v (i := 1)
  exact this
theorem cell2 {W : World} {N : Nat} {u v : Value} {t : TypeId} (h : W.heap[N]? = some (.cells #[u, v] t (0, 0))) : W.cell? ⟨N, 0, none⟩ = some u ∧ W.cell? ⟨N, 1, none⟩ = some v ∧ (∀ i, W.frozen? ⟨N, i, none⟩ = false) ∧ N < W.heap.size := by
  have h0 := (SL.cells_of h).1 0
  have h1 := (SL.cells_of h).1 1
  exact ⟨by simpa using h0, by simpa using h1, (SL.cells_of h).2, (Array.getElem?_eq_some_iff.1 h).1⟩

theorem mem3 {W : World} {N3 base b0 b1 b2 : Nat} {R1 R2 R3 : Int} {a4 a5 a6 : Option Addr} {n1 n2 n3 c4 c5 c6 : Nat} {X1 X2 X3 : List Value}
    (hN : W.heap[N3]? = some (.cells #[.int .i64 R1, .slice a4 n1 c4, .int .i64 R2, .slice a5 n2 c5, .int .i64 R3, .slice a6 n3 c6] 24 (0, 0)))
    (o1 : W.ownsRow base 39 4 (.slice a4 n1 c4) n1 X1) (u1 : ∀ q ∈ (Value.slice a4 n1 c4).ownBlock.toList, q < b0)
    (o2 : W.ownsRow base 39 4 (.slice a5 n2 c5) n2 X2) (u2 : ∀ q ∈ (Value.slice a5 n2 c5).ownBlock.toList, b0 < q ∧ q < b1)
    (o3 : W.ownsRow base 39 4 (.slice a6 n3 c6) n3 X3) (u3 : ∀ q ∈ (Value.slice a6 n3 c6).ownBlock.toList, b1 < q ∧ q < b2) (hb : b0 < b1 ∧ b1 < b2) (l1 : n1 ≤ 1000) (l2 : n2 ≤ 1000) (l3 : n3 ≤ 1000) :
    ∃ (A : Nat → Option Addr) (L C : Nat → Nat) (P : Nat → Int) (X : Nat → List Value), (∀ k, k < 3 → W.cell? ⟨N3, k * 2, none⟩ = some (.int .i64 (P k)) ∧ W.cell? ⟨N3, k * 2 + 1, none⟩ = some (.slice (A k) (L k) (C k)) ∧ W.ownsRow base 39 4 (.slice (A k) (L k) (C k)) (L k) (X k) ∧ L k ≤ 1000) ∧
      (∀ i j, i < 3 → j < 3 → i ≠ j → ∀ q ∈ (Value.slice (A i) (L i) (C i)).ownBlock.toList, q ∉ (Value.slice (A j) (L j) (C j)).ownBlock.toList) ∧ (∀ k, k < 3 → ∀ q ∈ (Value.slice (A k) (L k) (C k)).ownBlock.toList, base ≤ q ∧ q ≠ b0 ∧ q ≠ b1 ∧ q < b2) := by
  have hc := (SL.cells_of hN).1
  have h0 := hc 0
  have h1 := hc 1
  have h2 := hc 2
  have h3 := hc 3
  have h4 := hc 4
  have h5 := hc 5
  simp at h0 h1 h2 h3 h4 h5
  have v1 := fun q hq => (SL.row_bounds o1 q hq).1
  have v2 := fun q hq => (SL.row_bounds o2 q hq).1
  have v3 := fun q hq => (SL.row_bounds o3 q hq).1
  refine ⟨fun k => if k = 0 then a4 else if k = 1 then a5 else a6, fun k => if k = 0 then n1 else if k = 1 then n2 else n3, fun k => if k = 0 then c4 else if k = 1 then c5 else c6, fun k => if k = 0 then R1 else if k = 1 then R2 else R3, fun k => if k = 0 then X1 else if k = 1 then X2 else X3, fun k hk => ?_, fun i j hi hj hij q hq hm => ?_, fun k hk q hq => ?_⟩
  · rcases (show k = 0 ∨ k = 1 ∨ k = 2 by omega) with rfl | rfl | rfl
    · exact ⟨h0, h1, o1, l1⟩
    · exact ⟨h2, h3, o2, l2⟩
    · exact ⟨h4, h5, o3, l3⟩
  · rcases (show i = 0 ∨ i = 1 ∨ i = 2 by omega) with rfl | rfl | rfl
    all_goals rcases (show j = 0 ∨ j = 1 ∨ j = 2 by omega) with rfl | rfl | rfl
    all_goals try exact hij rfl
    · have := u1 q hq; have := u2 q hm; omega
    · have := u1 q hq; have := u3 q hm; omega
    · have := u2 q hq; have := u1 q hm; omega
    · have := u2 q hq; have := u3 q hm; omega
    · have := u3 q hq; have := u1 q hm; omega
    · have := u3 q hq; have := u2 q hm; omega
  · rcases (show k = 0 ∨ k = 1 ∨ k = 2 by omega) with rfl | rfl | rfl
    · have := u1 q hq; have := v1 q hq; omega
    · have := u2 q hq; have := v2 q hq; omega
    · have := u3 q hq; have := v3 q hq; omega

theorem row_struct {W : World} {base g n cap : Nat} {t : TypeId} {xs : List Value} (h : W.ownsRow base t 4 (.slice (some ⟨g, 0, none⟩) n cap) n xs) (m : Nat) (hm : m < n) : ∃ u0 u1 u2 u3, W.cell? ⟨g, m * 4, none⟩ = some u0 ∧ W.cell? ⟨g, m * 4 + 1, none⟩ = some u1 ∧ W.cell? ⟨g, m * 4 + 2, none⟩ = some u2 ∧ W.cell? ⟨g, m * 4 + 3, none⟩ = some u3 := by
  have hl := h.1
  have key : ∀ j, j < n * 4 → ∃ u, W.cell? ⟨g, j, none⟩ = some u := fun j hj => ⟨xs[j]'(by omega), by rw [World.ownsRow.cellAt h j hj, List.getElem?_eq_getElem (by omega)]⟩
  obtain ⟨u0, e0⟩ := key (m * 4) (by omega)
  obtain ⟨u1, e1⟩ := key (m * 4 + 1) (by omega)
  obtain ⟨u2, e2⟩ := key (m * 4 + 2) (by omega)
  obtain ⟨u3, e3⟩ := key (m * 4 + 3) (by omega)
  exact ⟨u0, u1, u2, u3, e0, e1, e2, e3⟩
theorem row_set4 {W : World} {base g n cap : Nat} {t : TypeId} {xs : List Value} (h : W.ownsRow base t 4 (.slice (some ⟨g, 0, none⟩) n cap) n xs) (i0 i1 i2 i3 : Nat) (u0 u1 u2 u3 : Value) :
    ∃ ys, ((((W.setCell ⟨g, i0, none⟩ u0).setCell ⟨g, i1, none⟩ u1).setCell ⟨g, i2, none⟩ u2).setCell ⟨g, i3, none⟩ u3).ownsRow base t 4 (.slice (some ⟨g, 0, none⟩) n cap) n ys :=
  ⟨_, (World.ownsRow.stored (World.ownsRow.stored (World.ownsRow.stored (World.ownsRow.stored h i0 u0).1 i1 u1).1 i2 u2).1 i3 u3).1⟩

theorem law_memory (p : Int) (a : Option Addr) (n cap : Nat) (bs : List Bd) (q : Int) (a2 : Option Addr) (n2 cap2 : Nat) (T : List Bd) (x : Bd) (id : Int) (w : World) (hb : BdsAt w a n cap bs) (hn : n ≤ 140737488351232) (hb2 : BdsAt w a2 n2 cap2 T) (hn2 : n2 ≤ 140737488351232) :
    Calls Try.prog 11 #[.agg #[.int .i64 p, .slice a n cap], .agg #[.int .i64 q, .slice a2 n2 cap2], .agg #[.int .i64 x.frm, .int .i64 x.tow, .int .i64 x.most, .int .i64 x.bid], .int .i64 id] w fun e w' => e = .returned (.bool true) ∧ Below w.heap.size w w' := by
  have hW := fun w1 => lwide_any p a n cap w1 hn
  have hW2 := fun w1 => lwide_any q a2 n2 cap2 w1 hn2
  by_cases hn4 : n ≤ 403
  · have h1 : decide (n ≤ 403) = true := by simpa using hn4
    simp only [h1] at hW
    by_cases hn5 : n2 ≤ 403
    · have h2 : decide (n2 ≤ 403) = true := by simpa using hn5
      simp only [h2] at hW2
      have hbl : bs.length ≤ 403 := by have := hb.len; omega
      obtain rfl := hb.len
      have hGW := fun w1 (h : BdsAt w1 a bs.length cap bs) => gWith_any p a _ cap bs x w1 h
      have hRW := fun w1 a9 c9 (h : BdsAt w1 a9 bs.length c9 bs) => rWith_any p a9 _ c9 bs x w1 h
      have hGO := fun w1 (h : BdsAt w1 a bs.length cap bs) => gWithout_any p a _ cap bs id w1 h
      have hRO := fun w1 a9 c9 (h : BdsAt w1 a9 bs.length c9 bs) => rWithout_any p a9 _ c9 bs id w1 h
      have hGB := fun w1 (h : BdsAt w1 a bs.length cap bs) (h2 : BdsAt w1 a2 n2 cap2 T) => gBeside_any p a _ cap bs q a2 n2 cap2 T w1 h h2
      have hRB := fun w1 a9 c9 (h : BdsAt w1 a9 bs.length c9 bs) (h2 : BdsAt w1 a2 n2 cap2 T) => rBeside_any p a9 _ c9 bs q a2 n2 cap2 T w1 h h2
      have l1 := withL_small (p := p) (bs := bs) (x := x)
      have l2 := woL_small (p := p) (bs := bs) (id := id)
      have l3 := bsdL_small (p := p) (q := q) (bs := bs) (T := T)
      generalize (if withE p bs x = 0 then p else 0) = R1 at *
      generalize withE p bs x = E1 at *
      generalize withL p bs x = L1 at *
      generalize (if chk p bs = 0 then bs.filter (fun b => b.bid != id) else []) = L2 at *
      generalize (if chk p bs = 0 then p else 0) = R2 at *
      generalize chk p bs = E2 at *
      generalize (if bsdE p bs q T = 0 then p + q else 0) = R3 at *
      generalize bsdE p bs q T = E3 at *
      generalize bsdL p bs q T = L3 at *
      have e1 : (E1 == E1) = true := by simp
      have e2 : (E2 == E2) = true := by simp
      have e3 : (E3 == E3) = true := by simp
      clear hn4 hn hn5 hn2 h1 h2
      go_enter Try.func11, Try.ntmps11
      go_wp2_with (first
        | (go_at_call 20; have hg := hb0; clear hg; refine (hW2 _).mono ?_; rintro e w1 ⟨rfl, hb1⟩; obtain ⟨hc1, hf1⟩ := bcell hb1; have s1a := lt_size hb1 (b := w.heap.size) (by first | assumption | omega | (simp; done) | (simp; omega)); have s1b := lt_size hb1 (b := w.heap.size + 1) (by first | assumption | omega | (simp; done) | (simp; omega)); have s1c := lt_size hb1 (b := w.heap.size + 1 + 1) (by first | assumption | omega | (simp; done) | (simp; omega)))
        | (go_at_call 20; refine (hW _).mono ?_; rintro e w0 ⟨rfl, hb0⟩; obtain ⟨hc0, hf0⟩ := bcell hb0; have hz0a := lt_size hb0 (b := w.heap.size) (by first | assumption | omega | (simp; done) | (simp; omega)); have hz0b := lt_size hb0 (b := w.heap.size+1) (by first | assumption | omega | (simp; done) | (simp; omega)); have hz0c := lt_size hb0 (b := w.heap.size+1+1) (by first | assumption | omega | (simp; done) | (simp; omega))))
      have hB1 : Below w.heap.size w w1 := by ((repeat (first | exact Below.refl _ _ | assumption | refine Below.al ?_ _ | refine Below.ch ?_ (by assumption) | refine belowN ?_)))
      have p0 : w1.cell? ⟨w.heap.size, 0, none⟩ = some (.int .i64 p) := by simp [go_sem, *]
      have p1 : w1.cell? ⟨w.heap.size, 1, none⟩ = some (.slice a bs.length cap) := by simp [go_sem, *]
      have p2 : w1.cell? ⟨w.heap.size + 1, 0, none⟩ = some (.int .i64 q) := by simp [go_sem, *]
      have p3 : w1.cell? ⟨w.heap.size + 1, 1, none⟩ = some (.slice a2 n2 cap2) := by simp [go_sem, *]
      have p4 : w1.cell? ⟨w.heap.size + 1 + 1, 0, none⟩ = some (.int .i64 x.frm) := by simp [go_sem, *]
      have p5 : w1.cell? ⟨w.heap.size + 1 + 1, 1, none⟩ = some (.int .i64 x.tow) := by simp [go_sem, *]
      have p6 : w1.cell? ⟨w.heap.size + 1 + 1, 2, none⟩ = some (.int .i64 x.most) := by simp [go_sem, *]
      have p7 : w1.cell? ⟨w.heap.size + 1 + 1, 3, none⟩ = some (.int .i64 x.bid) := by simp [go_sem, *]
      have hbw := hb.below hB1
      clear hc0 hf0 hc1 hf1 hb0 hb1 hW hW2
      refine SL.rule (by kernel_rfl) [] [37, 38, 39, 40, 41, 42, 43, 9] [
        SL.pu 37 [] (.pointer (some ⟨w.heap.size, 0, none⟩)), SL.pu 38 [0] (.int .i64 p), SL.row 39 [] [] w1.heap.size 39 4 0 [], SL.pu 40 [] (.pointer (some ⟨w.heap.size, 1, none⟩)), SL.pu 41 [3] (.slice a bs.length cap),
        SL.row 42 [2, 4] [2] w1.heap.size 39 4 bs.length (bcs bs), SL.rowIn 43 [1, 5] [5] w1.heap.size 39 4 bs.length (bcs bs) (fun u => .agg #[.int .i64 p, u]),
        SL.box 9 [] [] w1.heap.size 24 #[.int .i64 0, .slice none 0 0],
        SL.boxIn 9 [6, 7] [6, 7] w1.heap.size 24 39 4 bs.length (bcs bs) (fun u => #[.int .i64 p, u])] [8] (by kernel_rfl) (by kernel_rfl) (fun _ => []) (SL.none_held rfl) (by simp) ?_ ?_
      · refine ⟨?_, ?_, ?_, ?_, ?_, ?_, ?_, ?_, ?_, trivial⟩
        all_goals refine SL.ob fun us w' Fe hG hu hd hv K hK => ?_
        all_goals simp [SL.frame, SL.put', SL.Used, SL.Seen, SL.pu, SL.row, SL.box, SL.rowIn, SL.boxIn, SL.boxAt, SL.boxAtIn, Bd.v, Bd.cs] at hu hv hK ⊢
        all_goals (have hcc := (bcell hG.below').1)
        all_goals (have g0 := (hcc _ 0 (by simpa using s1a)).trans p0)
        all_goals (have g1 := (hcc _ 1 (by simpa using s1a)).trans p1)
        all_goals (have hsz := hG.size; simp only [World.size_drew] at hsz)
        all_goals (have hbv := hbw.below hG.below')
        all_goals clear hcc p0 p1 p2 p3 p4 p5 p6 p7
        all_goals try (go_step; refine hK _ _ _ _ (by simp [Act.put, *]; done) (SL.Chg.refl _ _) rfl rfl (by simp))
        · go_step
          refine hK _ _ _ _ (by simp [Act.put, *]; done) (.alloc _ _ _) (World.ownsRow_lit w' #[] 0 hsz (by decide) rfl) rfl (by simp [Value.ownBlock])
        · obtain ⟨⟨u1, u2⟩, u3, u4⟩ := hu
          refine wp_app elemB _ _ rfl u1 rfl u3 hbv.row (bcs_length bs) (bcs_one bs) (by unfold maxLen; omega) (by omega) hsz ?_
          intro v' w5 ho hg hb _ hat
          refine hK _ v' w5 _ rfl ?_ (by simpa using ho) rfl ?_
          · exact .of_own hg (by rw [u2]; simp)
          · rw [u2]; exact SL.app_bounds u1 ho hat
        · obtain ⟨⟨u1, _⟩, u2, u3⟩ := hu
          obtain ⟨sa, c, hsl, _⟩ := owns_slice u2
          go_step
          refine hK _ _ _ _ (by simp [Act.put, *]; done) (.refl _ _) _ rfl (hsl ▸ u2) rfl ?_
          rw [u3]; simp [hsl]; exact fun k h => .inl h
        · go_step
          refine hK _ _ _ _ (by simp [Act.put, *]; done) (.alloc _ _ _) _ rfl hsz (heap_alloc_new w' _) rfl (by simp)
        · obtain ⟨⟨u, hu1, u2, u3⟩, N, hu4, hN, u4, u5⟩ := hu
          obtain ⟨sa, c, hsl, _⟩ := owns_slice u2
          subst hsl
          have c0 := (SL.cells_of u4).1 0
          have c1 := (SL.cells_of u4).1 1
          have f0 := (SL.cells_of u4).2
          simp at c0 c1
          have hne : N ∉ (Value.slice sa bs.length c).ownBlock.toList := by
            have := hd 7 6 (by simp [SL.boxIn]) (by simp [SL.boxIn]) (by simp) N (by rw [u5]; simp)
            rwa [u3] at this
          go_step
          refine hK _ undef _ _ (by simp [Act.put, *]; done) (.trans (.setCell _ (by simp [u5]) _) (.setCell _ (by simp [u5]) _)) N hu4 hN _ (SL.heap_set (SL.heap_set u4 _) _) (SL.row_set (SL.row_set u2 hne _) hne _) rfl ?_
          rw [u5, u3]; simp; exact fun k h => .inl (.inl h)
      · intro us w3 Fs hG hu hbd hd
        simp [SL.frame, SL.put', SL.Used, SL.Seen, SL.pu, SL.row, SL.box, SL.rowIn, SL.boxIn, SL.boxAt, SL.boxAtIn, Bd.v, Bd.cs] at hu ⊢
        obtain ⟨N9, u7, hN, v9, hh9, ho9, hF⟩ := hu
        obtain ⟨a9, c9, rfl, h9b⟩ := owns_slice ho9
        have B3 : Below w1.heap.size w1 w3 := hG.below'
        have z3 := B3.size
        have n9 : N9 < w3.heap.size := (Array.getElem?_eq_some_iff.1 hh9).1
        obtain ⟨k0, k1, _, _⟩ := cell2 hh9
        have hB3 : Below w.heap.size w w3 := hB1.ch B3
        have g0 := ((bcell B3).1 _ 0 s1a).trans p0
        have g1 := ((bcell B3).1 _ 1 s1a).trans p1
        have g2 := ((bcell B3).1 _ 0 s1b).trans p2
        have g3 := ((bcell B3).1 _ 1 s1b).trans p3
        have g4 := ((bcell B3).1 _ 0 s1c).trans p4
        have g5 := ((bcell B3).1 _ 1 s1c).trans p5
        have g6 := ((bcell B3).1 _ 2 s1c).trans p6
        have g7 := ((bcell B3).1 _ 3 s1c).trans p7
        have s3a : w.heap.size < w3.heap.size := by omega
        have s3b : w.heap.size + 1 < w3.heap.size := by omega
        have s3c : w.heap.size + 1 + 1 < w3.heap.size := by omega
        have hn9 : w1.heap.size ≤ N9 := hN
        clear p0 p1 p2 p3 p4 p5 p6 p7 hbw hG hbd hd hF
        simp only [u7]
        clear u7
        go_wp2_with (first
          | (go_at_call 42; refine (hGW _ (hb.below (by ((repeat (first | exact Below.refl _ _ | assumption | refine Below.al ?_ _ | refine Below.ch ?_ (by assumption) | refine belowN ?_)))))).mono ?_; rintro e w4 ⟨v4, rfl, ho4, hb4⟩; obtain ⟨a4, c4, rfl, h4b⟩ := owns_slice ho4; obtain ⟨hc4, hf4⟩ := bcell hb4; have s4a := lt_size hb4 (b := w.heap.size) (by first | assumption | omega | (simp; done) | (simp; omega)); have s4b := lt_size hb4 (b := w.heap.size + 1) (by first | assumption | omega | (simp; done) | (simp; omega)))
          | (go_at_call 43; refine (hGO _ (hb.below (by ((repeat (first | exact Below.refl _ _ | assumption | refine Below.al ?_ _ | refine Below.ch ?_ (by assumption) | refine belowN ?_)))))).mono ?_; rintro e w5 ⟨v5, rfl, hb5, ho5⟩; obtain ⟨a5, c5, rfl, h5b⟩ := owns_slice ho5; obtain ⟨hc5, hf5⟩ := bcell hb5; have s5a := lt_size hb5 (b := w.heap.size) (by first | assumption | omega | (simp; done) | (simp; omega)); have s5b := lt_size hb5 (b := w.heap.size + 1) (by first | assumption | omega | (simp; done) | (simp; omega)); have s5c := lt_size hb5 (b := w4.heap.size) (by first | assumption | omega | (simp; done) | (simp; omega)))
          | (go_at_call 44; refine (hGB _ (hb.below (by ((repeat (first | exact Below.refl _ _ | assumption | refine Below.al ?_ _ | refine Below.ch ?_ (by assumption) | refine belowN ?_))))) (hb2.below (by ((repeat (first | exact Below.refl _ _ | assumption | refine Below.al ?_ _ | refine Below.ch ?_ (by assumption) | refine belowN ?_)))))).mono ?_; rintro e w6 ⟨v6, rfl, hb6, ho6⟩; obtain ⟨a6, c6, rfl, h6b⟩ := owns_slice ho6; obtain ⟨hc6, hf6⟩ := bcell hb6; have s6c := lt_size hb6 (b := w4.heap.size) (by first | assumption | omega | (simp; done) | (simp; omega)); have s6d := lt_size hb6 (b := w5.heap.size) (by first | assumption | omega | (simp; done) | (simp; omega))))
        obtain ⟨W7, hW7⟩ : ∃ W7, W7 = (w6.alloc (Obj.cells #[.int .i64 R3, .slice a6 L3.length c6] 24)).alloc (Obj.cells #[.int .i64 R1, .slice a4 L1.length c4, .int .i64 R2, .slice a5 L2.length c5, .int .i64 R3, .slice a6 L3.length c6] 24) := ⟨_, rfl⟩
        rw [← hW7]
        have y4 := hb4.size
        have y5 := hb5.size
        have y6 := hb6.size
        simp only [World.size_alloc] at y5 y6
        have y7 : W7.heap.size = w6.heap.size + 2 := by rw [hW7]; simp
        have B64 : Below (w5.alloc (Obj.cells #[.int .i64 R2, .slice a5 L2.length c5] 24)).heap.size (w5.alloc (Obj.cells #[.int .i64 R2, .slice a5 L2.length c5] 24)) W7 := by rw [hW7]; exact (hb6.al _).al _
        have B54 : Below (w4.alloc (Obj.cells #[.int .i64 R1, .slice a4 L1.length c4] 24)).heap.size (w4.alloc (Obj.cells #[.int .i64 R1, .slice a4 L1.length c4] 24)) W7 := (hb5.al _).ch B64
        have B5 : Below w5.heap.size w5 W7 := ((Below.refl _ _).al _).ch B64
        have B4 : Below w4.heap.size w4 W7 := ((Below.refl _ _).al _).ch B54
        have B6 : Below w6.heap.size w6 W7 := by rw [hW7]; exact ((Below.refl _ _).al _).al _
        have B37 : Below w3.heap.size w3 W7 := hb4.ch B4
        have B7 : Below w.heap.size w W7 := hB3.ch B37
        have hN10 := (B54.block w4.heap.size (by simp)).trans (World.alloc_heap_new w4 _)
        have hN12 := (B64.block w5.heap.size (by simp)).trans (World.alloc_heap_new w5 _)
        have hN14 : W7.heap[w6.heap.size]? = some (.cells #[.int .i64 R3, .slice a6 L3.length c6] 24 (0, 0)) := by rw [hW7, Below.heap_alloc _ _ _ (by simp)]; exact World.alloc_heap_new w6 _
        have hN3 : W7.heap[w6.heap.size + 1]? = some (.cells #[.int .i64 R1, .slice a4 L1.length c4, .int .i64 R2, .slice a5 L2.length c5, .int .i64 R3, .slice a6 L3.length c6] 24 (0, 0)) := by rw [hW7]; exact heap_alloc2_new _ _ _
        have r4 := World.ownsRow.up ho4 B4 (Nat.le_refl _)
        have r5 := World.ownsRow.up ho5 B5 (show w3.heap.size ≤ _ by simp; omega)
        have r6 := World.ownsRow.up ho6 B6 (show w3.heap.size ≤ _ by simp; omega)
        obtain ⟨A, LL, C, P, X, HK, HD, HE⟩ := mem3 (b0 := w4.heap.size) (b1 := w5.heap.size) (b2 := w6.heap.size) hN3 r4 (fun k hk => (SL.row_bounds ho4 k hk).2) r5 (fun k hk => by have := SL.row_bounds ho5 k hk; simp at this; omega) r6 (fun k hk => by have := SL.row_bounds ho6 k hk; simp at this; omega) (by omega) l1 l2 l3
        have j0 := ((bcell B37).1 _ 0 s3a).trans g0
        have j1 := ((bcell B37).1 _ 1 s3a).trans g1
        have j2 := ((bcell B37).1 _ 0 s3b).trans g2
        have j3 := ((bcell B37).1 _ 1 s3b).trans g3
        have j4 := ((bcell B37).1 _ 0 s3c).trans g4
        have j5 := ((bcell B37).1 _ 1 s3c).trans g5
        have j6 := ((bcell B37).1 _ 2 s3c).trans g6
        have j7 := ((bcell B37).1 _ 3 s3c).trans g7
        have hh97 := (B37.block _ n9).trans hh9
        have ho97 := World.ownsRow.up ho9 B37 (Nat.le_refl _)
        clear g0 g1 g2 g3 g4 g5 g6 g7 k0 k1 hc4 hf4 hc5 hf5 hc6 hf6 hW7 r4 r5 r6 ho4 ho5 ho6 B5 B4 B6 B54 B64 hb4 hb5 hb6 s4a s4b s5a s5b s5c s6c s6d h4b h5b h6b
        have HJ := Lib.hid (show _ ∧ _ ∧ _ ∧ _ ∧ _ ∧ _ ∧ _ ∧ _ from ⟨j0, j1, j2, j3, j4, j5, j6, j7⟩)
        clear j0 j1 j2 j3 j4 j5 j6 j7
        have HK' := Lib.hid HK
        have HD' := Lib.hid HD
        have HE' := Lib.hid HE
        clear HK HD HE
        go_loopw [67] (fun i wr => ∃ k : Nat, k ≤ 3 ∧ i = .int .i64 k ∧ SL.Chg ((List.range 3).flatMap fun k => (Value.slice (A k) (LL k) (C k)).ownBlock.toList) W7 wr ∧ ∀ j, k ≤ j → j < 3 → ∀ e ∈ (Value.slice (A j) (LL j) (C j)).ownBlock.toList, wr.heap[e]? = W7.heap[e]?) (fun i _ => 3 - (intOf i).toNat)
        case atStart => exact ⟨0, by omega, rfl, .refl _ _, fun _ _ _ _ _ => rfl⟩
        case round =>
          obtain ⟨k, hk, rfl, hC, hR⟩ := hrel
          rename World => w8
          have y8 := hC.size
          by_cases hlt : k < 3
          · obtain ⟨t1, t2, t3, t4⟩ := HK'.out k hlt
            have hE := HE'.out k hlt
            have n3' : w6.heap.size + 1 ∉ (List.range 3).flatMap (fun k => (Value.slice (A k) (LL k) (C k)).ownBlock.toList) := fun h => by
              obtain ⟨i, hi, hm⟩ := List.mem_flatMap.1 h
              have := HE'.out i (List.mem_range.1 hi) _ hm
              omega
            have t1' := ((SL.Chg.cellsE hC).1 _ _ (by omega) n3').trans t1
            have t2' := ((SL.Chg.cellsE hC).1 _ _ (by omega) n3').trans t2
            have t3' := SL.row_stab t3 (fun e he => hR k (Nat.le_refl _) hlt e he)
            have hsub : ∀ e ∈ (Value.slice (A k) (LL k) (C k)).ownBlock.toList, e ∈ (List.range 3).flatMap (fun k => (Value.slice (A k) (LL k) (C k)).ownBlock.toList) := fun e he => List.mem_flatMap.2 ⟨k, List.mem_range.2 hlt, he⟩
            have hdk := HD'.out
            have hrest : ∀ j, k + 1 ≤ j → j < 3 → ∀ e ∈ (Value.slice (A j) (LL j) (C j)).ownBlock.toList, e ∉ (Value.slice (A k) (LL k) (C k)).ownBlock.toList := fun j h1 h2 e he => hdk j k h2 hlt (by omega) e he
            have Hrest := Lib.hid hrest
            have Hsub := Lib.hid hsub
            have HR := Lib.hid hR
            have HEk := Lib.hid hE
            clear t1 t2 t3 hdk hrest hsub hR hE
            have ha : (w8.alloc (Obj.cells #[.int .i64 (P k), .slice (A k) (LL k) (C k)] 24)).heap[w8.heap.size]? = some (.cells #[.int .i64 (P k), .slice (A k) (LL k) (C k)] 24 (0, 0)) := World.alloc_heap_new w8 _
            have t3'' := World.ownsRow.up t3' ((Below.refl _ w8).alloc (Nat.le_refl _) (Obj.cells #[.int .i64 (P k), .slice (A k) (LL k) (C k)] 24)) (Nat.le_refl _)
            have hz8 : w6.heap.size + 1 < w8.heap.size := by omega
            go_wp2_with fail
            obtain ⟨w9, hw9⟩ : ∃ w9, w9 = w8.alloc (Obj.cells #[.int .i64 (P k), .slice (A k) (LL k) (C k)] 24) := ⟨_, rfl⟩
            rw [← hw9] at ha t3'' ⊢
            have hC9 : SL.Chg [] w8 w9 := by rw [hw9]; exact .alloc _ _ _
            have y9 : w9.heap.size = w8.heap.size + 1 := by rw [hw9]; simp
            clear hw9 t1' t2' t3'
            obtain ⟨_, ha1, _, _⟩ := cell2 ha
            go_loopw [74, 18] (fun i _ wi => ∃ (m : Nat) (ys : List Value), m ≤ LL k ∧ i = .int .i64 m ∧ SL.Chg (Value.slice (A k) (LL k) (C k)).ownBlock.toList w9 wi ∧ wi.ownsRow w3.heap.size 39 4 (.slice (A k) (LL k) (C k)) (LL k) ys) (fun i _ _ => LL k - (intOf i).toNat)
            case atStart => exact ⟨0, _, Nat.zero_le _, rfl, .refl _ _, t3''⟩
            case round =>
              obtain ⟨m, ys, hm, rfl, hCi, hoi⟩ := hrel
              rename World => wi
              clear ha1 t3''
              have yi := hCi.size
              have nk : w8.heap.size ∉ (Value.slice (A k) (LL k) (C k)).ownBlock.toList := fun h => by have := (HEk.out _ h).2.2.2; omega
              have ha2 := ((SL.Chg.cellsE hCi).1 w8.heap.size 1 (by omega) nk).trans (cell2 ha).2.1
              have si : w8.heap.size < wi.heap.size := by omega
              by_cases hml : m < LL k
              · obtain ⟨g, cg, hv⟩ : ∃ g cg, Value.slice (A k) (LL k) (C k) = .slice (some ⟨g, 0, none⟩) (LL k) cg := by
                  obtain ⟨_, ⟨hv, hn0⟩ | ⟨g, cg, cur, hv, _⟩⟩ := hoi
                  · omega
                  · exact ⟨g, cg, hv⟩
                have HRel := Lib.hid (show ∀ wj, (∃ ys, wj.ownsRow w3.heap.size 39 4 (.slice (some ⟨g, 0, none⟩) (LL k) cg) (LL k) ys) → SL.Chg [g] wi wj → SL.Chg (Value.slice (A k) (LL k) (C k)).ownBlock.toList w9 wj ∧ ∃ ys, wj.ownsRow w3.heap.size 39 4 (.slice (A k) (LL k) (C k)) (LL k) ys from fun wj h1 h2 => by
                  rw [hv]
                  rw [hv] at hCi
                  exact ⟨hCi.trans (by simpa [Value.ownBlock] using h2), h1⟩)
                rw [hv] at hoi ha2
                obtain ⟨u0, u1, u2, u3, v0, v1, v2, v3⟩ := row_struct hoi m hml
                have ff := row_free hoi
                have hset := row_set4 hoi (m * 4) (m * 4 + 1) (m * 4 + 2) (m * 4 + 3) (.int .i64 (-7)) (.int .i64 0) (.int .i64 0) (.int .i64 0)
                have hq := HRel.out _ hset ((((SL.Chg.setCell _ (by simp) _).trans (.setCell _ (by simp) _)).trans (.setCell _ (by simp) _)).trans (.setCell _ (by simp) _))
                have hgl : g < wi.heap.size := (SL.row_bounds hoi g (by simp [Value.ownBlock])).2
                have HQ := Lib.hid hq
                clear hq hset hv hCi HRel
                go_wp2_with fail
                go_roundw
                case rel =>
                  obtain ⟨q1, ys', q2⟩ := HQ.out
                  exact ⟨m + 1, ys', by omega, by go_num, q1, q2⟩
                case measure => simp [intOf]; omega
              · go_wp2_with fail
                go_roundw
                case rel =>
                  refine ⟨k + 1, by omega, by go_num, (hC.trans (hC9.mono2 (by simp))).trans (hCi.mono2 Hsub.out), fun j h1 h2 e he => ?_⟩
                  have h3 := (SL.row_bounds (HK'.out j h2).2.2.1 e he).2
                  rw [hCi.block e (by omega) (Hrest.out j h1 h2 e he), hC9.block e (by omega) (by simp)]
                  exact HR.out j (by omega) h2 e he
                case measure => simp [intOf]; omega
          · obtain rfl : k = 3 := by omega
            obtain ⟨j0, j1, j2, j3, j4, j5, j6, j7⟩ := HJ.out
            obtain ⟨E, hEq⟩ : ∃ E, E = (List.range 3).flatMap (fun k => (Value.slice (A k) (LL k) (C k)).ownBlock.toList) := ⟨_, rfl⟩
            rw [← hEq] at hC
            have hEE : ∀ e ∈ E, w3.heap.size ≤ e ∧ e ≠ w4.heap.size ∧ e ≠ w5.heap.size ∧ e < w6.heap.size := fun e he => by
              rw [hEq] at he
              obtain ⟨i, hi, hm⟩ := List.mem_flatMap.1 he
              exact HE'.out i (List.mem_range.1 hi) e hm
            have nlo : ∀ b, b < w3.heap.size → b ∉ E := fun b hb he => by have := (hEE b he).1; omega
            have q0 := ((SL.Chg.cellsE hC).1 w.heap.size 0 (by omega) (nlo _ s3a)).trans j0
            have q1 := ((SL.Chg.cellsE hC).1 w.heap.size 1 (by omega) (nlo _ s3a)).trans j1
            have q2 := ((SL.Chg.cellsE hC).1 (w.heap.size + 1) 0 (by omega) (nlo _ s3b)).trans j2
            have q3 := ((SL.Chg.cellsE hC).1 (w.heap.size + 1) 1 (by omega) (nlo _ s3b)).trans j3
            have q4 := ((SL.Chg.cellsE hC).1 (w.heap.size + 1 + 1) 0 (by omega) (nlo _ s3c)).trans j4
            have q5 := ((SL.Chg.cellsE hC).1 (w.heap.size + 1 + 1) 1 (by omega) (nlo _ s3c)).trans j5
            have q6 := ((SL.Chg.cellsE hC).1 (w.heap.size + 1 + 1) 2 (by omega) (nlo _ s3c)).trans j6
            have q7 := ((SL.Chg.cellsE hC).1 (w.heap.size + 1 + 1) 3 (by omega) (nlo _ s3c)).trans j7
            obtain ⟨k90, k91, _, _⟩ := cell2 ((hC.block N9 (by omega) (nlo _ n9)).trans hh97)
            have h10 := (hC.block w4.heap.size (by omega) (fun h => (hEE _ h).2.1 rfl)).trans hN10
            have h12 := (hC.block w5.heap.size (by omega) (fun h => (hEE _ h).2.2.1 rfl)).trans hN12
            have h14 := (hC.block w6.heap.size (by omega) (fun h => by have := (hEE _ h).2.2.2; omega)).trans hN14
            have hB8 : Below w.heap.size w w8 := B7.trans (hC.belowE B7.size (fun e he => by have := (hEE e he).1; omega))
            have hbd9 : BdsAt w8 a9 bs.length c9 bs := (BdsAt.of_owns ho97 (by omega)).chg hC (fun z hz => nlo _ (h9b z hz).2)
            have s8a : w.heap.size < w8.heap.size := by omega
            have s8b : w.heap.size + 1 < w8.heap.size := by omega
            have s8c : w.heap.size + 1 + 1 < w8.heap.size := by omega
            have s8d : N9 < w8.heap.size := by omega
            have z8a : w4.heap.size < w8.heap.size := by omega
            have z8b : w5.heap.size < w8.heap.size := by omega
            have z8c : w6.heap.size < w8.heap.size := by omega
            have ne1 : N9 < w4.heap.size := by omega
            have ne2 : w.heap.size < w4.heap.size := by omega
            have ne3 : w4.heap.size < w5.heap.size := by omega
            have ne4 : w5.heap.size < w6.heap.size := by omega
            clear HJ HK' HD' HE' hEE nlo hEq hC hR j0 j1 j2 j3 j4 j5 j6 j7 hN10 hN12 hN14 hN3 hh97 ho97 B7 B37 hB3 B3 hh9 ho9
            go_wp2_with (first
              | (go_at_call 45; refine (hRW _ a9 c9 (hbd9.below (by ((repeat (first | exact Below.refl _ _ | assumption | refine Below.al ?_ _ | refine Below.ch ?_ (by assumption) | refine belowN ?_)))))).mono ?_; rintro e w10 ⟨v10, rfl, ho10, hb10⟩; obtain ⟨a10, c10, rfl, u10⟩ := owns_slice ho10; obtain ⟨hc10, hf10⟩ := bcell hb10; have s10a := lt_size hb10 (b := w.heap.size) (by first | assumption | omega | (simp; done) | (simp; omega)); have s10b := lt_size hb10 (b := w.heap.size + 1) (by first | assumption | omega | (simp; done) | (simp; omega)); have s10c := lt_size hb10 (b := w.heap.size + 1 + 1) (by first | assumption | omega | (simp; done) | (simp; omega)); have s10d := lt_size hb10 (b := N9) (by first | assumption | omega | (simp; done) | (simp; omega)))
              | (go_at_call 46; refine (hRO _ a9 c9 (hbd9.below (by ((repeat (first | exact Below.refl _ _ | assumption | refine Below.al ?_ _ | refine Below.ch ?_ (by assumption) | refine belowN ?_)))))).mono ?_; rintro e w11 ⟨v11, rfl, hb11, ho11⟩; obtain ⟨a11, c11, rfl, u11⟩ := owns_slice ho11; obtain ⟨hc11, hf11⟩ := bcell hb11; have s11a := lt_size hb11 (b := w.heap.size) (by first | assumption | omega | (simp; done) | (simp; omega)); have s11b := lt_size hb11 (b := w.heap.size + 1) (by first | assumption | omega | (simp; done) | (simp; omega)); have s11c := lt_size hb11 (b := w.heap.size + 1 + 1) (by first | assumption | omega | (simp; done) | (simp; omega)); have s11d := lt_size hb11 (b := N9) (by first | assumption | omega | (simp; done) | (simp; omega)))
              | (go_at_call 47; refine (hRB _ a9 c9 (hbd9.below (by ((repeat (first | exact Below.refl _ _ | assumption | refine Below.al ?_ _ | refine Below.ch ?_ (by assumption) | refine belowN ?_))))) (hb2.below (by ((repeat (first | exact Below.refl _ _ | assumption | refine Below.al ?_ _ | refine Below.ch ?_ (by assumption) | refine belowN ?_)))))).mono ?_; rintro e w12 ⟨v12, rfl, hb12, ho12⟩; obtain ⟨a12, c12, rfl, u12⟩ := owns_slice ho12; obtain ⟨hc12, hf12⟩ := bcell hb12; have s12a := lt_size hb12 (b := w.heap.size) (by first | assumption | omega | (simp; done) | (simp; omega)); have s12b := lt_size hb12 (b := w.heap.size + 1) (by first | assumption | omega | (simp; done) | (simp; omega)); have s12c := lt_size hb12 (b := w.heap.size + 1 + 1) (by first | assumption | omega | (simp; done) | (simp; omega))))
            obtain ⟨W13, hW13⟩ : ∃ W13, W13 = w12.alloc (Obj.cells #[.int .i64 R3, .slice a12 L3.length c12] 24) := ⟨_, rfl⟩
            have B12 : Below w12.heap.size w12 W13 := by rw [hW13]; exact (Below.refl _ _).al _
            have B11 : Below (w11.alloc (Obj.cells #[.int .i64 R2, .slice a11 L2.length c11] 24)).heap.size (w11.alloc (Obj.cells #[.int .i64 R2, .slice a11 L2.length c11] 24)) W13 := hb12.ch B12
            have B10 : Below (w10.alloc (Obj.cells #[.int .i64 R1, .slice a10 L1.length c10] 24)).heap.size (w10.alloc (Obj.cells #[.int .i64 R1, .slice a10 L1.length c10] 24)) W13 := (hb11.al _).ch B11
            have B8 : Below w8.heap.size w8 W13 := (hb10.al _).ch B10
            have h19 := (B10.block w10.heap.size (by simp)).trans (World.alloc_heap_new w10 _)
            have h21 := (B11.block w11.heap.size (by simp)).trans (World.alloc_heap_new w11 _)
            have h23 : W13.heap[w12.heap.size]? = some (.cells #[.int .i64 R3, .slice a12 L3.length c12] 24 (0, 0)) := by rw [hW13]; exact World.alloc_heap_new w12 _
            have d10 := (BdsAt.of_owns ho10 (by omega)).below (((Below.refl _ w10).al _).ch B10)
            have d11 := (BdsAt.of_owns ho11 (by omega)).below (((Below.refl _ w11).al _).ch B11)
            have d12 := (BdsAt.of_owns ho12 (by omega)).below B12
            have h10' := (B8.block _ z8a).trans h10
            have h12' := (B8.block _ z8b).trans h12
            have h14' := (B8.block _ z8c).trans h14
            have d9 := hbd9.below B8
            have i0 := ((bcell B8).1 _ 0 s8a).trans q0
            have i1 := ((bcell B8).1 _ 1 s8a).trans q1
            have i2 := ((bcell B8).1 _ 0 s8b).trans q2
            have i3 := ((bcell B8).1 _ 1 s8b).trans q3
            have i4 := ((bcell B8).1 _ 0 s8c).trans q4
            have i5 := ((bcell B8).1 _ 1 s8c).trans q5
            have i6 := ((bcell B8).1 _ 2 s8c).trans q6
            have i7 := ((bcell B8).1 _ 3 s8c).trans q7
            have i8 := ((bcell B8).1 _ 0 s8d).trans k90
            have i9 := ((bcell B8).1 _ 1 s8d).trans k91
            have hB13 : Below w.heap.size w W13 := hB8.ch B8
            have zz := B8.size
            have x10 := hb10.size
            have x11 := hb11.size
            have x12 := hb12.size
            have x13 : W13.heap.size = w12.heap.size + 1 := by rw [hW13]; simp
            simp only [World.size_alloc] at x11 x12
            have E0 : True := trivial
            obtain ⟨F0, hF0⟩ : ∃ F0 : List Nat, F0 = [w4.heap.size, w5.heap.size, w6.heap.size] := ⟨_, rfl⟩
            have m0 : w4.heap.size ∈ F0 := by rw [hF0]; simp
            have m1 : w5.heap.size ∈ F0 := by rw [hF0]; simp
            have m2 : w6.heap.size ∈ F0 := by rw [hF0]; simp
            have nF : ∀ b, (b < w4.heap.size ∨ w6.heap.size < b) → b ∉ F0 := fun b hb he => by rw [hF0] at he; simp at he; omega
            rw [← hW13]
            clear q0 q1 q2 q3 q4 q5 q6 q7 k90 k91 hc10 hf10 hc11 hf11 hc12 hf12 s10a s10b s10c s10d s11a s11b s11c s11d s12a s12b s12c hRW hRO hRB hW13 hF0 B8 B10 B11 B12 ho10 ho11 ho12 hb10 hb11 hb12 hbd9
            have t13a : w.heap.size < W13.heap.size := by omega
            have t13b : w.heap.size + 1 < W13.heap.size := by omega
            have t13c : w.heap.size + 1 + 1 < W13.heap.size := by omega
            have t13d : N9 < W13.heap.size := by omega
            go_upto_region 20 with (go_at_call 42; refine (hGW _ (hb.below (by ((repeat (first | exact Below.refl _ _ | assumption | refine Below.al ?_ _ | refine Below.ch ?_ (by assumption) | refine belowN ?_)))))).mono ?_; rintro e w14 ⟨v14, rfl, ho14, hb14⟩; obtain ⟨a14, c14, rfl, u14⟩ := owns_slice ho14; have hx10 := (hb14.block _ (show w4.heap.size < W13.heap.size by omega)).trans h10'; obtain ⟨k10a, k10b, f10, l10⟩ := cell2 hx10)
            have x13' : w6.heap.size < W13.heap.size := by omega
            obtain ⟨W14, hW14⟩ : ∃ W14, W14 = (w14.setCell ⟨w4.heap.size, 0, none⟩ (.int .i64 R1)).setCell ⟨w4.heap.size, 1, none⟩ (.slice a14 L1.length c14) := ⟨_, rfl⟩
            rw [← hW14]
            obtain ⟨cg14, nb14⟩ := set2 hx10 (u := .int .i64 R1) (v := .slice a14 L1.length c14)
            rw [← hW14] at cg14 nb14
            have C14 : SL.Chg F0 W13 W14 := (SL.Chg.of_below hb14).trans (cg14.mono2 (by simp; exact m0))
            have yy14 := hb14.size
            have yz14 := cg14.size
            have e0 := ((SL.Chg.cellsE C14).1 (w.heap.size) 0 (by omega) (nF _ (by omega))).trans i0
            have e1 := ((SL.Chg.cellsE C14).1 (w.heap.size) 1 (by omega) (nF _ (by omega))).trans i1
            have e2 := ((SL.Chg.cellsE C14).1 (w.heap.size + 1) 0 (by omega) (nF _ (by omega))).trans i2
            have e3 := ((SL.Chg.cellsE C14).1 (w.heap.size + 1) 1 (by omega) (nF _ (by omega))).trans i3
            have e4 := ((SL.Chg.cellsE C14).1 (w.heap.size + 1 + 1) 0 (by omega) (nF _ (by omega))).trans i4
            have e5 := ((SL.Chg.cellsE C14).1 (w.heap.size + 1 + 1) 1 (by omega) (nF _ (by omega))).trans i5
            have e6 := ((SL.Chg.cellsE C14).1 (w.heap.size + 1 + 1) 2 (by omega) (nF _ (by omega))).trans i6
            have e7 := ((SL.Chg.cellsE C14).1 (w.heap.size + 1 + 1) 3 (by omega) (nF _ (by omega))).trans i7
            have h12a := (cg14.block (w5.heap.size) (by omega) (by simp; omega)).trans ((hb14.block (w5.heap.size) (by omega)).trans h12')
            have h14a := (cg14.block (w6.heap.size) (by omega) (by simp; omega)).trans ((hb14.block (w6.heap.size) (by omega)).trans h14')
            have h19a := (cg14.block (w10.heap.size) (by omega) (by simp; omega)).trans ((hb14.block (w10.heap.size) (by omega)).trans h19)
            have h21a := (cg14.block (w11.heap.size) (by omega) (by simp; omega)).trans ((hb14.block (w11.heap.size) (by omega)).trans h21)
            have h23a := (cg14.block (w12.heap.size) (by omega) (by simp; omega)).trans ((hb14.block (w12.heap.size) (by omega)).trans h23)
            have d14 := (BdsAt.of_owns ho14 (by omega)).chg cg14 (fun z hz => by have := (u14 z hz).1; simp; omega)
            have hB14 : Below w.heap.size w W14 := (hB13.ch hb14).trans (cg14.belowE (by have := hB13.size; omega) (by simp; omega))
            have t14a : w.heap.size < W14.heap.size := by omega
            have t14b : w.heap.size + 1 < W14.heap.size := by omega
            have t14c : w.heap.size + 1 + 1 < W14.heap.size := by omega
            clear hW14 i0 i1 i2 i3 i4 i5 i6 i7 hx10
            go_upto_region 21 with (go_at_call 43; refine (hGO _ (hb.below hB14)).mono ?_; rintro e w15 ⟨v15, rfl, hb15, ho15⟩; obtain ⟨a15, c15, rfl, u15⟩ := owns_slice ho15; have hx12 := (hb15.block _ (show w5.heap.size < W14.heap.size by omega)).trans h12a; obtain ⟨k12a, k12b, f12, l12⟩ := cell2 hx12)
            obtain ⟨W15, hW15⟩ : ∃ W15, W15 = (w15.setCell ⟨w5.heap.size, 0, none⟩ (.int .i64 R2)).setCell ⟨w5.heap.size, 1, none⟩ (.slice a15 L2.length c15) := ⟨_, rfl⟩
            rw [← hW15]
            obtain ⟨cg15, nb15⟩ := set2 hx12 (u := .int .i64 R2) (v := .slice a15 L2.length c15)
            rw [← hW15] at cg15 nb15
            have C15 : SL.Chg F0 W14 W15 := (SL.Chg.of_below hb15).trans (cg15.mono2 (by simp; exact m1))
            have yy15 := hb15.size
            have yz15 := cg15.size
            have o0 := ((SL.Chg.cellsE C15).1 (w.heap.size) 0 (by omega) (nF _ (by omega))).trans e0
            have o1 := ((SL.Chg.cellsE C15).1 (w.heap.size) 1 (by omega) (nF _ (by omega))).trans e1
            have o2 := ((SL.Chg.cellsE C15).1 (w.heap.size + 1) 0 (by omega) (nF _ (by omega))).trans e2
            have o3 := ((SL.Chg.cellsE C15).1 (w.heap.size + 1) 1 (by omega) (nF _ (by omega))).trans e3
            have o4 := ((SL.Chg.cellsE C15).1 (w.heap.size + 1 + 1) 0 (by omega) (nF _ (by omega))).trans e4
            have o5 := ((SL.Chg.cellsE C15).1 (w.heap.size + 1 + 1) 1 (by omega) (nF _ (by omega))).trans e5
            have o6 := ((SL.Chg.cellsE C15).1 (w.heap.size + 1 + 1) 2 (by omega) (nF _ (by omega))).trans e6
            have o7 := ((SL.Chg.cellsE C15).1 (w.heap.size + 1 + 1) 3 (by omega) (nF _ (by omega))).trans e7
            have n10b := (cg15.block (w4.heap.size) (by omega) (by simp; omega)).trans ((hb15.block (w4.heap.size) (by omega)).trans nb14)
            have h14b := (cg15.block (w6.heap.size) (by omega) (by simp; omega)).trans ((hb15.block (w6.heap.size) (by omega)).trans h14a)
            have h19b := (cg15.block (w10.heap.size) (by omega) (by simp; omega)).trans ((hb15.block (w10.heap.size) (by omega)).trans h19a)
            have h21b := (cg15.block (w11.heap.size) (by omega) (by simp; omega)).trans ((hb15.block (w11.heap.size) (by omega)).trans h21a)
            have h23b := (cg15.block (w12.heap.size) (by omega) (by simp; omega)).trans ((hb15.block (w12.heap.size) (by omega)).trans h23a)
            have d15 := (BdsAt.of_owns ho15 (by omega)).chg cg15 (fun z hz => by have := (u15 z hz).1; simp; omega)
            have hB15 : Below w.heap.size w W15 := (hB14.ch hb15).trans (cg15.belowE (by have := hB14.size; omega) (by simp; omega))
            have t15a : w.heap.size < W15.heap.size := by omega
            have t15b : w.heap.size + 1 < W15.heap.size := by omega
            have t15c : w.heap.size + 1 + 1 < W15.heap.size := by omega
            clear hW15 e0 e1 e2 e3 e4 e5 e6 e7 hx12
            go_upto_region 22 with (go_at_call 44; refine (hGB _ (hb.below hB15) (hb2.below hB15)).mono ?_; rintro e w16 ⟨v16, rfl, hb16, ho16⟩; obtain ⟨a16, c16, rfl, u16⟩ := owns_slice ho16; have hx14 := (hb16.block _ (show w6.heap.size < W15.heap.size by omega)).trans h14b; obtain ⟨k14a, k14b, f14, l14⟩ := cell2 hx14)
            obtain ⟨W16, hW16⟩ : ∃ W16, W16 = (w16.setCell ⟨w6.heap.size, 0, none⟩ (.int .i64 R3)).setCell ⟨w6.heap.size, 1, none⟩ (.slice a16 L3.length c16) := ⟨_, rfl⟩
            rw [← hW16]
            obtain ⟨cg16, nb16⟩ := set2 hx14 (u := .int .i64 R3) (v := .slice a16 L3.length c16)
            rw [← hW16] at cg16 nb16
            have C16 : SL.Chg F0 W15 W16 := (SL.Chg.of_below hb16).trans (cg16.mono2 (by simp; exact m2))
            have yy16 := hb16.size
            have yz16 := cg16.size
            have s0 := ((SL.Chg.cellsE C16).1 (w.heap.size) 0 (by omega) (nF _ (by omega))).trans o0
            have s1 := ((SL.Chg.cellsE C16).1 (w.heap.size) 1 (by omega) (nF _ (by omega))).trans o1
            have s2 := ((SL.Chg.cellsE C16).1 (w.heap.size + 1) 0 (by omega) (nF _ (by omega))).trans o2
            have s3 := ((SL.Chg.cellsE C16).1 (w.heap.size + 1) 1 (by omega) (nF _ (by omega))).trans o3
            have s4 := ((SL.Chg.cellsE C16).1 (w.heap.size + 1 + 1) 0 (by omega) (nF _ (by omega))).trans o4
            have s5 := ((SL.Chg.cellsE C16).1 (w.heap.size + 1 + 1) 1 (by omega) (nF _ (by omega))).trans o5
            have s6 := ((SL.Chg.cellsE C16).1 (w.heap.size + 1 + 1) 2 (by omega) (nF _ (by omega))).trans o6
            have s7 := ((SL.Chg.cellsE C16).1 (w.heap.size + 1 + 1) 3 (by omega) (nF _ (by omega))).trans o7
            have n10c := (cg16.block (w4.heap.size) (by omega) (by simp; omega)).trans ((hb16.block (w4.heap.size) (by omega)).trans n10b)
            have n12c := (cg16.block (w5.heap.size) (by omega) (by simp; omega)).trans ((hb16.block (w5.heap.size) (by omega)).trans nb15)
            have h19c := (cg16.block (w10.heap.size) (by omega) (by simp; omega)).trans ((hb16.block (w10.heap.size) (by omega)).trans h19b)
            have h21c := (cg16.block (w11.heap.size) (by omega) (by simp; omega)).trans ((hb16.block (w11.heap.size) (by omega)).trans h21b)
            have h23c := (cg16.block (w12.heap.size) (by omega) (by simp; omega)).trans ((hb16.block (w12.heap.size) (by omega)).trans h23b)
            have d16 := (BdsAt.of_owns ho16 (by omega)).chg cg16 (fun z hz => by have := (u16 z hz).1; simp; omega)
            have hB16 : Below w.heap.size w W16 := (hB15.ch hb16).trans (cg16.belowE (by have := hB15.size; omega) (by simp; omega))
            have t16a : w.heap.size < W16.heap.size := by omega
            have t16b : w.heap.size + 1 < W16.heap.size := by omega
            have t16c : w.heap.size + 1 + 1 < W16.heap.size := by omega
            clear hW16 o0 o1 o2 o3 o4 o5 o6 o7 hx14
            have CC : SL.Chg F0 W13 W16 := C14.trans (C15.trans C16)
            have C56 : SL.Chg F0 W14 W16 := C15.trans C16
            have i8' := ((SL.Chg.cellsE CC).1 N9 0 (by omega) (nF _ (by omega))).trans i8
            have i9' := ((SL.Chg.cellsE CC).1 N9 1 (by omega) (nF _ (by omega))).trans i9
            have f14' := d14.chg C56 (fun z hz => nF _ (by have := (u14 z hz).1; omega))
            have f15' := d15.chg C16 (fun z hz => nF _ (by have := (u15 z hz).1; omega))
            have f10' := d10.chg CC (fun z hz => nF _ (by have := (u10 z hz).1; omega))
            have f11' := d11.chg CC (fun z hz => nF _ (by have := (u11 z hz).1; simp only [World.size_alloc] at this; omega))
            have f12' := d12.chg CC (fun z hz => nF _ (by have := (u12 z hz).1; simp only [World.size_alloc] at this; omega))
            have f9' := d9.chg CC (fun z hz => nF _ (by have := (h9b z hz).2; omega))
            have fs := hb.below hB16
            obtain ⟨ca0, ca1, _, v1⟩ := cell2 n10c
            obtain ⟨cb0, cb1, _, v2⟩ := cell2 n12c
            obtain ⟨cc0, cc1, _, v3⟩ := cell2 nb16
            obtain ⟨cp0, cp1, _, v4⟩ := cell2 h19c
            obtain ⟨cq0, cq1, _, v5⟩ := cell2 h21c
            obtain ⟨cr0, cr1, _, v6⟩ := cell2 h23c
            have v7 : w.heap.size < W16.heap.size := t16a
            have v8 : N9 < W16.heap.size := by omega
            clear n10c n12c nb16 h19c h21c h23c CC C56 C14 C15 C16 d14 d15 d10 d11 d12 d9 i8 i9 s2 s3 s4 s5 s6 s7 n10b nb15 nb14 h12a h14a h14b h19 h19a h19b h21 h21a h21b h23 h23a h23b cg14 cg15 cg16 k10a k10b k12a k12b k14a k14b f10 f12 f14 h10 h12 h14 h10' h12' h14'
            go_wp2_with (first
              | (go_at_call 21; refine (lalive_any _).mono ?_; rintro e w17 ⟨rfl, hb17⟩; obtain ⟨hc17, hf17⟩ := bcell hb17; have y1 := lt_size hb17 v1; have y2 := lt_size hb17 v2; have y3 := lt_size hb17 v3; have y4' := lt_size hb17 v4; have y5' := lt_size hb17 v5; have y6' := lt_size hb17 v6; have y7' := lt_size hb17 v7; have y8' := lt_size hb17 v8)
              | (go_at_call 48; have hg := hb20; clear hg; refine (rsamesys_yes _ _ _ _ _ _ _ _ _ (((((fs.below hb17).below hb18).below hb19).below hb20)) (((((f9'.below hb17).below hb18).below hb19).below hb20))).mono ?_; rintro e w21 ⟨rfl, hb21⟩)
              | (go_at_call 48; have hg := hb19; clear hg; refine (rsamesys_yes _ _ _ _ _ _ _ _ _ ((((d16.below hb17).below hb18).below hb19)) ((((f12'.below hb17).below hb18).below hb19))).mono ?_; rintro e w20 ⟨rfl, hb20⟩; obtain ⟨hc20, hf20⟩ := bcell hb20; have o7' := lt_size hb20 x7'; have o8' := lt_size hb20 x8')
              | (go_at_call 48; have hg := hb18; clear hg; refine (rsamesys_yes _ _ _ _ _ _ _ _ _ (((f15'.below hb17).below hb18)) (((f11'.below hb17).below hb18))).mono ?_; rintro e w19 ⟨rfl, hb19⟩; obtain ⟨hc19, hf19⟩ := bcell hb19; have x3 := lt_size hb19 z3'; have x6' := lt_size hb19 z6'; have x7' := lt_size hb19 z7'; have x8' := lt_size hb19 z8')
              | (go_at_call 48; refine (rsamesys_yes _ _ _ _ _ _ _ _ _ (f14'.below hb17) (f10'.below hb17)).mono ?_; rintro e w18 ⟨rfl, hb18⟩; obtain ⟨hc18, hf18⟩ := bcell hb18; have z2' := lt_size hb18 y2; have z3' := lt_size hb18 y3; have z5' := lt_size hb18 y5'; have z6' := lt_size hb18 y6'; have z7' := lt_size hb18 y7'; have z8' := lt_size hb18 y8'))
            go_ret
            exact ⟨rfl, (((((hB16.ch hb17).ch hb18).ch hb19).ch hb20).ch hb21)⟩
    · have h2 : decide (n2 ≤ 403) = false := by simpa using hn5
      simp only [h2] at hW2
      go_enter Try.func11, Try.ntmps11
      go_wp2_with (first
        | (go_at_call 20; have hg := hb0; clear hg; refine (hW2 _).mono ?_; rintro e w1 ⟨rfl, hb1⟩; obtain ⟨hc1, hf1⟩ := bcell hb1)
        | (go_at_call 20; refine (hW _).mono ?_; rintro e w0 ⟨rfl, hb0⟩; obtain ⟨hc0, hf0⟩ := bcell hb0; have hz0a := lt_size hb0 (b := w.heap.size) (by first | assumption | omega | (simp; done) | (simp; omega)); have hz0b := lt_size hb0 (b := w.heap.size+1) (by first | assumption | omega | (simp; done) | (simp; omega)))
        | (go_at_call 21; refine (lalive_any _).mono ?_; rintro e w9 ⟨rfl, hb9⟩; obtain ⟨hc9, hf9⟩ := bcell hb9))
      go_ret
      exact ⟨rfl, by ((repeat (first | exact Below.refl _ _ | assumption | refine Below.al ?_ _ | refine Below.ch ?_ (by assumption) | refine belowN ?_)))⟩
  · have h1 : decide (n ≤ 403) = false := by simpa using hn4
    simp only [h1] at hW
    go_enter Try.func11, Try.ntmps11
    go_wp2_with (first
      | (go_at_call 20; have hg := hb0; clear hg; refine (hW2 _).mono ?_; rintro e w1 ⟨rfl, hb1⟩; obtain ⟨hc1, hf1⟩ := bcell hb1)
      | (go_at_call 20; refine (hW _).mono ?_; rintro e w0 ⟨rfl, hb0⟩; obtain ⟨hc0, hf0⟩ := bcell hb0; have hz0a := lt_size hb0 (b := w.heap.size) (by first | assumption | omega | (simp; done) | (simp; omega)); have hz0b := lt_size hb0 (b := w.heap.size+1) (by first | assumption | omega | (simp; done) | (simp; omega)))
      | (go_at_call 21; refine (lalive_any _).mono ?_; rintro e w9 ⟨rfl, hb9⟩; obtain ⟨hc9, hf9⟩ := bcell hb9))
    go_ret
    exact ⟨rfl, by ((repeat (first | exact Below.refl _ _ | assumption | refine Below.al ?_ _ | refine Below.ch ?_ (by assumption) | refine belowN ?_)))⟩
end Go.Proofs.Ytlkcfohmoeadbaa
