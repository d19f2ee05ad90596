/-
  Gauge, walked: longer.
-/
import Derived.Test.YtlkcfohmoeadbaaGreatPk16
import Derived.Test.YtlkcfohmoeadbaaGreatPk13
set_option linter.unusedSimpArgs false
set_option linter.unusedVariables false
set_option linter.unnecessarySimpa false
namespace Go.Proofs.YtlkcfohmoeadbaaGreat
open Go.RowKit Go.Shelf
set_option maxHeartbeats 4000000
set_option maxRecDepth 100000

theorem elemR : Elem Tryz.prog 79 77 (.agg #[.int .i64 0, .int .i64 0, .int .i64 0, .int .i64 0, .int .i64 0, .int .i64 0, .int .i64 0, .int .i64 0, .int .i64 0, .int .i64 0, .int .i64 0, .int .i64 0, .int .i64 0, .int .i64 0, .int .i64 0, .int .i64 0, .int .i64 0, .int .i64 0, .int .i64 0, .int .i64 0, .int .i64 0, .int .i64 0, .int .i64 0, .int .i64 0, .int .i64 0, .int .i64 0, .int .i64 0, .int .i64 0, .int .i64 0, .int .i64 0, .int .i64 0, .int .i64 0, .int .i64 0, .int .i64 0, .int .i64 0, .int .i64 0, .int .i64 0, .int .i64 0, .int .i64 0, .int .i64 0, .int .i64 0, .int .i64 0, .int .i64 0, .int .i64 0, .int .i64 0, .int .i64 0, .int .i64 0, .int .i64 0, .int .i64 0, .int .i64 0, .int .i64 0, .int .i64 0, .int .i64 0, .int .i64 0, .int .i64 0, .int .i64 0, .int .i64 0, .int .i64 0, .int .i64 0, .int .i64 0]) 60 480 := ⟨Tryz.underlying79, info_parts (by kernel_rfl), rfl, by decide⟩
theorem elemA : Elem Tryz.prog 80 76 (.agg #[.int .i64 0, .int .i64 0, .int .i64 0, .int .i64 0, .int .i64 0, .int .i64 0, .int .i64 0, .int .i64 0, .int .i64 0, .int .i64 0, .int .i64 0, .int .i64 0, .int .i64 0, .int .i64 0, .int .i64 0, .int .i64 0, .int .i64 0, .int .i64 0, .int .i64 0, .int .i64 0, .int .i64 0, .int .i64 0, .int .i64 0, .int .i64 0, .int .i64 0, .int .i64 0, .int .i64 0, .int .i64 0, .int .i64 0, .int .i64 0, .int .i64 0, .int .i64 0, .int .i64 0, .int .i64 0, .int .i64 0, .int .i64 0, .int .i64 0, .int .i64 0, .int .i64 0, .int .i64 0, .int .i64 0, .int .i64 0, .int .i64 0, .int .i64 0, .int .i64 0, .int .i64 0, .int .i64 0, .int .i64 0, .int .i64 0, .int .i64 0, .int .i64 0, .int .i64 0, .int .i64 0, .int .i64 0, .int .i64 0, .int .i64 0, .int .i64 0, .int .i64 0, .int .i64 0, .int .i64 0]) 60 480 := ⟨Tryz.underlying80, info_parts (by kernel_rfl), rfl, by decide⟩

/-- A slice of rows that is owned: its block, its cells. -/
theorem rows_at {w : World} {base : Nat} {t : TypeId} {v : Value} {n : Nat} {rs : List (List Int)} (h : w.ownsRow base t 60 v n (flat rs)) (hr : ∀ r ∈ rs, r.length = 60) (hn : 0 < n) :
    ∃ g cap, v = .slice (some ⟨g, 0, none⟩) n cap ∧ base ≤ g ∧ g < w.heap.size ∧ rs.length = n ∧ n ≤ cap ∧ cap ≤ maxLen ∧ v.ownBlock = some g ∧ ∀ k, k < n → w.rangeAt g (k * 60) ((rs.getD k []).map (Value.int .i64)) := by
  have hl := h.1
  rw [flat_len hr] at hl
  obtain ⟨_, ⟨hv, hn0⟩ | ⟨g, cap, cur, hv, hb, hg, h1, h2, h3, h4⟩⟩ := h
  · omega
  · refine ⟨g, cap, hv, hb, (Array.getElem?_eq_some_iff.1 hg).1, by omega, h1, h2, by rw [hv]; rfl, fun k hk j u hj => ?_⟩
    have hk' : k < rs.length := by omega
    have hjl : j < 60 := by
      have := (List.getElem?_eq_some_iff.1 hj).1
      rw [List.length_map, List.getD_eq_getElem?_getD, List.getElem?_eq_getElem hk'] at this
      have h60 := hr rs[k] (List.getElem_mem hk')
      simp at this
      omega
    have e1 := flat_get hr hk' hjl
    rw [← h4, List.getElem?_take] at e1
    split at e1
    · rw [(SL.cells_of hg).1, ← Array.getElem?_toList, e1, ← hj, List.getElem?_map]
      have h60 := hr rs[k] (List.getElem_mem hk')
      simp [List.getD_eq_getElem?_getD, List.getElem?_eq_getElem hk', List.getElem?_eq_getElem (show j < rs[k].length by omega)]
    · cases e1

theorem SL.Chg.undrawn {E : List Nat} {w w' : World} (h : SL.Chg E w.drew w') : SL.Chg E w w' := ⟨h.os, h.tape, h.output, h.size, h.block⟩

/-- A row that a region makes out of blocks that were there, or new ones. -/
def SL.rowN (s : Nat) (u e : List Nat) (base : Nat) (t : TypeId) (size n : Nat) (xs : List Value) (old : List Nat) (Z : Nat) : SL.Sp :=
  { sub := s, use := u, eat := e, A := fun x w F => w.ownsRow base t size x n xs ∧ F = x.ownBlock.toList ∧ ∀ k ∈ x.ownBlock.toList, k ∈ old ∨ Z ≤ k, st := fun _ _ _ _ h hk _ => ⟨SL.row_stab h.1 (h.2.1 ▸ hk), h.2⟩ }
/-- A row that is held from the beginning. -/
def SL.rowV (base : Nat) (t : TypeId) (size n : Nat) (v : Value) (xs : List Value) : SL.Sp :=
  { sub := 0, use := [], eat := [], A := fun _ w F => w.ownsRow base t size v n xs ∧ F = v.ownBlock.toList, st := fun _ _ _ _ h hk _ => ⟨SL.row_stab h.1 (h.2 ▸ hk), h.2⟩ }
/-- The box of walks, its first slice renewed. -/
def SL.box1 (u e : List Nat) (WB wo : Nat) (cs : Array Value) (base n : Nat) (xs : List Value) (old : List Nat) (Z : Nat) : SL.Sp :=
  { sub := 0, use := u, eat := e, A := fun _ w F => ∃ y, w.heap[WB]? = some (.cells (cs.setIfInBounds wo y) 82 (0, 0)) ∧ w.ownsRow base 77 60 y n xs ∧ (∀ k ∈ y.ownBlock.toList, k ∈ old ∨ Z ≤ k) ∧ F = WB :: y.ownBlock.toList,
    st := by
      rintro v w w' F ⟨y, h1, h2, h3, rfl⟩ hk _
      exact ⟨y, by rw [hk WB (by simp)]; exact h1, SL.row_stab h2 (fun k hk' => hk k (by simp only [List.mem_cons]; exact .inr hk')), h3, rfl⟩ }
/-- The box of walks, both slices renewed. -/
def SL.box2 (u e : List Nat) (WB wo : Nat) (cs : Array Value) (base n : Nat) (xs ys : List Value) (old1 old2 : List Nat) (Z : Nat) : SL.Sp :=
  { sub := 0, use := u, eat := e, A := fun _ w F => ∃ y z, w.heap[WB]? = some (.cells ((cs.setIfInBounds wo y).setIfInBounds (wo + 1) z) 82 (0, 0)) ∧ w.ownsRow base 77 60 y n xs ∧ w.ownsRow base 76 60 z n ys ∧ (∀ k ∈ y.ownBlock.toList, k ∈ old1 ∨ Z ≤ k) ∧ (∀ k ∈ z.ownBlock.toList, k ∈ old2 ∨ Z ≤ k) ∧ (∀ k ∈ y.ownBlock.toList, k ∉ z.ownBlock.toList) ∧ F = WB :: (y.ownBlock.toList ++ z.ownBlock.toList),
    st := by
      rintro v w w' F ⟨y, z, h1, h2, h3, h4, h5, h6, rfl⟩ hk _
      exact ⟨y, z, by rw [hk WB (by simp)]; exact h1, SL.row_stab h2 (fun k hk' => hk k (by simp only [List.mem_cons, List.mem_append]; exact .inr (.inl hk'))), SL.row_stab h3 (fun k hk' => hk k (by simp only [List.mem_cons, List.mem_append]; exact .inr (.inr hk'))), h4, h5, h6, rfl⟩ }
def SL.three (n N M K : Nat) : Nat → List Nat := fun i => if i = n then [N] else if i = n + 1 then [M] else if i = n + 2 then [K] else []
theorem SL.three_held {ops : List Oper} {Γ : List SL.Sp} {a0 : Act} {w : World} {x y z : SL.Sp} {N M K : Nat} (h : Γ.length = ops.length + 3) (hx : Γ[ops.length]? = some x) (hy : Γ[ops.length + 1]? = some y) (hz : Γ[ops.length + 2]? = some z)
    (hA : x.A (a0.tmps.getD x.sub undef) w.drew [N]) (hB : y.A (a0.tmps.getD y.sub undef) w.drew [M]) (hC : z.A (a0.tmps.getD z.sub undef) w.drew [K]) (hN : N < w.heap.size) (hM : M < w.heap.size) (hK : K < w.heap.size) :
    ∀ i s, ops.length ≤ i → Γ[i]? = some s → s.A (a0.tmps.getD s.sub undef) w.drew (SL.three ops.length N M K i) ∧ ∀ k ∈ SL.three ops.length N M K i, k ∈ [N, M, K] ∧ k < w.heap.size := by
  intro i s hi hs
  unfold SL.three
  by_cases e : i = ops.length
  · subst e; rw [hx] at hs; cases hs; rw [if_pos rfl]; exact ⟨hA, fun k hk => by simp at hk; subst hk; exact ⟨by simp, hN⟩⟩
  · by_cases e1 : i = ops.length + 1
    · subst e1; rw [hy] at hs; cases hs; rw [if_neg (by omega), if_pos rfl]; exact ⟨hB, fun k hk => by simp at hk; subst hk; exact ⟨by simp, hM⟩⟩
    · by_cases e2 : i = ops.length + 2
      · subst e2; rw [hz] at hs; cases hs; rw [if_neg (by omega), if_neg (by omega), if_pos rfl]; exact ⟨hC, fun k hk => by simp at hk; subst hk; exact ⟨by simp, hK⟩⟩
      · rw [List.getElem?_eq_none (by omega)] at hs; cases hs
theorem SL.three_apart {n N M K : Nat} (h1 : N ≠ M) (h2 : N ≠ K) (h3 : M ≠ K) : ∀ i j, i ≠ j → n ≤ i → n ≤ j → ∀ k ∈ SL.three n N M K i, k ∉ SL.three n N M K j := by
  intro i j hij _ _ k hk
  unfold SL.three at *
  split at hk
  · simp at hk; subst hk
    rw [if_neg (by omega)]
    split
    · simpa using h1
    · split
      · simpa using h2
      · simp
  · split at hk
    · simp at hk; subst hk
      split
      · simpa using h1.symm
      · rw [if_neg (by omega)]
        split
        · simpa using h3
        · simp
    · split at hk
      · simp at hk; subst hk
        split
        · simpa using h2.symm
        · split
          · simpa using h3.symm
          · rw [if_neg (by omega)]; simp
      · simp at hk

/-- What longer leaves: the new rows, and which blocks were written. -/
structure LW (w w' : World) (WB wo : Nat) (cs : Array Value) (v1 v2 : Value) (m base : Nat) (S L : List (List Int)) (u1 u2 : Value) : Prop where
  box : w'.heap[WB]? = some (.cells ((cs.setIfInBounds wo u1).setIfInBounds (wo + 1) u2) 82 (0, 0))
  r1 : w'.ownsRow base 77 60 u1 (m + 2) (flat S)
  r2 : w'.ownsRow base 76 60 u2 (m + 2) (flat L)
  dis : ∀ k ∈ u1.ownBlock.toList, k ∉ u2.ownBlock.toList
  new1 : ∀ k ∈ u1.ownBlock.toList, k ∈ v1.ownBlock.toList ∨ w.heap.size ≤ k
  new2 : ∀ k ∈ u2.ownBlock.toList, k ∈ v2.ownBlock.toList ∨ w.heap.size ≤ k
  chg : SL.Chg (WB :: (v1.ownBlock.toList ++ v2.ownBlock.toList)) w w'

theorem glonger_any (p : Int) (a : Option Addr) (n cap : Nat) (bs : List Bd) (WB wo : Nat) (cs : Array Value) (v1 v2 : Value) (m base : Nat) (S L : List (List Int)) (w : World) (hb : BdsAt w a n cap bs) (h402 : bs.length ≤ 402) (hin : ∀ b ∈ bs, b.inr)
    (hm : m ≤ 100) (h60S : ∀ r ∈ S, r.length = 60) (h60L : ∀ r ∈ L, r.length = 60) (hnow : Rng (-10100000000) (S.getD m [])) (hW : w.heap[WB]? = some (.cells cs 82 (0, 0))) (hw1 : cs[wo]? = some v1) (hw2 : cs[wo + 1]? = some v2)
    (o1 : w.ownsRow base 77 60 v1 (m + 1) (flat S)) (o2 : w.ownsRow base 76 60 v2 (m + 1) (flat L)) (hd : ∀ k ∈ v1.ownBlock.toList, k ∉ v2.ownBlock.toList) (hn1 : WB ∉ v1.ownBlock.toList) (hn2 : WB ∉ v2.ownBlock.toList) (hbase : base ≤ w.heap.size)
    (hax : ∀ z, a = some z → z.block ≠ WB ∧ z.block ∉ v1.ownBlock.toList ∧ z.block ∉ v2.ownBlock.toList) :
    Calls Tryz.prog 65 #[.pointer (some ⟨WB, wo, none⟩), .agg #[.int .i64 p, .slice a n cap]] w fun e w' => e = .returned (.tuple #[]) ∧ ∃ u1 u2, LW w w' WB wo cs v1 v2 m base (S ++ [(lng bs (S.getD m []) bs.length).1]) (L ++ [(lng bs (S.getD m []) bs.length).2]) u1 u2 := by
  obtain rfl := hb.len
  have zW := (Array.getElem?_eq_some_iff.1 hW).1
  have cW1 := ((SL.cells_of hW).1 wo).trans hw1
  have cW2 := ((SL.cells_of hW).1 (wo + 1)).trans hw2
  obtain ⟨g1, q1, rfl, hg1, hg1l, hSl, hc1, hc1', hv1, hr1⟩ := rows_at o1 h60S (by omega)
  obtain ⟨g2, q2, rfl, hg2, hg2l, hLl, hc2, hc2', hv2, hr2⟩ := rows_at o2 h60L (by omega)
  have hnl : (S.getD m []).length = 60 := h60S _ (by rw [List.getD_eq_getElem?_getD, List.getElem?_eq_getElem (by omega)]; exact List.getElem_mem _)
  have hrm := hr1 m (by omega)
  generalize S.getD m [] = now at *
  go_enter Tryz.func65, Tryz.ntmps65
  go_wp2_with fail
  refine SL.rule (by kernel_rfl) [] [9, 10, 11, 12, 13, 14, 15, 16, 17, 18, 19, 20, 21, 4, 5] [SL.pu 9 [] (.pointer (some ⟨WB, wo, none⟩)), SL.pu 10 [0] (.pointer (some ⟨WB, wo, none⟩)), SL.pu 11 [1] (.pointer (some ⟨WB, wo, none⟩)), SL.pu 12 [2] (.slice (some ⟨g1, 0, none⟩) (m + 1) q1),
    SL.pu 13 [] (.pointer (some ⟨WB, wo, none⟩)), SL.pu 14 [4] (.pointer (some ⟨WB, wo, none⟩)), SL.pu 15 [5] (.pointer (some ⟨WB, wo, none⟩)), SL.pu 16 [6] (.slice (some ⟨g1, 0, none⟩) (m + 1) q1), SL.pu 17 [7] (.int .i64 (m + 1)), SL.pu 18 [8] (.int .i64 m),
    SL.pu 19 [3, 9] (.pointer (some ⟨g1, m * 60, none⟩)), SL.pu 20 [10] (.agg (ints now)), SL.pu 21 [] (.agg (ints fars)), SL.box 4 [] [] (w.heap.size + 1) 77 #[.int .i64 0, .int .i64 0, .int .i64 0, .int .i64 0, .int .i64 0, .int .i64 0, .int .i64 0, .int .i64 0, .int .i64 0, .int .i64 0, .int .i64 0, .int .i64 0, .int .i64 0, .int .i64 0, .int .i64 0, .int .i64 0, .int .i64 0, .int .i64 0, .int .i64 0, .int .i64 0, .int .i64 0, .int .i64 0, .int .i64 0, .int .i64 0, .int .i64 0, .int .i64 0, .int .i64 0, .int .i64 0, .int .i64 0, .int .i64 0, .int .i64 0, .int .i64 0, .int .i64 0, .int .i64 0, .int .i64 0, .int .i64 0, .int .i64 0, .int .i64 0, .int .i64 0, .int .i64 0, .int .i64 0, .int .i64 0, .int .i64 0, .int .i64 0, .int .i64 0, .int .i64 0, .int .i64 0, .int .i64 0, .int .i64 0, .int .i64 0, .int .i64 0, .int .i64 0, .int .i64 0, .int .i64 0, .int .i64 0, .int .i64 0, .int .i64 0, .int .i64 0, .int .i64 0, .int .i64 0], SL.box 5 [] [] (w.heap.size + 1) 77 #[.int .i64 0, .int .i64 0, .int .i64 0, .int .i64 0, .int .i64 0, .int .i64 0, .int .i64 0, .int .i64 0, .int .i64 0, .int .i64 0, .int .i64 0, .int .i64 0, .int .i64 0, .int .i64 0, .int .i64 0, .int .i64 0, .int .i64 0, .int .i64 0, .int .i64 0, .int .i64 0, .int .i64 0, .int .i64 0, .int .i64 0, .int .i64 0, .int .i64 0, .int .i64 0, .int .i64 0, .int .i64 0, .int .i64 0, .int .i64 0, .int .i64 0, .int .i64 0, .int .i64 0, .int .i64 0, .int .i64 0, .int .i64 0, .int .i64 0, .int .i64 0, .int .i64 0, .int .i64 0, .int .i64 0, .int .i64 0, .int .i64 0, .int .i64 0, .int .i64 0, .int .i64 0, .int .i64 0, .int .i64 0, .int .i64 0, .int .i64 0, .int .i64 0, .int .i64 0, .int .i64 0, .int .i64 0, .int .i64 0, .int .i64 0, .int .i64 0, .int .i64 0, .int .i64 0, .int .i64 0],
    SL.box 4 [11, 13] [13] (w.heap.size + 1) 77 (ints now), SL.box 5 [12, 14] [14] (w.heap.size + 1) 77 (ints fars)] [15, 16] (by kernel_rfl) (by kernel_rfl) (fun _ => []) (SL.none_held rfl) (by simp) ?_ ?_
  · refine ⟨?_, ?_, ?_, ?_, ?_, ?_, ?_, ?_, ?_, ?_, ?_, ?_, ?_, ?_, ?_, ?_, ?_, trivial⟩
    all_goals refine SL.ob fun us w' Fe hG hu hd hv K hK => ?_
    all_goals simp [SL.frame, SL.put', SL.Used, SL.Seen, SL.pu, SL.row, SL.box, SL.rowIn, SL.boxIn, SL.boxAt, SL.boxAtIn, Bd.v, Bd.cs] at hu hv hK ⊢
    all_goals (have hcc := (bcell hG.below').1)
    all_goals (have y1 : w'.cell? ⟨WB, wo, none⟩ = some (.slice (some ⟨g1, 0, none⟩) (m + 1) q1) := by rw [hcc _ _ (by simp; omega)]; simp [go_sem, *])
    all_goals (have y2 : w'.cell? ⟨WB, wo + 1, none⟩ = some (.slice (some ⟨g2, 0, none⟩) (m + 1) q2) := by rw [hcc _ _ (by simp; omega)]; simp [go_sem, *])
    all_goals (have y3 : w'.rangeAt g1 (m * 60) (now.map (Value.int .i64)) := fun j u hj => (hcc g1 (m * 60 + j) (by simp; omega)).trans (((bcell ((Below.refl w.heap.size w).alloc (Nat.le_refl _) _)).1 g1 (m * 60 + j) hg1l).trans (hrm j u hj)))
    all_goals clear hcc
    all_goals try (go_step; refine hK _ _ _ _ (by simp [Act.put, *]; done) (SL.Chg.refl _ _) rfl rfl (by simp))
    · refine wp_load_mid _ _ rfl g1 (m * 60) (by simp [Act.eval, SL.frame, SL.put', hu]) _ _ y3 Tryz.underlying77 rfl (by rw [List.length_map, hnl]; kernel_rfl) ?_
      exact hK _ _ _ _ rfl (SL.Chg.refl _ _) rfl rfl (by simp)
    · go_step
      refine (gempty_any _).mono ?_
      rintro e w2 ⟨rfl, hb3⟩
      exact hK _ _ w2 _ (by simp [Act.put, *]; done) (.of_below hb3) rfl rfl (by simp)
    · go_step
      exact hK _ _ _ _ (by simp [Act.put, *]; done) (.alloc _ _ _) _ rfl (by have := hG.size; simp at this; omega) (heap_alloc_new w' _) rfl (by simp)
    · go_step
      exact hK _ _ _ _ (by simp [Act.put, *]; done) (.alloc _ _ _) _ rfl (by have := hG.size; simp at this; omega) (heap_alloc_new w' _) rfl (by simp)
    · obtain ⟨⟨u1, _⟩, N, u2, hN, u4, u5⟩ := hu
      refine wp_store_row _ _ _ rfl N (ints now) (by simp [Act.eval, SL.frame, SL.put', u2]) (by simp [Act.eval, SL.frame, SL.put', u1]) _ _ u4 (by rw [ints_size, hnl]; kernel_rfl) (by rw [ints_size, hnl]; rfl) (ints_one _) ?_
      exact hK _ undef _ _ rfl (chg_setRow _ _ _ (by simp [u5])) N u2 hN (setRow_heap _ _ _ _ _ _ u4) rfl (by simp [u5])
    · obtain ⟨⟨u1, _⟩, N, u2, hN, u4, u5⟩ := hu
      refine wp_store_row _ _ _ rfl N (ints fars) (by simp [Act.eval, SL.frame, SL.put', u2]) (by simp [Act.eval, SL.frame, SL.put', u1]) _ _ u4 (by rw [ints_size, fars_len]; kernel_rfl) (by rw [ints_size, fars_len]; rfl) (ints_one _) ?_
      exact hK _ undef _ _ rfl (chg_setRow _ _ _ (by simp [u5])) N u2 hN (setRow_heap _ _ _ _ _ _ u4) rfl (by simp [u5])
  · intro us w' Fs hG hu hbd hd
    simp [SL.frame, SL.put', SL.Used, SL.Seen, SL.pu, SL.row, SL.box, SL.rowIn, SL.boxIn, SL.boxAt, SL.boxAtIn, Bd.v, Bd.cs] at hu hd ⊢
    obtain ⟨⟨N4, u4, hN4, k4, f4⟩, N5, u5, hN5, k5, f5⟩ := hu
    have hne45 : N5 ≠ N4 := by
      have := hd 15 16 (by simp) (by simp) (by simp) N4 (by rw [f4]; simp)
      rw [f5] at this
      simpa using fun h : N5 = N4 => this (by simp [h])
    clear hd hbd f4 f5
    simp only [u4, u5]
    clear u4 u5
    have hz' := hG.below'.size
    simp only [World.size_alloc] at hz'
    have hBw : Below w.heap.size w w' := ((Below.refl _ w).alloc (Nat.le_refl _) _).trans (hG.below'.mono (by simp))
    have z4 := (Array.getElem?_eq_some_iff.1 k4).1
    have z5 := (Array.getElem?_eq_some_iff.1 k5).1
    have g0 : w'.cell? ⟨w.heap.size, 1, none⟩ = some (.slice a bs.length cap) := by rw [(bcell hG.below').1 _ _ (by simp)]; simp [go_sem]
    clear hG
    have hzl : w.heap.size < w'.heap.size := by omega
    go_wp2_with fail
    have hnl2 := (lng_len bs now bs.length)
    go_loopw [25] (fun i wr => ∃ k : Nat, k ≤ bs.length ∧ i = .int .i64 k ∧ SL.Chg [N5, w'.heap.size] (w'.alloc (Obj.cells (ints zeros60) 76)) wr ∧ wr.heap[N5]? = some (.cells (ints (lng bs now k).1) 77 (0, 0)) ∧ wr.heap[w'.heap.size]? = some (.cells (ints (lng bs now k).2) 76 (0, 0))) (fun i _ => bs.length - (intOf i).toNat)
    case atStart =>
      refine ⟨0, Nat.zero_le _, rfl, SL.Chg.refl _ _, ?_, World.alloc_heap_new w' _⟩
      rw [Below.heap_alloc _ _ _ z5]; exact k5
    case round =>
      obtain ⟨k, hk, rfl, hC, hx5, hxl⟩ := hrel
      have zr := hC.size
      simp only [World.size_alloc] at zr
      have hx4 : wr.heap[N4]? = some (.cells (ints now) 77 (0, 0)) := by
        rw [hC.block N4 (by simp; omega) (by simp; omega), Below.heap_alloc _ _ _ z4]; exact k4
      have hbr : BdsAt wr a bs.length cap bs := ((hb.below hBw).below ((Below.refl _ _).alloc (Nat.le_refl _) (Obj.cells (ints zeros60) 76))).chg hC (fun y hy => by
        have := (hb.at_ y hy).2.1
        simp; omega)
      have hl5 := (lng_len bs now k).1
      have hll := (lng_len bs now k).2
      have hrk := lng_rng hin hnow (by omega) k hk
      by_cases hlt : k < bs.length
      · obtain ⟨b, off, rfl, hbl, d0, d1, d2, d3⟩ := hbr.get hlt
        have hxi : (bs.getD k default).inr := hin _ (by rw [List.getD_eq_getElem?_getD, List.getElem?_eq_getElem hlt]; exact List.getElem_mem _)
        have Hst := Lib.hid (show lng bs now (k + 1) = lstep now (lng bs now k) k (bs.getD k default) from rfl)
        generalize bs.getD k default = x at *
        obtain ⟨x0, x1, x2, x3, x4, x5⟩ := hxi
        generalize hs : lng bs now k = s at *
        clear hs
        obtain ⟨nx, ls⟩ := s
        simp only at hx5 hxl hl5 hll hrk Hst
        have r0 := ((SL.cells_of hx4).1 x.frm.toNat).trans (gi_cell x0 (by omega))
        have r1 := ((SL.cells_of hx5).1 x.tow.toNat).trans (gi_cell x2 (by omega))
        obtain ⟨l0, l1⟩ := hnow x.frm x0 x1
        obtain ⟨l2, l3⟩ := hrk x.tow x2 x3
        unfold FAR at l1 l3
        have hwr : IntKind.i64.wrap (gi now x.frm + x.most) = gi now x.frm + x.most := IntWalk.i64_in _ (by omega)
        have zx4 : N4 < wr.heap.size := (Array.getElem?_eq_some_iff.1 hx4).1
        have zx5 : N5 < wr.heap.size := (Array.getElem?_eq_some_iff.1 hx5).1
        have zxl : w'.heap.size < wr.heap.size := (Array.getElem?_eq_some_iff.1 hxl).1
        have hlopen : lopen now nx x = (decide (gi now x.frm < 1099511627776) && decide (gi now x.frm + x.most < gi nx x.tow)) := rfl
        go_wp2_with fail
        have q0 : (wr.alloc (Obj.cells #[.int .i64 x.frm, .int .i64 x.tow, .int .i64 x.most, .int .i64 x.bid] 26)).cell? ⟨N4, x.frm.toNat, none⟩ = some (.int .i64 (gi now x.frm)) := by
          rw [(bcell ((Below.refl wr.heap.size wr).alloc (Nat.le_refl _) _)).1 _ _ zx4]; exact r0
        have q5 : (wr.alloc (Obj.cells #[.int .i64 x.frm, .int .i64 x.tow, .int .i64 x.most, .int .i64 x.bid] 26)).cell? ⟨N5, x.tow.toNat, none⟩ = some (.int .i64 (gi nx x.tow)) := by
          rw [(bcell ((Below.refl wr.heap.size wr).alloc (Nat.le_refl _) _)).1 _ _ zx5]; exact r1
        have hCn : ∀ o, SL.Chg [N5, w'.heap.size] wr ((wr.alloc (Obj.cells #[.int .i64 x.frm, .int .i64 x.tow, .int .i64 x.most, .int .i64 x.bid] 26)).drewN o) := fun o => .of_below (by ((repeat (first | assumption | exact Below.refl _ _ | refine Below.alloc ?_ ?_ _ | refine Below.setCell ?_ ?_ _ | refine Below.drew ?_ | refine belowN ?_ | refine Below.up ?_ (by assumption) ?_)) <;> (first | assumption | omega | (simp; done) | (simp; omega))))
        have hno : lopen now nx x = false → ∀ o, (∃ k_1, k_1 ≤ bs.length ∧ Value.int IntKind.i64 (↑k + 1) = Value.int IntKind.i64 ↑k_1 ∧ SL.Chg [N5, w'.heap.size] (w'.alloc (Obj.cells (ints zeros60) 76)) ((wr.alloc (Obj.cells #[.int .i64 x.frm, .int .i64 x.tow, .int .i64 x.most, .int .i64 x.bid] 26)).drewN o) ∧
            ((wr.alloc (Obj.cells #[.int .i64 x.frm, .int .i64 x.tow, .int .i64 x.most, .int .i64 x.bid] 26)).drewN o).heap[N5]? = some (.cells (ints (lng bs now k_1).1) 77 (0, 0)) ∧ ((wr.alloc (Obj.cells #[.int .i64 x.frm, .int .i64 x.tow, .int .i64 x.most, .int .i64 x.bid] 26)).drewN o).heap[w'.heap.size]? = some (.cells (ints (lng bs now k_1).2) 76 (0, 0))) := fun hf o => by
          have e : lng bs now (k + 1) = (nx, ls) := by rw [Hst.out]; simp [lstep, hf]
          refine ⟨k + 1, by omega, by go_num, hC.trans (hCn o), ?_, ?_⟩
          · rw [e]; exact (Below.heap_alloc _ _ _ zx5).trans hx5
          · rw [e]; exact (Below.heap_alloc _ _ _ zxl).trans hxl
        have Hno := Lib.hid hno
        clear hno
        by_cases t1 : gi now x.frm < 1099511627776
        · have t1' : decide (gi now x.frm < 1099511627776) = true := by simpa using t1
          by_cases t2 : gi now x.frm + x.most < gi nx x.tow
          · have t2' : decide (gi now x.frm + x.most < gi nx x.tow) = true := by simpa using t2
            have ho : lopen now nx x = true := by rw [hlopen, t1', t2']; rfl
            go_quiet (fail)
            go_wp2_with fail
            have kb : ((wr.alloc (Obj.cells #[.int .i64 x.frm, .int .i64 x.tow, .int .i64 x.most, .int .i64 x.bid] 26)).drewN nq).heap[wr.heap.size]? = some (.cells #[.int .i64 x.frm, .int .i64 x.tow, .int .i64 x.most, .int .i64 x.bid] 26 (0, 0)) := World.alloc_heap_new wr _
            have k7 : ((wr.alloc (Obj.cells #[.int .i64 x.frm, .int .i64 x.tow, .int .i64 x.most, .int .i64 x.bid] 26)).drewN nq).heap[N4]? = some (.cells (ints now) 77 (0, 0)) := (Below.heap_alloc _ _ _ zx4).trans hx4
            have k5' : ((wr.alloc (Obj.cells #[.int .i64 x.frm, .int .i64 x.tow, .int .i64 x.most, .int .i64 x.bid] 26)).drewN nq).heap[N5]? = some (.cells (ints nx) 77 (0, 0)) := (Below.heap_alloc _ _ _ zx5).trans hx5
            have kl' : ((wr.alloc (Obj.cells #[.int .i64 x.frm, .int .i64 x.tow, .int .i64 x.most, .int .i64 x.bid] 26)).drewN nq).heap[w'.heap.size]? = some (.cells (ints ls) 76 (0, 0)) := (Below.heap_alloc _ _ _ zxl).trans hxl
            have hCn' := hCn nq
            generalize (wr.alloc (Obj.cells #[.int .i64 x.frm, .int .i64 x.tow, .int .i64 x.most, .int .i64 x.bid] 26)).drewN nq = W7 at *
            have y5 := (Array.getElem?_eq_some_iff.1 k5').1
            have yl := (Array.getElem?_eq_some_iff.1 kl').1
            have y4 := (Array.getElem?_eq_some_iff.1 k7).1
            have yb := (Array.getElem?_eq_some_iff.1 kb).1
            have hstep : lstep now (nx, ls) k x = (nx.set x.tow.toNat (gi now x.frm + x.most), ls.set x.tow.toNat k) := by simp [lstep, ho]
            refine SL.rule (by kernel_rfl) [N5, w'.heap.size] [49, 50, 51, 52, 53, 54, 55, 56, 57, 58, 59, 60, 61, 62] [SL.pu 49 [] (.pointer (some ⟨wr.heap.size, 1, none⟩)), SL.pu 50 [0] (.int .i64 x.tow), SL.pu 51 [] (.pointer (some ⟨wr.heap.size, 1, none⟩)), SL.pu 52 [2] (.int .i64 x.tow),
              SL.pu 53 [] (.pointer (some ⟨wr.heap.size, 0, none⟩)), SL.pu 54 [4] (.int .i64 x.frm), SL.pu 55 [5] (.pointer (some ⟨N4, x.frm.toNat, none⟩)), SL.pu 56 [6] (.int .i64 (gi now x.frm)), SL.pu 57 [] (.pointer (some ⟨wr.heap.size, 2, none⟩)), SL.pu 58 [8] (.int .i64 x.most),
              SL.pu 59 [7, 9] (.int .i64 (gi now x.frm + x.most)), SL.pu 60 [] (.int .i64 k), SL.pu 61 [1] (.pointer (some ⟨N5, x.tow.toNat, none⟩)), SLF.at_ 0 [10, 12, 16] [16] N5 77 (ints (nx.set x.tow.toNat (gi now x.frm + x.most))),
              SL.pu 62 [3] (.pointer (some ⟨w'.heap.size, x.tow.toNat, none⟩)), SLF.at_ 0 [11, 14, 17] [17] w'.heap.size 76 (ints (ls.set x.tow.toNat k)),
              SLF.at_ 0 [] [] N5 77 (ints nx), SLF.at_ 0 [] [] w'.heap.size 76 (ints ls)] [13, 15] (by kernel_rfl) (by kernel_rfl) _ (SLF.two_held rfl rfl rfl ⟨k5', rfl⟩ ⟨kl', rfl⟩ y5 yl) (SLF.two_apart (by omega)) ?_ ?_
            · refine ⟨?_, ?_, ?_, ?_, ?_, ?_, ?_, ?_, ?_, ?_, ?_, ?_, ?_, ?_, ?_, ?_, trivial⟩
              all_goals refine SL.ob fun us w9 Fe hG hu hd hv K hK => ?_
              all_goals simp [SL.frame, SL.put', SL.Used, SL.Seen, SL.pu, SL.row, SL.box, SL.rowIn, SL.boxIn, SL.boxAt, SL.boxAtIn, Bd.v, Bd.cs, SLF.at_] at hu hv hK ⊢
              all_goals (have hcc := hG.undrawn.block)
              all_goals (have y0 := (SL.cells_of ((hcc _ yb (by simp; omega)).trans kb)).1 0)
              all_goals (have y1 := (SL.cells_of ((hcc _ yb (by simp; omega)).trans kb)).1 1)
              all_goals (have y2 := (SL.cells_of ((hcc _ yb (by simp; omega)).trans kb)).1 2)
              all_goals (have y3 := ((SL.cells_of ((hcc _ y4 (by simp; omega)).trans k7)).1 x.frm.toNat).trans (gi_cell x0 (by omega)))
              all_goals simp at y0 y1 y2
              all_goals clear hcc
              all_goals try (go_step; refine hK _ _ _ _ (by simp [Act.put, *]; done) (SL.Chg.refl _ _) rfl rfl (by simp))
              · obtain ⟨⟨u1, _⟩, ⟨u2, _⟩, u4, u5⟩ := hu
                have c1 := ((SL.cells_of u4).1 x.tow.toNat).trans (gi_cell x2 (by omega))
                have f1 := (SL.cells_of u4).2
                go_step
                exact hK _ undef _ _ (by simp [Act.put, *]; done) (.setCell _ (by simp [u5]) _) (by rw [← ints_set]; exact SL.heap_set u4 _) rfl (by simp [u5])
              · obtain ⟨⟨u1, _⟩, ⟨u2, _⟩, u4, u5⟩ := hu
                have c1 := ((SL.cells_of u4).1 x.tow.toNat).trans (gi_cell x2 (by omega))
                have f1 := (SL.cells_of u4).2
                go_step
                exact hK _ undef _ _ (by simp [Act.put, *]; done) (.setCell _ (by simp [u5]) _) (by rw [← ints_set]; exact SL.heap_set u4 _) rfl (by simp [u5])
            · intro us w9 Fs hG hu hbd hd
              simp [SL.frame, SL.put', SL.Used, SL.Seen, SL.pu, SL.row, SL.box, SL.rowIn, SL.boxIn, SL.boxAt, SL.boxAtIn, Bd.v, Bd.cs, SLF.at_] at hu ⊢
              obtain ⟨⟨j5, _⟩, jl, _⟩ := hu
              clear hbd hd
              go_wp2
              go_roundw
              case rel =>
                refine ⟨k + 1, by omega, by go_num, (hC.trans hCn').trans hG.undrawn, ?_, ?_⟩
                · rw [Hst.out, hstep]; exact j5
                · rw [Hst.out, hstep]; exact jl
              case measure => simp [intOf]; omega
          · have t2' : decide (gi now x.frm + x.most < gi nx x.tow) = false := by simpa using t2
            have ho : lopen now nx x = false := by rw [hlopen, t1', t2']; rfl
            go_quiet (fail)
            go_wp2
            go_roundw
            case rel => exact Hno.out ho _
            case measure => simp [intOf]; omega
        · have t1' : decide (gi now x.frm < 1099511627776) = false := by simpa using t1
          have ho : lopen now nx x = false := by rw [hlopen, t1']; rfl
          go_quiet (fail)
          go_wp2
          go_roundw
          case rel => exact Hno.out ho _
          case measure => simp [intOf]; omega
      · have hkl : k = bs.length := by omega
        subst hkl
        have hB9 : Below w.heap.size w wr := (hBw.alloc (by omega) (Obj.cells (ints zeros60) 76)).trans (hC.belowE (by simp; omega) (by simp; omega))
        have hne : ∀ k, k < w.heap.size → k ∉ [N5, w'.heap.size] := fun k hk => by simp; omega
        have hWr := (hB9.block _ zW).trans hW
        have cW1r := ((SL.cells_of hWr).1 wo).trans hw1
        have cW2r := ((SL.cells_of hWr).1 (wo + 1)).trans hw2
        have o1r := o1.up hB9 (Nat.le_refl _)
        have o2r := o2.up hB9 (Nat.le_refl _)
        go_wp2_with fail
        obtain ⟨zz5, zzl⟩ := hnl2
        have hx5e : wr.heap[N5]? = some (.cells (ints (lng bs now bs.length).1) 77 (0, 0)) := hx5
        have hxle : wr.heap[w'.heap.size]? = some (.cells (ints (lng bs now bs.length).2) 76 (0, 0)) := hxl
        generalize hnx : (lng bs now bs.length).1 = nx at *
        generalize hls : (lng bs now bs.length).2 = ls at *
        have Hnx := Lib.hid (And.intro hnx hls)
        clear hnx hls
        have hv1' : (Value.slice (some ⟨g1, 0, none⟩) (m + 1) q1).ownBlock.toList = [g1] := rfl
        have hv2' : (Value.slice (some ⟨g2, 0, none⟩) (m + 1) q2).ownBlock.toList = [g2] := rfl
        rw [hv1'] at hd hn1 hax
        rw [hv2'] at hd hn2 hax
        simp at hd hn1 hn2
        have zr' := hB9.size
        have zN5 : N5 < wr.heap.size := (Array.getElem?_eq_some_iff.1 hx5).1
        have zNl : w'.heap.size < wr.heap.size := (Array.getElem?_eq_some_iff.1 hxl).1
        refine SL.rule (by kernel_rfl) [WB, g1, g2] [64, 65, 66, 67, 68, 69, 70, 71, 72, 73, 74, 75, 76, 77, 78, 79, 80, 81, 82, 83] [SL.pu 64 [] (.pointer (some ⟨WB, wo, none⟩)), SL.pu 65 [] (.pointer (some ⟨WB, wo, none⟩)), SL.pu 66 [] (.pointer (some ⟨WB, wo, none⟩)), SL.pu 67 [2] (.pointer (some ⟨WB, wo, none⟩)), SL.pu 68 [3] (.pointer (some ⟨WB, wo, none⟩)),
          SL.pu 69 [4, 22] (.slice (some ⟨g1, 0, none⟩) (m + 1) q1), SL.pu 70 [] (.agg (ints nx)), SL.row 71 [6] [] base 77 60 1 (flat [nx]), SL.rowN 72 [5, 7, 23] [23] base 77 60 (m + 2) (flat (S ++ [nx])) [g1] wr.heap.size,
          SL.pu 73 [] (.pointer (some ⟨WB, wo, none⟩)), SL.pu 74 [9] (.pointer (some ⟨WB, wo, none⟩)), SL.pu 75 [10] (.pointer (some ⟨WB, wo + 1, none⟩)), SL.pu 76 [11, 22] (.slice (some ⟨g2, 0, none⟩) (m + 1) q2), SL.pu 77 [] (.agg (ints ls)),
          SL.row 78 [13] [] base 76 60 1 (flat [ls]), SL.rowN 79 [12, 14, 24] [24] base 76 60 (m + 2) (flat (L ++ [ls])) [g2] wr.heap.size, SL.pu 80 [0] (.pointer (some ⟨WB, wo, none⟩)), SL.pu 81 [16] (.pointer (some ⟨WB, wo, none⟩)),
          SL.box1 [17, 8, 22] [8, 22] WB wo cs base (m + 2) (flat (S ++ [nx])) [g1] wr.heap.size, SL.pu 82 [1] (.pointer (some ⟨WB, wo, none⟩)), SL.pu 83 [19] (.pointer (some ⟨WB, wo + 1, none⟩)),
          SL.box2 [20, 15, 18] [15, 18] WB wo cs base (m + 2) (flat (S ++ [nx])) (flat (L ++ [ls])) [g1] [g2] wr.heap.size,
          SLF.at_ 0 [] [] WB 82 cs, SL.rowV base 77 60 (m + 1) (.slice (some ⟨g1, 0, none⟩) (m + 1) q1) (flat S), SL.rowV base 76 60 (m + 1) (.slice (some ⟨g2, 0, none⟩) (m + 1) q2) (flat L)]
          [21] (by kernel_rfl) (by kernel_rfl) _ (SL.three_held rfl rfl rfl rfl (N := WB) (M := g1) (K := g2) ⟨hWr, rfl⟩ ⟨o1r, rfl⟩ ⟨o2r, rfl⟩ (by omega) (by omega) (by omega)) (SL.three_apart (Ne.symm hn1 |>.symm) hn2 (by omega)) ?_ ?_
        · refine ⟨?_, ?_, ?_, ?_, ?_, ?_, ?_, ?_, ?_, ?_, ?_, ?_, ?_, ?_, ?_, ?_, ?_, ?_, ?_, ?_, ?_, ?_, trivial⟩
          all_goals refine SL.ob fun us w9 Fe hG hu hd hv K hK => ?_
          all_goals simp [SL.frame, SL.put', SL.Used, SL.Seen, SL.pu, SL.row, SL.box, SL.rowIn, SL.boxIn, SL.boxAt, SL.boxAtIn, Bd.v, Bd.cs, SLF.at_, SL.rowN, SL.box1, SL.box2, SL.rowV] at hu hv hK ⊢
          all_goals (have hcc := hG.undrawn.block)
          all_goals (have hsz := hG.undrawn.size)
          all_goals try (go_step; refine hK _ _ _ _ (by simp [Act.put, *]; done) (SL.Chg.refl _ _) rfl rfl (by simp))
          · obtain ⟨⟨u1, _⟩, u2, _⟩ := hu
            have c1 := ((SL.cells_of u2).1 wo).trans hw1
            go_step
            exact hK _ _ _ _ (by simp [Act.put, *]; done) (SL.Chg.refl _ _) rfl rfl (by simp)
          · refine wp_load_row _ _ rfl N5 (by simp [Act.eval, SL.frame, SL.put']) _ _ _ _ ((hcc _ (by omega) (by simp; omega)).trans hx5e) Tryz.underlying77 rfl (by rw [ints_size, zz5]; kernel_rfl) ?_
            exact hK _ _ _ _ rfl (SL.Chg.refl _ _) rfl rfl (by simp)
          · have hsi : (ints nx).size = 60 := by rw [ints_size, zz5]
            have hfi := fold_ints nx zz5
            go_step
            exact hK _ (.slice (some ⟨w9.heap.size, 0, none⟩) 1 1) (w9.alloc (.cells (ints nx) 77)) _ (by simp [Act.put, *]; done) (.alloc _ _ _) (by simpa [flat, ints] using World.ownsRow_lit (base := base) (size := 60) w9 (ints nx) 1 (by omega) (by decide) (by rw [hsi])) rfl (by simp [Value.ownBlock])
          · obtain ⟨⟨u1, _⟩, ⟨u2, u3⟩, u4, u5⟩ := hu
            obtain ⟨sa, c, hsl, _⟩ := owns_slice u2
            refine wp_app elemR _ _ rfl u4 (by simp [Act.eval, SL.frame, SL.put', u1]) (by simp [Act.eval, SL.frame, SL.put']; exact hsl) (RowAt.of_owns (hsl ▸ u2)) (show (flat [nx]).length = 1 * 60 from flat_len (by simp; omega)) (flat_one _) (by unfold maxLen; omega) (by omega) (by omega) ?_
            intro v' w2 ho hg hb _ hat
            rw [← flat_append] at ho
            refine hK _ v' w2 _ rfl ?_ ho rfl ?_ ?_
            · exact .of_own hg (by rw [u5]; simp [Value.ownBlock])
            · intro k hk
              rcases hat with h | h
              · rw [h] at hk; simp [Value.ownBlock] at hk; exact .inl hk.symm
              · rw [h] at hk; simp at hk; right; omega
            · rw [u5]
              intro k hk
              rcases hat with h | h
              · rw [h] at hk; left; simpa using hk
              · have h2 := (SL.row_bounds ho k hk).2
                rw [h] at hk; simp at hk; right; omega
          · obtain ⟨⟨u1, _⟩, u2, _⟩ := hu
            have c1 := ((SL.cells_of u2).1 (wo + 1)).trans hw2
            go_step
            exact hK _ _ _ _ (by simp [Act.put, *]; done) (SL.Chg.refl _ _) rfl rfl (by simp)
          · refine wp_load_row _ _ rfl w'.heap.size (by simp [Act.eval, SL.frame, SL.put']) _ _ _ _ ((hcc _ (by omega) (by simp; omega)).trans hxle) Tryz.underlying76 rfl (by rw [ints_size, zzl]; kernel_rfl) ?_
            exact hK _ _ _ _ rfl (SL.Chg.refl _ _) rfl rfl (by simp)
          · have hsi : (ints ls).size = 60 := by rw [ints_size, zzl]
            have hfi := fold_ints ls zzl
            go_step
            exact hK _ (.slice (some ⟨w9.heap.size, 0, none⟩) 1 1) (w9.alloc (.cells (ints ls) 76)) _ (by simp [Act.put, *]; done) (.alloc _ _ _) (by simpa [flat, ints] using World.ownsRow_lit (base := base) (size := 60) w9 (ints ls) 1 (by omega) (by decide) (by rw [hsi])) rfl (by simp [Value.ownBlock])
          · obtain ⟨⟨u1, _⟩, ⟨u2, u3⟩, u4, u5⟩ := hu
            obtain ⟨sa, c, hsl, _⟩ := owns_slice u2
            refine wp_app elemA _ _ rfl u4 (by simp [Act.eval, SL.frame, SL.put', u1]) (by simp [Act.eval, SL.frame, SL.put']; exact hsl) (RowAt.of_owns (hsl ▸ u2)) (show (flat [ls]).length = 1 * 60 from flat_len (by simp; omega)) (flat_one _) (by unfold maxLen; omega) (by omega) (by omega) ?_
            intro v' w2 ho hg hb _ hat
            rw [← flat_append] at ho
            refine hK _ v' w2 _ rfl ?_ ho rfl ?_ ?_
            · exact .of_own hg (by rw [u5]; simp [Value.ownBlock])
            · intro k hk
              rcases hat with h | h
              · rw [h] at hk; simp [Value.ownBlock] at hk; exact .inl hk.symm
              · rw [h] at hk; simp at hk; right; omega
            · rw [u5]
              intro k hk
              rcases hat with h | h
              · rw [h] at hk; left; simpa using hk
              · have h2 := (SL.row_bounds ho k hk).2
                rw [h] at hk; simp at hk; right; omega
          · obtain ⟨⟨u1, _⟩, ⟨u2, u3, u3'⟩, u4, u5⟩ := hu
            obtain ⟨sa, c, hsl, _⟩ := owns_slice u2
            have c1 := ((SL.cells_of u4).1 wo).trans hw1
            have f1 := (SL.cells_of u4).2
            have hne : WB ∉ (us 72).ownBlock.toList := fun h => by
              rcases u3' WB (by simpa using h) with h2 | h2
              · exact hn1 h2
              · omega
            go_step
            refine hK _ undef _ _ (by simp [Act.put, *]; done) (.setCell _ (by simp [u5]) _) (us 72) ?_ (SL.row_set (p := ⟨WB, wo, none⟩) u2 hne _) u3' rfl ?_
            · rw [hsl]; exact SL.heap_set u4 _
            · rw [u5, u3]; simp; exact fun k h => .inl (.inl h)
          · obtain ⟨⟨u1, _⟩, ⟨u2, u3, u3'⟩, y, u4, u4', u5, u6⟩ := hu
            obtain ⟨sa, c, hsl, _⟩ := owns_slice u2
            have c1 : w9.cell? ⟨WB, wo + 1, none⟩ = some (.slice (some ⟨g2, 0, none⟩) (m + 1) q2) := by
              rw [(SL.cells_of u4).1]; simp [hw2]
            have f1 := (SL.cells_of u4).2
            have hne : WB ∉ (us 79).ownBlock.toList := fun h => by
              rcases u3' WB (by simpa using h) with h2 | h2
              · exact hn2 h2
              · omega
            have hney : WB ∉ y.ownBlock.toList := fun h => by
              rcases u5 WB (by simpa using h) with h2 | h2
              · exact hn1 h2
              · omega
            have hdis := hd 15 18 (by simp [SL.box2]) (by simp [SL.box2]) (by simp)
            rw [u3, u6] at hdis
            go_step
            refine hK _ undef _ _ (by simp [Act.put, *]; done) (.setCell _ (by simp [u6]) _) y (us 79) ?_ (SL.row_set (p := ⟨WB, wo + 1, none⟩) u4' hney _) (SL.row_set (p := ⟨WB, wo + 1, none⟩) u2 hne _) u5 u3' (fun k hk1 hk2 => hdis k (by simpa using hk2) (by simp; right; simpa using hk1)) rfl ?_
            · rw [hsl]; exact SL.heap_set u4 _
            · rw [u6, u3]; simp
              rintro a (h | h)
              · exact .inl (.inr (.inr h))
              · exact .inl (.inl h)
        · intro us w9 Fs hG hu hbd hd
          simp [SL.frame, SL.put', SL.Used, SL.Seen, SL.pu, SL.row, SL.box, SL.rowIn, SL.boxIn, SL.boxAt, SL.boxAtIn, Bd.v, Bd.cs, SLF.at_, SL.rowN, SL.box1, SL.box2, SL.rowV] at hu ⊢
          obtain ⟨y, z, j1, j2, j3, j4, j5, j6, _⟩ := hu
          go_wp2
          go_end0
          rw [← Hnx.out.1] at j2
          rw [← Hnx.out.2] at j3
          refine ⟨rfl, y, z, j1, j2, j3, fun k h1 h2 => j6 k (by simpa using h1) (by simpa using h2), fun k hk => ?_, fun k hk => ?_, ?_⟩
          · rcases j4 k (by simpa using hk) with h | h
            · left; simp [Value.ownBlock, h]
            · right; omega
          · rcases j5 k (by simpa using hk) with h | h
            · left; simp [Value.ownBlock, h]
            · right; omega
          · exact (SL.Chg.of_below hB9).trans hG.undrawn
end Go.Proofs.YtlkcfohmoeadbaaGreat
