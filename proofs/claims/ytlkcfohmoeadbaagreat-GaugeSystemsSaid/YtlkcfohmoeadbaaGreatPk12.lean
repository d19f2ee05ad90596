/-
  Lemmas and walks for the laws on bounds and their sums; the parts' own heads say what each proves, for every input.
-/
import Derived.Test.YtlkcfohmoeadbaaGreatPk10
import Derived.Test.YtlkcfohmoeadbaaGreatPk09
import Derived.Test.YtlkcfohmoeadbaaGreatPk11
import Derived.Shelf.SlGeneric
import Derived.Shelf.SlIterI.Nil
import Derived.Shelf.SortM.Plain
import Derived.Shelf.SortM.SortNone
import Derived.Shelf.Slices.Reverse
import Derived.Ground.GgzProg
import Derived.Ground.SlgmProg
import Derived.Ground.NamesProg
import Derived.Test.YtlkcfohmoeadbaaGreatProg
set_option linter.unusedSimpArgs false
set_option linter.unusedVariables false
set_option linter.unnecessarySimpa false
/-
  Gauge, walked: With.
-/
namespace Go.Proofs.YtlkcfohmoeadbaaGreat
open Go.RowKit Go.Shelf
set_option maxHeartbeats 1000000
set_option maxRecDepth 100000

/-- A value made of a row, whose shape is known to those that look at it. -/
def SL.rowSee (s : Nat) (u e : List Nat) (base : Nat) (t : TypeId) (size n : Nat) (xs : List Value) (f : Value → Value) : SL.Sp := { SL.rowIn s u e base t size n xs f with V := fun x => ∃ y, x = f y }
def SL.puSee (s : Nat) (u see : List Nat) (v : Value) : SL.Sp := { SL.pu s u v with see := see }

theorem SL.Chg.undrew {E : List Nat} {w w' : World} (h : SL.Chg E w.drew w') : SL.Chg E w w' := ⟨h.os, h.tape, h.output, h.size, h.block⟩

theorem chk_400 {p : Int} {bs : List Bd} (h : chk p bs = 0) : bs.length ≤ 400 := by unfold chk at h; split at h <;> omega

theorem gWith_ok (p : Int) (a : Option Addr) (n cap : Nat) (bs : List Bd) (x : Bd) (w : World) (hb : BdsAt w a n cap bs) (h0 : chk p bs = 0) (h1 : chk p (bs ++ [x]) = 0) :
    Calls Tryz.prog 12 #[.agg #[.int .i64 p, .slice a n cap], .agg #[.int .i64 x.frm, .int .i64 x.tow, .int .i64 x.most, .int .i64 x.bid]] w fun e w' => ∃ v, e = .returned (.tuple #[.agg #[.int .i64 p, v], .int .i64 0]) ∧ w'.ownsRow w.heap.size 26 4 v (bs.length + 1) (bcs (bs ++ [x])) ∧ Below w.heap.size w w' := by
  have hs := chk_400 h0
  obtain rfl := hb.len
  have ebs : bcs bs ++ [.int .i64 x.frm, .int .i64 x.tow, .int .i64 x.most, .int .i64 x.bid] = bcs (bs ++ [x]) := by rw [bcs_append]; simp [bcs, Bd.cs]
  have Ebs := Lib.hid ebs
  clear ebs
  go_enter Tryz.func12, Tryz.ntmps12
  go_wp2_with (go_at_call 10; refine (gcheck_any _ _ _ _ _ _ (hb.below (by ((repeat (first | assumption | exact Below.refl _ _ | refine Below.alloc ?_ ?_ _ | refine Below.setCell ?_ ?_ _ | refine Below.drew ?_ | refine belowN ?_ | refine Below.up ?_ (by assumption) ?_)) <;> (first | assumption | omega | (simp; done) | (simp; omega)))))).mono ?_; rintro e w1 ⟨rfl, hb1⟩; obtain ⟨hc1, hf1⟩ := bcell hb1; have hz1a := lt_size hb1 (b := w.heap.size) (by first | assumption | omega | (simp; done) | (simp; omega)); have hz1b := lt_size hb1 (b := w.heap.size+1) (by first | assumption | omega | (simp; done) | (simp; omega)); have hz1c := lt_size hb1 (b := w.heap.size+2) (by first | assumption | omega | (simp; done) | (simp; omega)))
  have hb1' := hb.below (w' := w1) (((((Below.refl _ w).alloc (Nat.le_refl _) _).alloc (by simp) _).alloc (by simp <;> omega) _).trans (hb1.mono (by simp <;> omega)))
  have q0 : w1.cell? ⟨w.heap.size, 0, none⟩ = some (.int .i64 p) := by simp [go_sem, *]
  have q1 : w1.cell? ⟨w.heap.size, 1, none⟩ = some (.slice a bs.length cap) := by simp [go_sem, *]
  have q2 : w1.cell? ⟨w.heap.size+1, 0, none⟩ = some (.int .i64 x.frm) := by simp [go_sem, *]
  have q3 : w1.cell? ⟨w.heap.size+1, 1, none⟩ = some (.int .i64 x.tow) := by simp [go_sem, *]
  have q4 : w1.cell? ⟨w.heap.size+1, 2, none⟩ = some (.int .i64 x.most) := by simp [go_sem, *]
  have q5 : w1.cell? ⟨w.heap.size+1, 3, none⟩ = some (.int .i64 x.bid) := by simp [go_sem, *]
  have h8 := heap_alloc_new ((w.alloc (Obj.cells #[.int .i64 p, .slice a bs.length cap] 24)).alloc (Obj.cells #[.int .i64 x.frm, .int .i64 x.tow, .int .i64 x.most, .int .i64 x.bid] 26)) (Obj.cells #[.int .i64 0, .slice none 0 0] 24)
  simp only [World.size_alloc] at h8
  have h9 : w1.heap[w.heap.size + 1 + 1]? = some (.cells #[.int .i64 0, .slice none 0 0] 24 (0, 0)) := (hb1.block _ (by simp)).trans h8
  clear hc1 hf1 h8
  have hx1 : w.heap.size + 1 + 1 < w1.heap.size := by assumption
  refine SL.rule (by kernel_rfl) [w.heap.size + 1 + 1] [13, 14, 15, 16, 17, 18, 19, 20, 21, 22, 23, 24, 5] [
    SL.pu 13 [] (.pointer (some ⟨w.heap.size, 0, none⟩)), SL.pu 14 [0] (.int .i64 p), SL.pu 15 [] (.pointer (some ⟨w.heap.size, 1, none⟩)), SL.pu 16 [2] (.slice a bs.length cap),
    SL.row 17 [3] [] w1.heap.size 26 4 bs.length (bcs bs), SL.pu 18 [] x.v, SL.row 19 [5] [] w1.heap.size 26 4 1 x.cs, SL.row 20 [4, 6] [4] w1.heap.size 26 4 (bs.length + 1) (bcs bs ++ x.cs),
    SL.rowIn 21 [1, 7] [7] w1.heap.size 26 4 (bs.length + 1) (bcs bs ++ x.cs) (fun u => .agg #[.int .i64 p, u]),
    SL.rowSee 22 [8] [8] w1.heap.size 26 4 (bs.length + 1) (bcs bs ++ x.cs) (fun u => .tuple #[.agg #[.int .i64 p, u], .int .i64 0]),
    SL.rowIn 23 [9] [9] w1.heap.size 26 4 (bs.length + 1) (bcs bs ++ x.cs) (fun u => .agg #[.int .i64 p, u]),
    SL.puSee 24 [] [9] (.int .i64 0),
    SL.boxAtIn 4 [10, 14] [10, 14] (w.heap.size + 1 + 1) 24 w1.heap.size 26 4 (bs.length + 1) (bcs bs ++ x.cs) (fun u => #[.int .i64 p, u]),
    SL.pu 5 [11] (.int .i64 0),
    SL.boxAt 4 [] [] (w.heap.size + 1 + 1) 24 #[.int .i64 0, .slice none 0 0]] [12, 13] (by kernel_rfl) (by kernel_rfl) _ (SL.one_held (N := w.heap.size + 1 + 1) rfl rfl ⟨rfl, h9, rfl⟩ hx1) SL.one_apart ?_ ?_
  · refine ⟨?_, ?_, ?_, ?_, ?_, ?_, ?_, ?_, ?_, ?_, ?_, ?_, ?_, ?_, trivial⟩
    all_goals refine SL.ob fun us w' Fe hG hu hd hv K hK => ?_
    all_goals simp [SL.frame, SL.put', SL.Used, SL.Seen, SL.pu, SL.row, SL.box, SL.rowIn, SL.boxIn, SL.boxAt, SL.boxAtIn, Bd.v, Bd.cs, SL.rowSee, SL.puSee] at hu hv hK ⊢
    all_goals (obtain ⟨hg1, hg2⟩ := hG.cellsF)
    all_goals (have hsz := hG.size; simp only [World.size_drew] at hsz)
    all_goals (have hbw : BdsAt w' a bs.length cap bs := hb1'.chg hG.undrew (fun y hy => by have := (hb.at_ y hy).2.1; simp; omega))
    all_goals (have r0 : w'.cell? ⟨w.heap.size, 0, none⟩ = some (.int .i64 p) := (hg1 _ _ (by omega) (by simp <;> omega)).trans q0)
    all_goals (have r1 : w'.cell? ⟨w.heap.size, 1, none⟩ = some (.slice a bs.length cap) := (hg1 _ _ (by omega) (by simp <;> omega)).trans q1)
    all_goals (have r2 : w'.cell? ⟨w.heap.size + 1, 0, none⟩ = some (.int .i64 x.frm) := (hg1 _ _ (by omega) (by simp <;> omega)).trans q2)
    all_goals (have r3 : w'.cell? ⟨w.heap.size + 1, 1, none⟩ = some (.int .i64 x.tow) := (hg1 _ _ (by omega) (by simp <;> omega)).trans q3)
    all_goals (have r4 : w'.cell? ⟨w.heap.size + 1, 2, none⟩ = some (.int .i64 x.most) := (hg1 _ _ (by omega) (by simp <;> omega)).trans q4)
    all_goals (have r5 : w'.cell? ⟨w.heap.size + 1, 3, none⟩ = some (.int .i64 x.bid) := (hg1 _ _ (by omega) (by simp <;> omega)).trans q5)
    all_goals try (go_step; refine hK _ _ _ _ (by simp [Act.put, *]; done) (SL.Chg.refl _ _) rfl rfl (by simp))
    · go_step
      refine (gcopiedB_any _ _ _ _ _ hbw (by omega)).mono ?_
      rintro e w2 ⟨v, rfl, ho2, hb2⟩
      exact hK _ v w2 _ (by simp [Act.put, *]) (.of_below hb2) (SL.row_base ho2 hsz) rfl (SL.row_bounds ho2)
    · go_step
      refine hK _ _ _ _ (by simp [Act.put, *]; done) (.alloc _ _ _) (World.ownsRow_lit w' _ 1 hsz (by decide) rfl) rfl (by simp [Value.ownBlock])
    · obtain ⟨⟨u1, u2⟩, u3, u4⟩ := hu
      obtain ⟨sa, c, hsl, _⟩ := owns_slice u3
      refine wp_app elemB _ _ rfl u1 rfl hsl (RowAt.of_owns (hsl ▸ u3)) rfl (by simp [Value.oneCell']) (by unfold maxLen; omega) (by omega) hsz ?_
      intro v' w2 ho hg hb _ hat
      refine hK _ v' w2 _ rfl ?_ ho rfl ?_
      · exact .of_own hg (by rw [u2]; simp)
      · rw [u2]; exact SL.app_bounds u1 ho hat
    · obtain ⟨⟨u1, _⟩, u2, u3⟩ := hu
      obtain ⟨sa, c, hsl, _⟩ := owns_slice u2
      go_step
      refine hK _ _ _ _ (by simp [Act.put, *]; done) (.refl _ _) _ rfl (hsl ▸ u2) rfl ?_
      rw [u3]; simp [hsl]; exact fun k h => .inl h
    · obtain ⟨y, u1, u2, u3⟩ := hu
      obtain ⟨sa, c, hsl, _⟩ := owns_slice u2
      subst hsl
      rw [Ebs.out] at u2
      have hbx : BdsAt w' sa (bs.length + 1) c (bs ++ [x]) := .of_owns u2 (by simp; omega)
      go_step
      refine (gchecked_any _ _ _ _ _ _ hbx).mono ?_
      rintro e w2 ⟨rfl, hb2⟩
      rw [if_pos h1]
      refine hK _ (.tuple #[.agg #[.int .i64 p, .slice sa (bs.length + 1) c], .int .i64 0]) w2 _ (by simp [Act.put, *]; done) _ rfl (.of_below hb2) _ rfl ?_ rfl ?_
      · rw [Ebs.out]; exact World.ownsRow.up u2 hb2 (Nat.le_refl _)
      · rw [u3]; exact fun k h => .inl h
    · obtain ⟨y, u1, u2, u3⟩ := hu
      go_step
      refine hK _ _ _ _ (by simp [Act.put, *]; done) (.refl _ _) _ rfl u2 rfl ?_
      rw [u3]; exact fun k h => .inl h
    · obtain ⟨y, u1⟩ := hv
      go_step
      exact hK _ _ _ _ (by simp [Act.put, *]; done) (.refl _ _) rfl rfl (by simp)
    · obtain ⟨⟨u, hu1, u2, u3⟩, hu4, u4, u5⟩ := hu
      obtain ⟨sa, c, hsl, _⟩ := owns_slice u2
      subst hsl
      have c0 := (SL.cells_of u4).1 0
      have c1 := (SL.cells_of u4).1 1
      have f0 := (SL.cells_of u4).2
      simp at c0 c1
      have hne : w.heap.size + 1 + 1 ∉ (Value.slice sa (bs.length + 1) c).ownBlock.toList := fun h => by have := (SL.row_bounds u2 _ h).1; omega
      go_step
      refine hK _ undef _ _ (by simp [Act.put, *]; done) (.trans (.setCell _ (by simp [u5]) _) (.setCell _ (by simp [u5]) _)) hu4 _ (SL.heap_set (SL.heap_set u4 _) _) (SL.row_set (SL.row_set u2 hne _) hne _) rfl ?_
      rw [u5, u3]; simp; exact fun k h => .inl (.inl h)
  · intro us w' Fs hG hu hbd hd
    simp [SL.frame, SL.put', SL.Used, SL.Seen, SL.pu, SL.row, SL.box, SL.rowIn, SL.boxIn, SL.boxAt, SL.boxAtIn, Bd.v, Bd.cs, SL.rowSee, SL.puSee] at hu ⊢
    obtain ⟨⟨u4, y, hh, ho, hF⟩, u5, _⟩ := hu
    obtain ⟨sa, c, hsl, _⟩ := owns_slice ho
    subst hsl
    have c0 := (SL.cells_of hh).1 0
    have c1 := (SL.cells_of hh).1 1
    simp at c0 c1
    simp only [u4, u5]
    go_wp2
    refine bodyPost_ret (v := .tuple #[.agg #[.int .i64 p, .slice sa (bs.length + 1) c], .int .i64 0]) (by simp [results, Tryz.results12, go_sem, *]) rfl ⟨_, rfl, by rw [← Ebs.out]; exact SL.row_base ho (by omega), ?_⟩
    have z1 := hb1.size
    simp only [World.size_alloc] at z1
    refine Below.trans ?_ (hG.belowF (B := w.heap.size) (by omega) (by simp; omega))
    exact ((((Below.refl _ w).alloc (Nat.le_refl _) _).alloc (by simp) _).alloc (by simp; omega) _).trans (hb1.mono (by simp; omega))
theorem gWith_new (p : Int) (a : Option Addr) (n cap : Nat) (bs : List Bd) (x : Bd) (w : World) (hb : BdsAt w a n cap bs) (h0 : chk p bs = 0) (h1 : chk p (bs ++ [x]) ≠ 0) :
    Calls Tryz.prog 12 #[.agg #[.int .i64 p, .slice a n cap], .agg #[.int .i64 x.frm, .int .i64 x.tow, .int .i64 x.most, .int .i64 x.bid]] w fun e w' => e = .returned (.tuple #[.agg #[.int .i64 0, .slice none 0 0], .int .i64 (chk p (bs ++ [x]))]) ∧ Below w.heap.size w w' := by
  have hs := chk_400 h0
  obtain rfl := hb.len
  have ebs : bcs bs ++ [.int .i64 x.frm, .int .i64 x.tow, .int .i64 x.most, .int .i64 x.bid] = bcs (bs ++ [x]) := by rw [bcs_append]; simp [bcs, Bd.cs]
  have Ebs := Lib.hid ebs
  clear ebs
  go_enter Tryz.func12, Tryz.ntmps12
  go_wp2_with (go_at_call 10; refine (gcheck_any _ _ _ _ _ _ (hb.below (by ((repeat (first | assumption | exact Below.refl _ _ | refine Below.alloc ?_ ?_ _ | refine Below.setCell ?_ ?_ _ | refine Below.drew ?_ | refine belowN ?_ | refine Below.up ?_ (by assumption) ?_)) <;> (first | assumption | omega | (simp; done) | (simp; omega)))))).mono ?_; rintro e w1 ⟨rfl, hb1⟩; obtain ⟨hc1, hf1⟩ := bcell hb1; have hz1a := lt_size hb1 (b := w.heap.size) (by first | assumption | omega | (simp; done) | (simp; omega)); have hz1b := lt_size hb1 (b := w.heap.size+1) (by first | assumption | omega | (simp; done) | (simp; omega)); have hz1c := lt_size hb1 (b := w.heap.size+2) (by first | assumption | omega | (simp; done) | (simp; omega)))
  have hb1' := hb.below (w' := w1) (((((Below.refl _ w).alloc (Nat.le_refl _) _).alloc (by simp) _).alloc (by simp <;> omega) _).trans (hb1.mono (by simp <;> omega)))
  have q0 : w1.cell? ⟨w.heap.size, 0, none⟩ = some (.int .i64 p) := by simp [go_sem, *]
  have q1 : w1.cell? ⟨w.heap.size, 1, none⟩ = some (.slice a bs.length cap) := by simp [go_sem, *]
  have q2 : w1.cell? ⟨w.heap.size+1, 0, none⟩ = some (.int .i64 x.frm) := by simp [go_sem, *]
  have q3 : w1.cell? ⟨w.heap.size+1, 1, none⟩ = some (.int .i64 x.tow) := by simp [go_sem, *]
  have q4 : w1.cell? ⟨w.heap.size+1, 2, none⟩ = some (.int .i64 x.most) := by simp [go_sem, *]
  have q5 : w1.cell? ⟨w.heap.size+1, 3, none⟩ = some (.int .i64 x.bid) := by simp [go_sem, *]
  have h8 := heap_alloc_new ((w.alloc (Obj.cells #[.int .i64 p, .slice a bs.length cap] 24)).alloc (Obj.cells #[.int .i64 x.frm, .int .i64 x.tow, .int .i64 x.most, .int .i64 x.bid] 26)) (Obj.cells #[.int .i64 0, .slice none 0 0] 24)
  simp only [World.size_alloc] at h8
  have h9 : w1.heap[w.heap.size + 1 + 1]? = some (.cells #[.int .i64 0, .slice none 0 0] 24 (0, 0)) := (hb1.block _ (by simp)).trans h8
  clear hc1 hf1 h8
  have hx1 : w.heap.size + 1 + 1 < w1.heap.size := by assumption
  refine SL.rule (by kernel_rfl) [w.heap.size + 1 + 1] [13, 14, 15, 16, 17, 18, 19, 20, 21, 22, 23, 24, 5] [
    SL.pu 13 [] (.pointer (some ⟨w.heap.size, 0, none⟩)), SL.pu 14 [0] (.int .i64 p), SL.pu 15 [] (.pointer (some ⟨w.heap.size, 1, none⟩)), SL.pu 16 [2] (.slice a bs.length cap),
    SL.row 17 [3] [] w1.heap.size 26 4 bs.length (bcs bs), SL.pu 18 [] x.v, SL.row 19 [5] [] w1.heap.size 26 4 1 x.cs, SL.row 20 [4, 6] [4] w1.heap.size 26 4 (bs.length + 1) (bcs bs ++ x.cs),
    SL.rowIn 21 [1, 7] [7] w1.heap.size 26 4 (bs.length + 1) (bcs bs ++ x.cs) (fun u => .agg #[.int .i64 p, u]),
    SL.pu 22 [8] (.tuple #[.agg #[.int .i64 0, .slice none 0 0], .int .i64 (chk p (bs ++ [x]))]),
    SL.pu 23 [9] (.agg #[.int .i64 0, .slice none 0 0]),
    SL.pu 24 [9] (.int .i64 (chk p (bs ++ [x]))),
    SL.boxAt 4 [10, 14] [14] (w.heap.size + 1 + 1) 24 #[.int .i64 0, .slice none 0 0],
    SL.pu 5 [11] (.int .i64 (chk p (bs ++ [x]))),
    SL.boxAt 4 [] [] (w.heap.size + 1 + 1) 24 #[.int .i64 0, .slice none 0 0]] [12, 13] (by kernel_rfl) (by kernel_rfl) _ (SL.one_held (N := w.heap.size + 1 + 1) rfl rfl ⟨rfl, h9, rfl⟩ hx1) SL.one_apart ?_ ?_
  · refine ⟨?_, ?_, ?_, ?_, ?_, ?_, ?_, ?_, ?_, ?_, ?_, ?_, ?_, ?_, trivial⟩
    all_goals refine SL.ob fun us w' Fe hG hu hd hv K hK => ?_
    all_goals simp [SL.frame, SL.put', SL.Used, SL.Seen, SL.pu, SL.row, SL.box, SL.rowIn, SL.boxIn, SL.boxAt, SL.boxAtIn, Bd.v, Bd.cs, SL.rowSee, SL.puSee] at hu hv hK ⊢
    all_goals (obtain ⟨hg1, hg2⟩ := hG.cellsF)
    all_goals (have hsz := hG.size; simp only [World.size_drew] at hsz)
    all_goals (have hbw : BdsAt w' a bs.length cap bs := hb1'.chg hG.undrew (fun y hy => by have := (hb.at_ y hy).2.1; simp; omega))
    all_goals (have r0 : w'.cell? ⟨w.heap.size, 0, none⟩ = some (.int .i64 p) := (hg1 _ _ (by omega) (by simp <;> omega)).trans q0)
    all_goals (have r1 : w'.cell? ⟨w.heap.size, 1, none⟩ = some (.slice a bs.length cap) := (hg1 _ _ (by omega) (by simp <;> omega)).trans q1)
    all_goals (have r2 : w'.cell? ⟨w.heap.size + 1, 0, none⟩ = some (.int .i64 x.frm) := (hg1 _ _ (by omega) (by simp <;> omega)).trans q2)
    all_goals (have r3 : w'.cell? ⟨w.heap.size + 1, 1, none⟩ = some (.int .i64 x.tow) := (hg1 _ _ (by omega) (by simp <;> omega)).trans q3)
    all_goals (have r4 : w'.cell? ⟨w.heap.size + 1, 2, none⟩ = some (.int .i64 x.most) := (hg1 _ _ (by omega) (by simp <;> omega)).trans q4)
    all_goals (have r5 : w'.cell? ⟨w.heap.size + 1, 3, none⟩ = some (.int .i64 x.bid) := (hg1 _ _ (by omega) (by simp <;> omega)).trans q5)
    all_goals try (go_step; refine hK _ _ _ _ (by simp [Act.put, *]; done) (SL.Chg.refl _ _) rfl rfl (by simp))
    · go_step
      refine (gcopiedB_any _ _ _ _ _ hbw (by omega)).mono ?_
      rintro e w2 ⟨v, rfl, ho2, hb2⟩
      exact hK _ v w2 _ (by simp [Act.put, *]) (.of_below hb2) (SL.row_base ho2 hsz) rfl (SL.row_bounds ho2)
    · go_step
      refine hK _ _ _ _ (by simp [Act.put, *]; done) (.alloc _ _ _) (World.ownsRow_lit w' _ 1 hsz (by decide) rfl) rfl (by simp [Value.ownBlock])
    · obtain ⟨⟨u1, u2⟩, u3, u4⟩ := hu
      obtain ⟨sa, c, hsl, _⟩ := owns_slice u3
      refine wp_app elemB _ _ rfl u1 rfl hsl (RowAt.of_owns (hsl ▸ u3)) rfl (by simp [Value.oneCell']) (by unfold maxLen; omega) (by omega) hsz ?_
      intro v' w2 ho hg hb _ hat
      refine hK _ v' w2 _ rfl ?_ ho rfl ?_
      · exact .of_own hg (by rw [u2]; simp)
      · rw [u2]; exact SL.app_bounds u1 ho hat
    · obtain ⟨⟨u1, _⟩, u2, u3⟩ := hu
      obtain ⟨sa, c, hsl, _⟩ := owns_slice u2
      go_step
      refine hK _ _ _ _ (by simp [Act.put, *]; done) (.refl _ _) _ rfl (hsl ▸ u2) rfl ?_
      rw [u3]; simp [hsl]; exact fun k h => .inl h
    · obtain ⟨y, u1, u2, u3⟩ := hu
      obtain ⟨sa, c, hsl, _⟩ := owns_slice u2
      subst hsl
      rw [Ebs.out] at u2
      have hbx : BdsAt w' sa (bs.length + 1) c (bs ++ [x]) := .of_owns u2 (by simp; omega)
      go_step
      refine (gchecked_any _ _ _ _ _ _ hbx).mono ?_
      rintro e w2 ⟨rfl, hb2⟩
      rw [if_neg h1]
      exact hK _ (.tuple #[.agg #[.int .i64 0, .slice none 0 0], .int .i64 (chk p (bs ++ [x]))]) w2 _ (by simp [Act.put, *]; done) (.of_below hb2) rfl rfl (by simp)
    · obtain ⟨⟨u1, _⟩, u2, u4, u5⟩ := hu
      have c0 := (SL.cells_of u4).1 0
      have c1 := (SL.cells_of u4).1 1
      have f0 := (SL.cells_of u4).2
      simp at c0 c1
      go_step
      refine hK _ undef _ _ (by simp [Act.put, *]; done) (.trans (.setCell _ (by simp [u5]) _) (.setCell _ (by simp [u5]) _)) u2 (SL.heap_set (SL.heap_set u4 _) _) rfl ?_
      rw [u5]; simp
  · intro us w' Fs hG hu hbd hd
    simp [SL.frame, SL.put', SL.Used, SL.Seen, SL.pu, SL.row, SL.box, SL.rowIn, SL.boxIn, SL.boxAt, SL.boxAtIn, Bd.v, Bd.cs, SL.rowSee, SL.puSee] at hu ⊢
    obtain ⟨⟨u4, hh, hF⟩, u5, _⟩ := hu
    have c0 := (SL.cells_of hh).1 0
    have c1 := (SL.cells_of hh).1 1
    simp at c0 c1
    simp only [u4, u5]
    go_wp2
    refine bodyPost_ret (v := .tuple #[.agg #[.int .i64 0, .slice none 0 0], .int .i64 (chk p (bs ++ [x]))]) (by simp [results, Tryz.results12, go_sem, *]) rfl ⟨rfl, ?_⟩
    have z1 := hb1.size
    simp only [World.size_alloc] at z1
    refine Below.trans ?_ (hG.belowF (B := w.heap.size) (by omega) (by simp; omega))
    exact ((((Below.refl _ w).alloc (Nat.le_refl _) _).alloc (by simp) _).alloc (by simp; omega) _).trans (hb1.mono (by simp; omega))

def withE (p : Int) (bs : List Bd) (x : Bd) : Int := if chk p bs = 0 then chk p (bs ++ [x]) else chk p bs
def withL (p : Int) (bs : List Bd) (x : Bd) : List Bd := if withE p bs x = 0 then bs ++ [x] else []

theorem gWith_any (p : Int) (a : Option Addr) (n cap : Nat) (bs : List Bd) (x : Bd) (w : World) (hb : BdsAt w a n cap bs) :
    Calls Tryz.prog 12 #[.agg #[.int .i64 p, .slice a n cap], .agg #[.int .i64 x.frm, .int .i64 x.tow, .int .i64 x.most, .int .i64 x.bid]] w fun e w' => ∃ v, e = .returned (.tuple #[.agg #[.int .i64 (if withE p bs x = 0 then p else 0), v], .int .i64 (withE p bs x)]) ∧ w'.ownsRow w.heap.size 26 4 v (withL p bs x).length (bcs (withL p bs x)) ∧ Below w.heap.size w w' := by
  by_cases h0 : chk p bs = 0
  · by_cases h1 : chk p (bs ++ [x]) = 0
    · refine (gWith_ok p a n cap bs x w hb h0 h1).mono ?_
      rintro e w' ⟨v, rfl, ho, hb'⟩
      exact ⟨v, by simp [withE, h0, h1], by simpa [withL, withE, h0, h1] using ho, hb'⟩
    · refine (gWith_new p a n cap bs x w hb h0 h1).mono ?_
      rintro e w' ⟨rfl, hb'⟩
      exact ⟨_, by simp [withE, h0, h1]; rfl, by simp [withL, withE, h0, h1]; exact World.ownsRow_nil _ _ _ _, hb'⟩
  · have h0' : (chk p bs == 0) = false := by simpa using h0
    have hbx := hb.below (w' := ((w.alloc (Obj.cells #[.int .i64 p, .slice a n cap] 24)).alloc (Obj.cells #[.int .i64 x.frm, .int .i64 x.tow, .int .i64 x.most, .int .i64 x.bid] 26)).alloc (Obj.cells #[.int .i64 0, .slice none 0 0] 24)) (by ((repeat (first | assumption | exact Below.refl _ _ | refine Below.alloc ?_ ?_ _ | refine Below.setCell ?_ ?_ _ | refine Below.drew ?_ | refine belowN ?_ | refine Below.up ?_ (by assumption) ?_)) <;> (first | assumption | omega | (simp; done) | (simp; omega))))
    have hC := gcheck_any p a n cap bs _ hbx
    have hE : withE p bs x = chk p bs := by simp [withE, h0]
    have hL : withL p bs x = [] := by simp [withL, hE, h0]
    rw [hL, hE, if_neg h0]
    clear hL hE
    generalize chk p bs = c at *
    go_enter Tryz.func12, Tryz.ntmps12
    go_wp2_with (go_at_call 10; refine (hC).mono ?_; rintro e w1 ⟨rfl, hb1⟩; obtain ⟨hc1, hf1⟩ := bcell hb1; have hz1a := lt_size hb1 (b := w.heap.size) (by first | assumption | omega | (simp; done) | (simp; omega)); have hz1b := lt_size hb1 (b := w.heap.size+1) (by first | assumption | omega | (simp; done) | (simp; omega)); have hz1c := lt_size hb1 (b := w.heap.size+1+1) (by first | assumption | omega | (simp; done) | (simp; omega)))
    have hz1 := hb1.size
    simp only [World.size_alloc] at hz1
    refine bodyPost_ret (v := .tuple #[.agg #[.int .i64 0, .slice none 0 0], .int .i64 c]) (by simp [results, Tryz.results12, go_sem, *]) rfl ⟨_, rfl, World.ownsRow_nil _ _ _ _, ?_⟩
    have hB3 : Below w.heap.size w (((w.alloc (Obj.cells #[.int .i64 p, .slice a n cap] 24)).alloc (Obj.cells #[.int .i64 x.frm, .int .i64 x.tow, .int .i64 x.most, .int .i64 x.bid] 26)).alloc (Obj.cells #[.int .i64 0, .slice none 0 0] 24)) := by ((repeat (first | assumption | exact Below.refl _ _ | refine Below.alloc ?_ ?_ _ | refine Below.setCell ?_ ?_ _ | refine Below.drew ?_ | refine belowN ?_ | refine Below.up ?_ (by assumption) ?_)) <;> (first | assumption | omega | (simp; done) | (simp; omega)))
    exact (hB3.trans (hb1.mono (by simp; omega))).setCell (by simp; omega) _ |>.setCell (by simp; omega) _
end Go.Proofs.YtlkcfohmoeadbaaGreat

/-
  Gauge, walked: Fixed.
-/
namespace Go.Proofs.YtlkcfohmoeadbaaGreat
open Go.RowKit Go.Shelf
set_option maxHeartbeats 1000000
set_option maxRecDepth 100000

def fixN (p : Int) (bs : List Bd) (x y : Int) : Int := if askE p bs x y = 0 ∧ fxB p bs x y = true then gD p bs x y else 0
def fixB (p : Int) (bs : List Bd) (x y : Int) : Bool := decide (askE p bs x y = 0) && fxB p bs x y

end Go.Proofs.YtlkcfohmoeadbaaGreat

/-
  DERIVED: THE SHELF's CONTRACTS AT THIS DUMP, IN PLAIN WORDS (tools/lay-plain.mjs out of 'YtlkcfohmoeadbaaGreatShelf.lean', which tools/lay-shelf.mjs wrote): THE SAME DECLARATIONS UNDER THE SAME NAMES: 'import', 'namespace', 'open', 'def', 'theorem' AND NOTHING ELSE: no command of the shelf's: FOR A HAND-IN. Each laying: the table of numbers ('.._ren') and one theorem, a field a fact of the dump's own or the kernel's comparison; each contract: ONE APPLICATION.
-/
namespace Go.Proofs
open Go.Shelf
def Tryz.keysA_ren : Go.Shelf.Ren := ⟨fun | 7 => 77 | 10 => 87 | n => n, fun | 23 => 97 | 26 => 3 | 3 => 4 | 28 => 100 | 0 => 0 | 27 => 99 | 33 => 112 | 4 => 4 | n => n, fun | n => n⟩
theorem Tryz.keysA : Go.Proofs.SlLaysZI.n7 Tryz.prog Tryz.keysA_ren := {
  mixed := by kernel_rfl
  f7 := ⟨Tryz.f77.name, by decide, Tryz.func77.trans (congrArg some (by kernel_rfl))⟩
  f10 := ⟨Tryz.f87.name, by decide, Tryz.func87.trans (congrArg some (by kernel_rfl))⟩
  t0 := Tryz.underlying0
  a0 := Tryz.isAgg0
  z0 := Tryz.sizeOf0
  v0 := Tryz.zeroValue0
  t4 := Tryz.underlying4
  a4 := Tryz.isAgg4
  z4 := Tryz.sizeOf4
  v4 := Tryz.zeroValue4
  t23 := Tryz.underlying97
  a23 := Tryz.isAgg97
  z23 := Tryz.sizeOf97
  v23 := Tryz.zeroValue97
  t26 := Tryz.underlying3
  a26 := Tryz.isAgg3
  z26 := Tryz.sizeOf3
  v26 := Tryz.zeroValue3
  t27 := Tryz.underlying99
  a27 := Tryz.isAgg99
  z27 := Tryz.sizeOf99
  v27 := Tryz.zeroValue99
  t28 := Tryz.underlying100
  a28 := Tryz.isAgg100
  z28 := Tryz.sizeOf100
  v28 := Tryz.zeroValue100
  t33 := Tryz.underlying112
  a33 := Tryz.isAgg112
  z33 := Tryz.sizeOf112
  v33 := Tryz.zeroValue112 }
def Tryz.sortedA_ren : Go.Shelf.Ren := ⟨fun | 6 => 76 | 8 => 85 | 9 => 86 | 11 => 90 | 13 => 92 | 12 => 91 | 23 => 103 | 24 => 104 | 14 => 94 | 15 => 95 | 16 => 96 | 17 => 97 | 18 => 98 | 19 => 99 | 20 => 100 | 21 => 101 | 22 => 102 | 25 => 105 | 26 => 106 | 27 => 107 | 28 => 108 | 29 => 109 | 30 => 110 | 31 => 111 | n => n, fun | 26 => 3 | 28 => 100 | 24 => 27 | 0 => 0 | 3 => 3 | 37 => 119 | 48 => 129 | 50 => 131 | 4 => 4 | 40 => 123 | 39 => 122 | 45 => 90 | 5 => 5 | 9 => 9 | 51 => 132 | 55 => 136 | 57 => 138 | 58 => 139 | 33 => 112 | n => n, fun | n => n⟩
theorem Tryz.sortedA : Go.Proofs.SlLaysZI.n6 Tryz.prog Tryz.sortedA_ren := {
  mixed := by kernel_rfl
  f6 := ⟨Tryz.f76.name, by decide, Tryz.func76.trans (congrArg some (by kernel_rfl))⟩
  f8 := ⟨Tryz.f85.name, by decide, Tryz.func85.trans (congrArg some (by kernel_rfl))⟩
  f11 := ⟨Tryz.f90.name, by decide, Tryz.func90.trans (congrArg some (by kernel_rfl))⟩
  t0 := Tryz.underlying0
  a0 := Tryz.isAgg0
  z0 := Tryz.sizeOf0
  v0 := Tryz.zeroValue0
  t24 := Tryz.underlying27
  a24 := Tryz.isAgg27
  z24 := Tryz.sizeOf27
  v24 := Tryz.zeroValue27
  t26 := Tryz.underlying3
  a26 := Tryz.isAgg3
  z26 := Tryz.sizeOf3
  v26 := Tryz.zeroValue3
  t28 := Tryz.underlying100
  a28 := Tryz.isAgg100
  z28 := Tryz.sizeOf100
  v28 := Tryz.zeroValue100
  i26 := by kernel_rfl }
def Tryz.sortA_ren : Go.Shelf.Ren := ⟨fun | 5 => 86 | 8 => 92 | 7 => 91 | 19 => 103 | 20 => 104 | 10 => 94 | 11 => 95 | 12 => 96 | 13 => 97 | 14 => 98 | 15 => 99 | 16 => 100 | 17 => 101 | 18 => 102 | 30 => 105 | 31 => 106 | 32 => 107 | 33 => 108 | 34 => 109 | 35 => 110 | 40 => 111 | n => n, fun | 23 => 27 | 25 => 3 | 3 => 3 | 32 => 119 | 22 => 27 | 0 => 0 | 44 => 129 | 46 => 131 | 4 => 4 | 36 => 123 | 35 => 122 | 41 => 90 | 5 => 5 | 9 => 9 | 53 => 132 | 57 => 136 | 63 => 138 | 64 => 139 | n => n, fun | n => n⟩
theorem Tryz.sortA : Go.Proofs.SlLaysM.n5 Tryz.prog Tryz.sortA_ren := {
  mixed := by kernel_rfl
  f5 := ⟨Tryz.f86.name, by decide, Tryz.func86.trans (congrArg some (by kernel_rfl))⟩
  f7 := ⟨Tryz.f91.name, by decide, Tryz.func91.trans (congrArg some (by kernel_rfl))⟩
  f8 := Tryz.func92.trans (congrArg some (by kernel_rfl))
  f10 := ⟨Tryz.f94.name, by decide, Tryz.func94.trans (congrArg some (by kernel_rfl))⟩
  f11 := ⟨Tryz.f95.name, by decide, Tryz.func95.trans (congrArg some (by kernel_rfl))⟩
  f12 := ⟨Tryz.f96.name, by decide, Tryz.func96.trans (congrArg some (by kernel_rfl))⟩
  f13 := ⟨Tryz.f97.name, by decide, Tryz.func97.trans (congrArg some (by kernel_rfl))⟩
  f14 := ⟨Tryz.f98.name, by decide, Tryz.func98.trans (congrArg some (by kernel_rfl))⟩
  f15 := ⟨Tryz.f99.name, by decide, Tryz.func99.trans (congrArg some (by kernel_rfl))⟩
  f16 := ⟨Tryz.f100.name, by decide, Tryz.func100.trans (congrArg some (by kernel_rfl))⟩
  f17 := ⟨Tryz.f101.name, by decide, Tryz.func101.trans (congrArg some (by kernel_rfl))⟩
  f18 := ⟨Tryz.f102.name, by decide, Tryz.func102.trans (congrArg some (by kernel_rfl))⟩
  f19 := Tryz.func103.trans (congrArg some (by kernel_rfl))
  f20 := Tryz.func104.trans (congrArg some (by kernel_rfl))
  f30 := ⟨Tryz.f105.name, by decide, Tryz.func105.trans (congrArg some (by kernel_rfl))⟩
  f31 := Tryz.func106.trans (congrArg some (by kernel_rfl))
  f32 := Tryz.func107.trans (congrArg some (by kernel_rfl))
  f33 := ⟨Tryz.f108.name, by decide, Tryz.func108.trans (congrArg some (by kernel_rfl))⟩
  f34 := ⟨Tryz.f109.name, by decide, Tryz.func109.trans (congrArg some (by kernel_rfl))⟩
  f35 := ⟨Tryz.f110.name, by decide, Tryz.func110.trans (congrArg some (by kernel_rfl))⟩
  f40 := ⟨Tryz.f111.name, by decide, Tryz.func111.trans (congrArg some (by kernel_rfl))⟩
  t0 := Tryz.underlying0
  a0 := Tryz.isAgg0
  z0 := Tryz.sizeOf0
  v0 := Tryz.zeroValue0
  t3 := Tryz.underlying3
  a3 := Tryz.isAgg3
  z3 := Tryz.sizeOf3
  v3 := Tryz.zeroValue3
  t4 := Tryz.underlying4
  a4 := Tryz.isAgg4
  z4 := Tryz.sizeOf4
  v4 := Tryz.zeroValue4
  t5 := Tryz.underlying5
  a5 := Tryz.isAgg5
  z5 := Tryz.sizeOf5
  v5 := Tryz.zeroValue5
  t9 := Tryz.underlying9
  a9 := Tryz.isAgg9
  z9 := Tryz.sizeOf9
  v9 := Tryz.zeroValue9
  t22 := Tryz.underlying27
  a22 := Tryz.isAgg27
  z22 := Tryz.sizeOf27
  v22 := Tryz.zeroValue27
  t23 := Tryz.underlying27
  a23 := Tryz.isAgg27
  z23 := Tryz.sizeOf27
  v23 := Tryz.zeroValue27
  t25 := Tryz.underlying3
  a25 := Tryz.isAgg3
  z25 := Tryz.sizeOf3
  v25 := Tryz.zeroValue3
  t32 := Tryz.underlying119
  a32 := Tryz.isAgg119
  z32 := Tryz.sizeOf119
  v32 := Tryz.zeroValue119
  t35 := Tryz.underlying122
  a35 := Tryz.isAgg122
  z35 := Tryz.sizeOf122
  v35 := Tryz.zeroValue122
  t36 := Tryz.underlying123
  a36 := Tryz.isAgg123
  z36 := Tryz.sizeOf123
  v36 := Tryz.zeroValue123
  t41 := Tryz.underlying90
  a41 := Tryz.isAgg90
  z41 := Tryz.sizeOf90
  v41 := Tryz.zeroValue90
  t44 := Tryz.underlying129
  a44 := Tryz.isAgg129
  z44 := Tryz.sizeOf129
  v44 := Tryz.zeroValue129
  t46 := Tryz.underlying131
  a46 := Tryz.isAgg131
  z46 := Tryz.sizeOf131
  v46 := Tryz.zeroValue131
  t53 := Tryz.underlying132
  a53 := Tryz.isAgg132
  z53 := Tryz.sizeOf132
  v53 := Tryz.zeroValue132
  t57 := Tryz.underlying136
  a57 := Tryz.isAgg136
  z57 := Tryz.sizeOf136
  v57 := Tryz.zeroValue136
  t63 := Tryz.underlying138
  a63 := Tryz.isAgg138
  z63 := Tryz.sizeOf138
  v63 := Tryz.zeroValue138
  t64 := Tryz.underlying139
  a64 := Tryz.isAgg139
  z64 := Tryz.sizeOf139
  v64 := Tryz.zeroValue139 }
def Tryz.reverseA_ren : Go.Shelf.Ren := ⟨fun | 112 => 84 | n => n, fun | 28 => 27 | 3 => 3 | 4 => 4 | 0 => 0 | n => n, fun | n => n⟩
theorem Tryz.reverseA : Go.Proofs.Lays.n112 Tryz.prog Tryz.reverseA_ren := {
  mixed := by kernel_rfl
  f112 := Tryz.func84.trans (congrArg some (by kernel_rfl))
  t0 := Tryz.underlying0
  a0 := Tryz.isAgg0
  z0 := Tryz.sizeOf0
  v0 := Tryz.zeroValue0
  t3 := Tryz.underlying3
  a3 := Tryz.isAgg3
  z3 := Tryz.sizeOf3
  v3 := Tryz.zeroValue3
  t4 := Tryz.underlying4
  a4 := Tryz.isAgg4
  z4 := Tryz.sizeOf4
  v4 := Tryz.zeroValue4
  t28 := Tryz.underlying27
  a28 := Tryz.isAgg27
  z28 := Tryz.sizeOf27
  v28 := Tryz.zeroValue27 }
end Go.Proofs
