/-
  Lemmas and walks for the laws on bounds and their sums; the parts' own heads say what each proves, for every input.
-/
import Derived.Test.YtlkcfohmoeadbaaPk10
import Derived.Test.YtlkcfohmoeadbaaPk09
import Derived.Test.YtlkcfohmoeadbaaPk11
import Derived.Shelf.SlGeneric
import Derived.Shelf.SlIterI.Nil
import Derived.Shelf.SortM.Plain
import Derived.Shelf.SortM.SortNone
import Derived.Shelf.Slices.Reverse
import Derived.Ground.GgzProg
import Derived.Ground.SlgmProg
import Derived.Ground.NamesProg
import Derived.Test.YtlkcfohmoeadbaaProg
set_option linter.unusedSimpArgs false
set_option linter.unusedVariables false
set_option linter.unnecessarySimpa false
/-
  Gauge, walked: With.
-/
namespace Go.Proofs.Ytlkcfohmoeadbaa
open Go.RowKit Go.Shelf
set_option maxHeartbeats 1000000
set_option maxRecDepth 100000

/-- A value made of a row, whose shape is known to those that look at it. -/
def SL.rowSee (s : Nat) (u e : List Nat) (base : Nat) (t : TypeId) (size n : Nat) (xs : List Value) (f : Value → Value) : SL.Sp := { SL.rowIn s u e base t size n xs f with V := fun x => ∃ y, x = f y }
def SL.puSee (s : Nat) (u see : List Nat) (v : Value) : SL.Sp := { SL.pu s u v with see := see }

theorem SL.Chg.undrew {E : List Nat} {w w' : World} (h : SL.Chg E w.drew w') : SL.Chg E w w' := ⟨h.os, h.tape, h.output, h.size, h.block⟩

theorem chk_400 {p : Int} {bs : List Bd} (h : chk p bs = 0) : bs.length ≤ 400 := by unfold chk at h; split at h <;> omega

theorem gWith_ok (p : Int) (a : Option Addr) (n cap : Nat) (bs : List Bd) (x : Bd) (w : World) (hb : BdsAt w a n cap bs) (h0 : chk p bs = 0) (h1 : chk p (bs ++ [x]) = 0) :
    Calls Try.prog 42 #[.agg #[.int .i64 p, .slice a n cap], .agg #[.int .i64 x.frm, .int .i64 x.tow, .int .i64 x.most, .int .i64 x.bid]] w fun e w' => ∃ v, e = .returned (.tuple #[.agg #[.int .i64 p, v], .int .i64 0]) ∧ w'.ownsRow w.heap.size 39 4 v (bs.length + 1) (bcs (bs ++ [x])) ∧ Below w.heap.size w w' := by
  have hs := chk_400 h0
  obtain rfl := hb.len
  have ebs : bcs bs ++ [.int .i64 x.frm, .int .i64 x.tow, .int .i64 x.most, .int .i64 x.bid] = bcs (bs ++ [x]) := by rw [bcs_append]; simp [bcs, Bd.cs]
  have Ebs := Lib.hid ebs
  clear ebs
  go_enter Try.func42, Try.ntmps42
  go_wp2_with (go_at_call 63; refine (gcheck_any _ _ _ _ _ _ (hb.below (by ((repeat (first | assumption | exact Below.refl _ _ | refine Below.alloc ?_ ?_ _ | refine Below.setCell ?_ ?_ _ | refine Below.drew ?_ | refine belowN ?_ | refine Below.up ?_ (by assumption) ?_)) <;> (first | assumption | omega | (simp; done) | (simp; omega)))))).mono ?_; rintro e w1 ⟨rfl, hb1⟩; obtain ⟨hc1, hf1⟩ := bcell hb1; have hz1a := lt_size hb1 (b := w.heap.size) (by first | assumption | omega | (simp; done) | (simp; omega)); have hz1b := lt_size hb1 (b := w.heap.size+1) (by first | assumption | omega | (simp; done) | (simp; omega)); have hz1c := lt_size hb1 (b := w.heap.size+2) (by first | assumption | omega | (simp; done) | (simp; omega)))
  have hb1' := hb.below (w' := w1) (((((Below.refl _ w).alloc (Nat.le_refl _) _).alloc (by simp) _).alloc (by simp <;> omega) _).trans (hb1.mono (by simp <;> omega)))
  have q0 : w1.cell? ⟨w.heap.size, 0, none⟩ = some (.int .i64 p) := by simp [go_sem, *]
  have q1 : w1.cell? ⟨w.heap.size, 1, none⟩ = some (.slice a bs.length cap) := by simp [go_sem, *]
  have q2 : w1.cell? ⟨w.heap.size+1, 0, none⟩ = some (.int .i64 x.frm) := by simp [go_sem, *]
  have q3 : w1.cell? ⟨w.heap.size+1, 1, none⟩ = some (.int .i64 x.tow) := by simp [go_sem, *]
  have q4 : w1.cell? ⟨w.heap.size+1, 2, none⟩ = some (.int .i64 x.most) := by simp [go_sem, *]
  have q5 : w1.cell? ⟨w.heap.size+1, 3, none⟩ = some (.int .i64 x.bid) := by simp [go_sem, *]
  have h8 := heap_alloc_new ((w.alloc (Obj.cells #[.int .i64 p, .slice a bs.length cap] 24)).alloc (Obj.cells #[.int .i64 x.frm, .int .i64 x.tow, .int .i64 x.most, .int .i64 x.bid] 39)) (Obj.cells #[.int .i64 0, .slice none 0 0] 24)
  simp only [World.size_alloc] at h8
  have h9 : w1.heap[w.heap.size + 1 + 1]? = some (.cells #[.int .i64 0, .slice none 0 0] 24 (0, 0)) := (hb1.block _ (by simp)).trans h8
  clear hc1 hf1 h8
  have hx1 : w.heap.size + 1 + 1 < w1.heap.size := by assumption
  refine SL.rule (by kernel_rfl) [w.heap.size + 1 + 1] [13, 14, 15, 16, 17, 18, 19, 20, 21, 22, 23, 24, 5] [
    SL.pu 13 [] (.pointer (some ⟨w.heap.size, 0, none⟩)), SL.pu 14 [0] (.int .i64 p), SL.pu 15 [] (.pointer (some ⟨w.heap.size, 1, none⟩)), SL.pu 16 [2] (.slice a bs.length cap),
    SL.row 17 [3] [] w1.heap.size 39 4 bs.length (bcs bs), SL.pu 18 [] x.v, SL.row 19 [5] [] w1.heap.size 39 4 1 x.cs, SL.row 20 [4, 6] [4] w1.heap.size 39 4 (bs.length + 1) (bcs bs ++ x.cs),
    SL.rowIn 21 [1, 7] [7] w1.heap.size 39 4 (bs.length + 1) (bcs bs ++ x.cs) (fun u => .agg #[.int .i64 p, u]),
    SL.rowSee 22 [8] [8] w1.heap.size 39 4 (bs.length + 1) (bcs bs ++ x.cs) (fun u => .tuple #[.agg #[.int .i64 p, u], .int .i64 0]),
    SL.rowIn 23 [9] [9] w1.heap.size 39 4 (bs.length + 1) (bcs bs ++ x.cs) (fun u => .agg #[.int .i64 p, u]),
    SL.puSee 24 [] [9] (.int .i64 0),
    SL.boxAtIn 4 [10, 14] [10, 14] (w.heap.size + 1 + 1) 24 w1.heap.size 39 4 (bs.length + 1) (bcs bs ++ x.cs) (fun u => #[.int .i64 p, u]),
    SL.pu 5 [11] (.int .i64 0),
    SL.boxAt 4 [] [] (w.heap.size + 1 + 1) 24 #[.int .i64 0, .slice none 0 0]] [12, 13] (by kernel_rfl) (by kernel_rfl) _ (SL.one_held (N := w.heap.size + 1 + 1) rfl rfl ⟨rfl, h9, rfl⟩ hx1) SL.one_apart ?_ ?_
  · refine ⟨?_, ?_, ?_, ?_, ?_, ?_, ?_, ?_, ?_, ?_, ?_, ?_, ?_, ?_, trivial⟩
    all_goals refine SL.ob fun us w' Fe hG hu hd hv K hK => ?_
    all_goals simp [SL.frame, SL.put', SL.Used, SL.Seen, SL.pu, SL.row, SL.box, SL.rowIn, SL.boxIn, SL.boxAt, SL.boxAtIn, Bd.v, Bd.cs, SL.rowSee, SL.puSee] at hu hv hK ⊢
    all_goals (obtain ⟨hg1, hg2⟩ := hG.cellsF)
    all_goals (have hsz := hG.size; simp only [World.size_drew] at hsz)
    all_goals (have hbw : BdsAt w' a bs.length cap bs := hb1'.chg hG.undrew (fun y hy => by have := (hb.at_ y hy).2.1; simp; omega))
    all_goals (have r0 : w'.cell? ⟨w.heap.size, 0, none⟩ = some (.int .i64 p) := (hg1 _ _ (by omega) (by simp <;> omega)).trans q0)
    all_goals (have r1 : w'.cell? ⟨w.heap.size, 1, none⟩ = some (.slice a bs.length cap) := (hg1 _ _ (by omega) (by simp <;> omega)).trans q1)
    all_goals (have r2 : w'.cell? ⟨w.heap.size + 1, 0, none⟩ = some (.int .i64 x.frm) := (hg1 _ _ (by omega) (by simp <;> omega)).trans q2)
    all_goals (have r3 : w'.cell? ⟨w.heap.size + 1, 1, none⟩ = some (.int .i64 x.tow) := (hg1 _ _ (by omega) (by simp <;> omega)).trans q3)
    all_goals (have r4 : w'.cell? ⟨w.heap.size + 1, 2, none⟩ = some (.int .i64 x.most) := (hg1 _ _ (by omega) (by simp <;> omega)).trans q4)
    all_goals (have r5 : w'.cell? ⟨w.heap.size + 1, 3, none⟩ = some (.int .i64 x.bid) := (hg1 _ _ (by omega) (by simp <;> omega)).trans q5)
    all_goals try (go_step; refine hK _ _ _ _ (by simp [Act.put, *]; done) (SL.Chg.refl _ _) rfl rfl (by simp))
    · go_step
      refine (gcopiedB_any _ _ _ _ _ hbw (by omega)).mono ?_
      rintro e w2 ⟨v, rfl, ho2, hb2⟩
      exact hK _ v w2 _ (by simp [Act.put, *]) (.of_below hb2) (SL.row_base ho2 hsz) rfl (SL.row_bounds ho2)
    · go_step
      refine hK _ _ _ _ (by simp [Act.put, *]; done) (.alloc _ _ _) (World.ownsRow_lit w' _ 1 hsz (by decide) rfl) rfl (by simp [Value.ownBlock])
    · obtain ⟨⟨u1, u2⟩, u3, u4⟩ := hu
      obtain ⟨sa, c, hsl, _⟩ := owns_slice u3
      refine wp_app elemB _ _ rfl u1 rfl hsl (RowAt.of_owns (hsl ▸ u3)) rfl (by simp [Value.oneCell']) (by unfold maxLen; omega) (by omega) hsz ?_
      intro v' w2 ho hg hb _ hat
      refine hK _ v' w2 _ rfl ?_ ho rfl ?_
      · exact .of_own hg (by rw [u2]; simp)
      · rw [u2]; exact SL.app_bounds u1 ho hat
    · obtain ⟨⟨u1, _⟩, u2, u3⟩ := hu
      obtain ⟨sa, c, hsl, _⟩ := owns_slice u2
      go_step
      refine hK _ _ _ _ (by simp [Act.put, *]; done) (.refl _ _) _ rfl (hsl ▸ u2) rfl ?_
      rw [u3]; simp [hsl]; exact fun k h => .inl h
    · obtain ⟨y, u1, u2, u3⟩ := hu
      obtain ⟨sa, c, hsl, _⟩ := owns_slice u2
      subst hsl
      rw [Ebs.out] at u2
      have hbx : BdsAt w' sa (bs.length + 1) c (bs ++ [x]) := .of_owns u2 (by simp; omega)
      go_step
      refine (gchecked_any _ _ _ _ _ _ hbx).mono ?_
      rintro e w2 ⟨rfl, hb2⟩
      rw [if_pos h1]
      refine hK _ (.tuple #[.agg #[.int .i64 p, .slice sa (bs.length + 1) c], .int .i64 0]) w2 _ (by simp [Act.put, *]; done) _ rfl (.of_below hb2) _ rfl ?_ rfl ?_
      · rw [Ebs.out]; exact World.ownsRow.up u2 hb2 (Nat.le_refl _)
      · rw [u3]; exact fun k h => .inl h
    · obtain ⟨y, u1, u2, u3⟩ := hu
      go_step
      refine hK _ _ _ _ (by simp [Act.put, *]; done) (.refl _ _) _ rfl u2 rfl ?_
      rw [u3]; exact fun k h => .inl h
    · obtain ⟨y, u1⟩ := hv
      go_step
      exact hK _ _ _ _ (by simp [Act.put, *]; done) (.refl _ _) rfl rfl (by simp)
    · obtain ⟨⟨u, hu1, u2, u3⟩, hu4, u4, u5⟩ := hu
      obtain ⟨sa, c, hsl, _⟩ := owns_slice u2
      subst hsl
      have c0 := (SL.cells_of u4).1 0
      have c1 := (SL.cells_of u4).1 1
      have f0 := (SL.cells_of u4).2
      simp at c0 c1
      have hne : w.heap.size + 1 + 1 ∉ (Value.slice sa (bs.length + 1) c).ownBlock.toList := fun h => by have := (SL.row_bounds u2 _ h).1; omega
      go_step
      refine hK _ undef _ _ (by simp [Act.put, *]; done) (.trans (.setCell _ (by simp [u5]) _) (.setCell _ (by simp [u5]) _)) hu4 _ (SL.heap_set (SL.heap_set u4 _) _) (SL.row_set (SL.row_set u2 hne _) hne _) rfl ?_
      rw [u5, u3]; simp; exact fun k h => .inl (.inl h)
  · intro us w' Fs hG hu hbd hd
    simp [SL.frame, SL.put', SL.Used, SL.Seen, SL.pu, SL.row, SL.box, SL.rowIn, SL.boxIn, SL.boxAt, SL.boxAtIn, Bd.v, Bd.cs, SL.rowSee, SL.puSee] at hu ⊢
    obtain ⟨⟨u4, y, hh, ho, hF⟩, u5, _⟩ := hu
    obtain ⟨sa, c, hsl, _⟩ := owns_slice ho
    subst hsl
    have c0 := (SL.cells_of hh).1 0
    have c1 := (SL.cells_of hh).1 1
    simp at c0 c1
    simp only [u4, u5]
    go_wp2
    refine bodyPost_ret (v := .tuple #[.agg #[.int .i64 p, .slice sa (bs.length + 1) c], .int .i64 0]) (by simp [results, Try.results42, go_sem, *]) rfl ⟨_, rfl, by rw [← Ebs.out]; exact SL.row_base ho (by omega), ?_⟩
    have z1 := hb1.size
    simp only [World.size_alloc] at z1
    refine Below.trans ?_ (hG.belowF (B := w.heap.size) (by omega) (by simp; omega))
    exact ((((Below.refl _ w).alloc (Nat.le_refl _) _).alloc (by simp) _).alloc (by simp; omega) _).trans (hb1.mono (by simp; omega))
theorem gWith_new (p : Int) (a : Option Addr) (n cap : Nat) (bs : List Bd) (x : Bd) (w : World) (hb : BdsAt w a n cap bs) (h0 : chk p bs = 0) (h1 : chk p (bs ++ [x]) ≠ 0) :
    Calls Try.prog 42 #[.agg #[.int .i64 p, .slice a n cap], .agg #[.int .i64 x.frm, .int .i64 x.tow, .int .i64 x.most, .int .i64 x.bid]] w fun e w' => e = .returned (.tuple #[.agg #[.int .i64 0, .slice none 0 0], .int .i64 (chk p (bs ++ [x]))]) ∧ Below w.heap.size w w' := by
  have hs := chk_400 h0
  obtain rfl := hb.len
  have ebs : bcs bs ++ [.int .i64 x.frm, .int .i64 x.tow, .int .i64 x.most, .int .i64 x.bid] = bcs (bs ++ [x]) := by rw [bcs_append]; simp [bcs, Bd.cs]
  have Ebs := Lib.hid ebs
  clear ebs
  go_enter Try.func42, Try.ntmps42
  go_wp2_with (go_at_call 63; refine (gcheck_any _ _ _ _ _ _ (hb.below (by ((repeat (first | assumption | exact Below.refl _ _ | refine Below.alloc ?_ ?_ _ | refine Below.setCell ?_ ?_ _ | refine Below.drew ?_ | refine belowN ?_ | refine Below.up ?_ (by assumption) ?_)) <;> (first | assumption | omega | (simp; done) | (simp; omega)))))).mono ?_; rintro e w1 ⟨rfl, hb1⟩; obtain ⟨hc1, hf1⟩ := bcell hb1; have hz1a := lt_size hb1 (b := w.heap.size) (by first | assumption | omega | (simp; done) | (simp; omega)); have hz1b := lt_size hb1 (b := w.heap.size+1) (by first | assumption | omega | (simp; done) | (simp; omega)); have hz1c := lt_size hb1 (b := w.heap.size+2) (by first | assumption | omega | (simp; done) | (simp; omega)))
  have hb1' := hb.below (w' := w1) (((((Below.refl _ w).alloc (Nat.le_refl _) _).alloc (by simp) _).alloc (by simp <;> omega) _).trans (hb1.mono (by simp <;> omega)))
  have q0 : w1.cell? ⟨w.heap.size, 0, none⟩ = some (.int .i64 p) := by simp [go_sem, *]
  have q1 : w1.cell? ⟨w.heap.size, 1, none⟩ = some (.slice a bs.length cap) := by simp [go_sem, *]
  have q2 : w1.cell? ⟨w.heap.size+1, 0, none⟩ = some (.int .i64 x.frm) := by simp [go_sem, *]
  have q3 : w1.cell? ⟨w.heap.size+1, 1, none⟩ = some (.int .i64 x.tow) := by simp [go_sem, *]
  have q4 : w1.cell? ⟨w.heap.size+1, 2, none⟩ = some (.int .i64 x.most) := by simp [go_sem, *]
  have q5 : w1.cell? ⟨w.heap.size+1, 3, none⟩ = some (.int .i64 x.bid) := by simp [go_sem, *]
  have h8 := heap_alloc_new ((w.alloc (Obj.cells #[.int .i64 p, .slice a bs.length cap] 24)).alloc (Obj.cells #[.int .i64 x.frm, .int .i64 x.tow, .int .i64 x.most, .int .i64 x.bid] 39)) (Obj.cells #[.int .i64 0, .slice none 0 0] 24)
  simp only [World.size_alloc] at h8
  have h9 : w1.heap[w.heap.size + 1 + 1]? = some (.cells #[.int .i64 0, .slice none 0 0] 24 (0, 0)) := (hb1.block _ (by simp)).trans h8
  clear hc1 hf1 h8
  have hx1 : w.heap.size + 1 + 1 < w1.heap.size := by assumption
  refine SL.rule (by kernel_rfl) [w.heap.size + 1 + 1] [13, 14, 15, 16, 17, 18, 19, 20, 21, 22, 23, 24, 5] [
    SL.pu 13 [] (.pointer (some ⟨w.heap.size, 0, none⟩)), SL.pu 14 [0] (.int .i64 p), SL.pu 15 [] (.pointer (some ⟨w.heap.size, 1, none⟩)), SL.pu 16 [2] (.slice a bs.length cap),
    SL.row 17 [3] [] w1.heap.size 39 4 bs.length (bcs bs), SL.pu 18 [] x.v, SL.row 19 [5] [] w1.heap.size 39 4 1 x.cs, SL.row 20 [4, 6] [4] w1.heap.size 39 4 (bs.length + 1) (bcs bs ++ x.cs),
    SL.rowIn 21 [1, 7] [7] w1.heap.size 39 4 (bs.length + 1) (bcs bs ++ x.cs) (fun u => .agg #[.int .i64 p, u]),
    SL.pu 22 [8] (.tuple #[.agg #[.int .i64 0, .slice none 0 0], .int .i64 (chk p (bs ++ [x]))]),
    SL.pu 23 [9] (.agg #[.int .i64 0, .slice none 0 0]),
    SL.pu 24 [9] (.int .i64 (chk p (bs ++ [x]))),
    SL.boxAt 4 [10, 14] [14] (w.heap.size + 1 + 1) 24 #[.int .i64 0, .slice none 0 0],
    SL.pu 5 [11] (.int .i64 (chk p (bs ++ [x]))),
    SL.boxAt 4 [] [] (w.heap.size + 1 + 1) 24 #[.int .i64 0, .slice none 0 0]] [12, 13] (by kernel_rfl) (by kernel_rfl) _ (SL.one_held (N := w.heap.size + 1 + 1) rfl rfl ⟨rfl, h9, rfl⟩ hx1) SL.one_apart ?_ ?_
  · refine ⟨?_, ?_, ?_, ?_, ?_, ?_, ?_, ?_, ?_, ?_, ?_, ?_, ?_, ?_, trivial⟩
    all_goals refine SL.ob fun us w' Fe hG hu hd hv K hK => ?_
    all_goals simp [SL.frame, SL.put', SL.Used, SL.Seen, SL.pu, SL.row, SL.box, SL.rowIn, SL.boxIn, SL.boxAt, SL.boxAtIn, Bd.v, Bd.cs, SL.rowSee, SL.puSee] at hu hv hK ⊢
    all_goals (obtain ⟨hg1, hg2⟩ := hG.cellsF)
    all_goals (have hsz := hG.size; simp only [World.size_drew] at hsz)
    all_goals (have hbw : BdsAt w' a bs.length cap bs := hb1'.chg hG.undrew (fun y hy => by have := (hb.at_ y hy).2.1; simp; omega))
    all_goals (have r0 : w'.cell? ⟨w.heap.size, 0, none⟩ = some (.int .i64 p) := (hg1 _ _ (by omega) (by simp <;> omega)).trans q0)
    all_goals (have r1 : w'.cell? ⟨w.heap.size, 1, none⟩ = some (.slice a bs.length cap) := (hg1 _ _ (by omega) (by simp <;> omega)).trans q1)
    all_goals (have r2 : w'.cell? ⟨w.heap.size + 1, 0, none⟩ = some (.int .i64 x.frm) := (hg1 _ _ (by omega) (by simp <;> omega)).trans q2)
    all_goals (have r3 : w'.cell? ⟨w.heap.size + 1, 1, none⟩ = some (.int .i64 x.tow) := (hg1 _ _ (by omega) (by simp <;> omega)).trans q3)
    all_goals (have r4 : w'.cell? ⟨w.heap.size + 1, 2, none⟩ = some (.int .i64 x.most) := (hg1 _ _ (by omega) (by simp <;> omega)).trans q4)
    all_goals (have r5 : w'.cell? ⟨w.heap.size + 1, 3, none⟩ = some (.int .i64 x.bid) := (hg1 _ _ (by omega) (by simp <;> omega)).trans q5)
    all_goals try (go_step; refine hK _ _ _ _ (by simp [Act.put, *]; done) (SL.Chg.refl _ _) rfl rfl (by simp))
    · go_step
      refine (gcopiedB_any _ _ _ _ _ hbw (by omega)).mono ?_
      rintro e w2 ⟨v, rfl, ho2, hb2⟩
      exact hK _ v w2 _ (by simp [Act.put, *]) (.of_below hb2) (SL.row_base ho2 hsz) rfl (SL.row_bounds ho2)
    · go_step
      refine hK _ _ _ _ (by simp [Act.put, *]; done) (.alloc _ _ _) (World.ownsRow_lit w' _ 1 hsz (by decide) rfl) rfl (by simp [Value.ownBlock])
    · obtain ⟨⟨u1, u2⟩, u3, u4⟩ := hu
      obtain ⟨sa, c, hsl, _⟩ := owns_slice u3
      refine wp_app elemB _ _ rfl u1 rfl hsl (RowAt.of_owns (hsl ▸ u3)) rfl (by simp [Value.oneCell']) (by unfold maxLen; omega) (by omega) hsz ?_
      intro v' w2 ho hg hb _ hat
      refine hK _ v' w2 _ rfl ?_ ho rfl ?_
      · exact .of_own hg (by rw [u2]; simp)
      · rw [u2]; exact SL.app_bounds u1 ho hat
    · obtain ⟨⟨u1, _⟩, u2, u3⟩ := hu
      obtain ⟨sa, c, hsl, _⟩ := owns_slice u2
      go_step
      refine hK _ _ _ _ (by simp [Act.put, *]; done) (.refl _ _) _ rfl (hsl ▸ u2) rfl ?_
      rw [u3]; simp [hsl]; exact fun k h => .inl h
    · obtain ⟨y, u1, u2, u3⟩ := hu
      obtain ⟨sa, c, hsl, _⟩ := owns_slice u2
      subst hsl
      rw [Ebs.out] at u2
      have hbx : BdsAt w' sa (bs.length + 1) c (bs ++ [x]) := .of_owns u2 (by simp; omega)
      go_step
      refine (gchecked_any _ _ _ _ _ _ hbx).mono ?_
      rintro e w2 ⟨rfl, hb2⟩
      rw [if_neg h1]
      exact hK _ (.tuple #[.agg #[.int .i64 0, .slice none 0 0], .int .i64 (chk p (bs ++ [x]))]) w2 _ (by simp [Act.put, *]; done) (.of_below hb2) rfl rfl (by simp)
    · obtain ⟨⟨u1, _⟩, u2, u4, u5⟩ := hu
      have c0 := (SL.cells_of u4).1 0
      have c1 := (SL.cells_of u4).1 1
      have f0 := (SL.cells_of u4).2
      simp at c0 c1
      go_step
      refine hK _ undef _ _ (by simp [Act.put, *]; done) (.trans (.setCell _ (by simp [u5]) _) (.setCell _ (by simp [u5]) _)) u2 (SL.heap_set (SL.heap_set u4 _) _) rfl ?_
      rw [u5]; simp
  · intro us w' Fs hG hu hbd hd
    simp [SL.frame, SL.put', SL.Used, SL.Seen, SL.pu, SL.row, SL.box, SL.rowIn, SL.boxIn, SL.boxAt, SL.boxAtIn, Bd.v, Bd.cs, SL.rowSee, SL.puSee] at hu ⊢
    obtain ⟨⟨u4, hh, hF⟩, u5, _⟩ := hu
    have c0 := (SL.cells_of hh).1 0
    have c1 := (SL.cells_of hh).1 1
    simp at c0 c1
    simp only [u4, u5]
    go_wp2
    refine bodyPost_ret (v := .tuple #[.agg #[.int .i64 0, .slice none 0 0], .int .i64 (chk p (bs ++ [x]))]) (by simp [results, Try.results42, go_sem, *]) rfl ⟨rfl, ?_⟩
    have z1 := hb1.size
    simp only [World.size_alloc] at z1
    refine Below.trans ?_ (hG.belowF (B := w.heap.size) (by omega) (by simp; omega))
    exact ((((Below.refl _ w).alloc (Nat.le_refl _) _).alloc (by simp) _).alloc (by simp; omega) _).trans (hb1.mono (by simp; omega))

def withE (p : Int) (bs : List Bd) (x : Bd) : Int := if chk p bs = 0 then chk p (bs ++ [x]) else chk p bs
def withL (p : Int) (bs : List Bd) (x : Bd) : List Bd := if withE p bs x = 0 then bs ++ [x] else []

theorem gWith_any (p : Int) (a : Option Addr) (n cap : Nat) (bs : List Bd) (x : Bd) (w : World) (hb : BdsAt w a n cap bs) :
    Calls Try.prog 42 #[.agg #[.int .i64 p, .slice a n cap], .agg #[.int .i64 x.frm, .int .i64 x.tow, .int .i64 x.most, .int .i64 x.bid]] w fun e w' => ∃ v, e = .returned (.tuple #[.agg #[.int .i64 (if withE p bs x = 0 then p else 0), v], .int .i64 (withE p bs x)]) ∧ w'.ownsRow w.heap.size 39 4 v (withL p bs x).length (bcs (withL p bs x)) ∧ Below w.heap.size w w' := by
  by_cases h0 : chk p bs = 0
  · by_cases h1 : chk p (bs ++ [x]) = 0
    · refine (gWith_ok p a n cap bs x w hb h0 h1).mono ?_
      rintro e w' ⟨v, rfl, ho, hb'⟩
      exact ⟨v, by simp [withE, h0, h1], by simpa [withL, withE, h0, h1] using ho, hb'⟩
    · refine (gWith_new p a n cap bs x w hb h0 h1).mono ?_
      rintro e w' ⟨rfl, hb'⟩
      exact ⟨_, by simp [withE, h0, h1]; rfl, by simp [withL, withE, h0, h1]; exact World.ownsRow_nil _ _ _ _, hb'⟩
  · have h0' : (chk p bs == 0) = false := by simpa using h0
    have hbx := hb.below (w' := ((w.alloc (Obj.cells #[.int .i64 p, .slice a n cap] 24)).alloc (Obj.cells #[.int .i64 x.frm, .int .i64 x.tow, .int .i64 x.most, .int .i64 x.bid] 39)).alloc (Obj.cells #[.int .i64 0, .slice none 0 0] 24)) (by ((repeat (first | assumption | exact Below.refl _ _ | refine Below.alloc ?_ ?_ _ | refine Below.setCell ?_ ?_ _ | refine Below.drew ?_ | refine belowN ?_ | refine Below.up ?_ (by assumption) ?_)) <;> (first | assumption | omega | (simp; done) | (simp; omega))))
    have hC := gcheck_any p a n cap bs _ hbx
    have hE : withE p bs x = chk p bs := by simp [withE, h0]
    have hL : withL p bs x = [] := by simp [withL, hE, h0]
    rw [hL, hE, if_neg h0]
    clear hL hE
    generalize chk p bs = c at *
    go_enter Try.func42, Try.ntmps42
    go_wp2_with (go_at_call 63; refine (hC).mono ?_; rintro e w1 ⟨rfl, hb1⟩; obtain ⟨hc1, hf1⟩ := bcell hb1; have hz1a := lt_size hb1 (b := w.heap.size) (by first | assumption | omega | (simp; done) | (simp; omega)); have hz1b := lt_size hb1 (b := w.heap.size+1) (by first | assumption | omega | (simp; done) | (simp; omega)); have hz1c := lt_size hb1 (b := w.heap.size+1+1) (by first | assumption | omega | (simp; done) | (simp; omega)))
    have hz1 := hb1.size
    simp only [World.size_alloc] at hz1
    refine bodyPost_ret (v := .tuple #[.agg #[.int .i64 0, .slice none 0 0], .int .i64 c]) (by simp [results, Try.results42, go_sem, *]) rfl ⟨_, rfl, World.ownsRow_nil _ _ _ _, ?_⟩
    have hB3 : Below w.heap.size w (((w.alloc (Obj.cells #[.int .i64 p, .slice a n cap] 24)).alloc (Obj.cells #[.int .i64 x.frm, .int .i64 x.tow, .int .i64 x.most, .int .i64 x.bid] 39)).alloc (Obj.cells #[.int .i64 0, .slice none 0 0] 24)) := by ((repeat (first | assumption | exact Below.refl _ _ | refine Below.alloc ?_ ?_ _ | refine Below.setCell ?_ ?_ _ | refine Below.drew ?_ | refine belowN ?_ | refine Below.up ?_ (by assumption) ?_)) <;> (first | assumption | omega | (simp; done) | (simp; omega)))
    exact (hB3.trans (hb1.mono (by simp; omega))).setCell (by simp; omega) _ |>.setCell (by simp; omega) _
end Go.Proofs.Ytlkcfohmoeadbaa

/-
  Gauge, walked: Fixed.
-/
namespace Go.Proofs.Ytlkcfohmoeadbaa
open Go.RowKit Go.Shelf
set_option maxHeartbeats 1000000
set_option maxRecDepth 100000

def fixN (p : Int) (bs : List Bd) (x y : Int) : Int := if askE p bs x y = 0 ∧ fxB p bs x y = true then gD p bs x y else 0
def fixB (p : Int) (bs : List Bd) (x y : Int) : Bool := decide (askE p bs x y = 0) && fxB p bs x y

theorem gFixed1_any (p : Int) (a : Option Addr) (n cap : Nat) (bs : List Bd) (x y : Int) (SB BA BB NB IB : Nat) (w1 : World) (hs : Sys p bs) (hb : BdsAt w1 a n cap bs) (hxy : both p x y = true)
    (c0 : w1.cell? ⟨SB, 0, none⟩ = some (.int .i64 p)) (c1 : w1.cell? ⟨SB, 1, none⟩ = some (.slice a n cap)) (ca : w1.cell? ⟨BA, 0, none⟩ = some (.int .i64 x)) (cb : w1.cell? ⟨BB, 0, none⟩ = some (.int .i64 y))
    (hN : w1.heap[NB]? = some (.cells #[.int .i64 0] 3 (0, 0))) (hI : w1.heap[IB]? = some (.cells #[.bool false] 4 (0, 0))) (hne : NB ≠ IB) :
    Calls Try.prog 94 #[.pointer (some ⟨SB, 0, none⟩), .pointer (some ⟨BA, 0, none⟩), .pointer (some ⟨BB, 0, none⟩), .pointer (some ⟨NB, 0, none⟩), .pointer (some ⟨IB, 0, none⟩)] w1 fun e w' => e = .returned (.tuple #[]) ∧ SL.Chg [NB, IB] w1 w' ∧
      w'.heap[NB]? = some (.cells #[.int .i64 (if fxB p bs x y then gD p bs x y else 0)] 3 (0, 0)) ∧ w'.heap[IB]? = some (.cells #[.bool (fxB p bs x y)] 4 (0, 0)) := by
  obtain ⟨⟨h1, h2⟩, h3, h4⟩ := both_in hxy
  have hNl : NB < w1.heap.size := (Array.getElem?_eq_some_iff.1 hN).1
  have hIl : IB < w1.heap.size := (Array.getElem?_eq_some_iff.1 hI).1
  have hG := gfixed_any p a n cap bs x y w1 hb hs h1 h2 h3 h4
  generalize (if fxB p bs x y then gD p bs x y else 0) = u at *
  generalize fxB p bs x y = f at *
  go_enter Try.func94, Try.ntmps94
  go_wp2_with (go_at_call 89; refine hG.mono ?_; rintro e w2 ⟨rfl, hb2⟩
               have hN2 := (hb2.block _ hNl).trans hN
               have hI2 := (hb2.block _ hIl).trans hI
               have cn := (SL.cells_of hN2).1 0
               have fn := (SL.cells_of hN2).2 0
               have ci := (SL.cells_of hI2).1 0
               have fi := (SL.cells_of hI2).2 0
               simp at cn ci)
  go_end0
  refine ⟨rfl, (SL.Chg.of_below hb2).trans ((SL.Chg.setCell _ (by simp) _).trans (.setCell _ (by simp) _)), ?_, ?_⟩
  · rw [Below.heap_setCell _ _ _ _ (by simpa using hne)]; exact SL.heap_set hN2 _
  · exact SL.heap_set ((Below.heap_setCell _ _ _ _ (by simpa using hne.symm)).trans hI2) _

theorem gFixed_any (p : Int) (a : Option Addr) (n cap : Nat) (bs : List Bd) (x y : Int) (w : World) (hb : BdsAt w a n cap bs) :
    Calls Try.prog 40 #[.agg #[.int .i64 p, .slice a n cap], .int .i64 x, .int .i64 y] w fun e w' => e = .returned (.tuple #[.int .i64 (fixN p bs x y), .bool (fixB p bs x y), .int .i64 (askE p bs x y)]) ∧ Below w.heap.size w w' := by
  have hmf := makeFunc_run
  generalize hw5 : ((((w.alloc (Obj.cells #[.int .i64 p, .slice a n cap] 24)).alloc (Obj.cells #[.int .i64 x] 3)).alloc (Obj.cells #[.int .i64 y] 3)).alloc (Obj.cells #[.int .i64 0] 3)).alloc (Obj.cells #[.bool false] 4) = w5
  have hB5 : Below w.heap.size w w5 := by rw [← hw5]; ((repeat (first | assumption | exact Below.refl _ _ | refine Below.alloc ?_ ?_ _ | refine Below.setCell ?_ ?_ _ | refine Below.drew ?_ | refine belowN ?_ | refine Below.up ?_ (by assumption) ?_)) <;> (first | assumption | omega | (simp; done) | (simp; omega)))
  have z5 : w5.heap.size = w.heap.size + 5 := by rw [← hw5]; simp
  have c0 : w5.cell? ⟨w.heap.size, 0, none⟩ = some (.int .i64 p) := by rw [← hw5]; simp [go_sem]
  have c1 : w5.cell? ⟨w.heap.size, 1, none⟩ = some (.slice a n cap) := by rw [← hw5]; simp [go_sem]
  have c2 : w5.cell? ⟨w.heap.size + 1, 0, none⟩ = some (.int .i64 x) := by rw [← hw5]; simp [go_sem]
  have c3 : w5.cell? ⟨w.heap.size + 1 + 1, 0, none⟩ = some (.int .i64 y) := by rw [← hw5]; simp [go_sem]
  have h3 : w5.heap[w.heap.size + 3]? = some (.cells #[.int .i64 0] 3 (0, 0)) := by
    rw [← hw5, Below.heap_alloc _ _ _ (by simp)]
    have h := World.alloc_heap_new (((w.alloc (Obj.cells #[.int .i64 p, .slice a n cap] 24)).alloc (Obj.cells #[.int .i64 x] 3)).alloc (Obj.cells #[.int .i64 y] 3)) (Obj.cells #[.int .i64 0] 3)
    simp only [World.size_alloc] at h
    exact h
  have h4 : w5.heap[w.heap.size + 4]? = some (.cells #[.bool false] 4 (0, 0)) := by
    rw [← hw5]
    have h := World.alloc_heap_new ((((w.alloc (Obj.cells #[.int .i64 p, .slice a n cap] 24)).alloc (Obj.cells #[.int .i64 x] 3)).alloc (Obj.cells #[.int .i64 y] 3)).alloc (Obj.cells #[.int .i64 0] 3)) (Obj.cells #[.bool false] 4)
    simp only [World.size_alloc] at h
    exact h
  have hA := gasked_any p a n cap bs x y 94 #[.pointer (some ⟨w.heap.size, 0, none⟩), .pointer (some ⟨w.heap.size + 1, 0, none⟩), .pointer (some ⟨w.heap.size + 1 + 1, 0, none⟩), .pointer (some ⟨w.heap.size + 1 + 1 + 1, 0, none⟩), .pointer (some ⟨w.heap.size + 1 + 1 + 1 + 1, 0, none⟩)] w5 (hb.below hB5)
    [w.heap.size + 3, w.heap.size + 4] (by simp; omega) (fun w' => w'.heap[w.heap.size + 3]? = some (.cells #[.int .i64 (if fxB p bs x y then gD p bs x y else 0)] 3 (0, 0)) ∧ w'.heap[w.heap.size + 4]? = some (.cells #[.bool (fxB p bs x y)] 4 (0, 0)))
    (fun w1 w2 h hc2 => ⟨heap_chg h.1 hc2 (by simp <;> omega), heap_chg h.2 hc2 (by simp <;> omega)⟩) (enters_of Try.func94 (by kernel_rfl) rfl)
    (fun h0 w2 hb2 _ => by
      obtain ⟨q0, q1, q2⟩ := askE_zero h0
      have hc := (bcell hb2).1
      exact gFixed1_any p a n cap bs x y _ _ _ _ _ w2 (Sys.of_chk q0) ((hb.below hB5).below hb2) q1 ((hc _ _ (by omega)).trans c0) ((hc _ _ (by omega)).trans c1) ((hc _ _ (by omega)).trans c2) ((hc _ _ (by omega)).trans c3) ((hb2.block _ (by omega)).trans h3) ((hb2.block _ (by omega)).trans h4) (by omega))
  have hcell : ∀ w6 : World, SL.Chg [w.heap.size + 3, w.heap.size + 4] w5 w6 → (askE p bs x y = 0 → w6.heap[w.heap.size + 3]? = some (.cells #[.int .i64 (if fxB p bs x y then gD p bs x y else 0)] 3 (0, 0)) ∧ w6.heap[w.heap.size + 4]? = some (.cells #[.bool (fxB p bs x y)] 4 (0, 0))) → (askE p bs x y ≠ 0 → Below w5.heap.size w5 w6) →
      w6.cell? ⟨w.heap.size + 3, 0, none⟩ = some (.int .i64 (fixN p bs x y)) ∧ w6.cell? ⟨w.heap.size + 4, 0, none⟩ = some (.bool (fixB p bs x y)) ∧ Below w.heap.size w w6 := fun w6 hC hS hnS => by
    have hB6 : Below w.heap.size w w6 := hB5.trans (hC.belowE (by omega) (by simp))
    by_cases h0 : askE p bs x y = 0
    · have e1 := (SL.cells_of (hS h0).1).1 0
      have e2 := (SL.cells_of (hS h0).2).1 0
      simp at e1 e2
      exact ⟨by simpa [fixN, h0] using e1, by simpa [fixB, h0] using e2, hB6⟩
    · have e1 := (SL.cells_of (((hnS h0).block _ (by omega)).trans h3)).1 0
      have e2 := (SL.cells_of (((hnS h0).block _ (by omega)).trans h4)).1 0
      simp at e1 e2
      exact ⟨by simpa [fixN, h0] using e1, by simpa [fixB, h0] using e2, hB6⟩
  subst hw5
  generalize fixN p bs x y = un at *
  generalize fixB p bs x y = ub at *
  generalize askE p bs x y = ue at *
  go_enter Try.func40, Try.ntmps40
  go_wp2_with fail
  refine hA.mono ?_
  rintro e w6 ⟨rfl, hC, hS, hnS⟩
  obtain ⟨e1, e2, hB6⟩ := hcell w6 hC hS hnS
  clear hA hcell hC hS hnS
  go_wp2_with fail
  go_quiet (fail)
  go_wp2
  refine bodyPost_ret (v := .tuple #[.int .i64 un, .bool ub, .int .i64 ue]) (by simp [results, Try.results40, go_sem, *]) rfl ⟨rfl, belowN hB6⟩
end Go.Proofs.Ytlkcfohmoeadbaa

/-
  DERIVED: THE SHELF's CONTRACTS AT THIS DUMP, IN PLAIN WORDS (tools/lay-plain.mjs out of 'YtlkcfohmoeadbaaShelf.lean', which tools/lay-shelf.mjs wrote): THE SAME DECLARATIONS UNDER THE SAME NAMES: 'import', 'namespace', 'open', 'def', 'theorem' AND NOTHING ELSE: no command of the shelf's: FOR A HAND-IN. Each laying: the table of numbers ('.._ren') and one theorem, a field a fact of the dump's own or the kernel's comparison; each contract: ONE APPLICATION.
-/
namespace Go.Proofs
open Go.Shelf
def Try.keysA_ren : Go.Shelf.Ren := ⟨fun | 7 => 133 | 10 => 138 | n => n, fun | 23 => 134 | 26 => 3 | 3 => 4 | 28 => 137 | 0 => 0 | 27 => 136 | 33 => 140 | 4 => 4 | n => n, fun | n => n⟩
theorem Try.keysA : Go.Proofs.SlLaysZI.n7 Try.prog Try.keysA_ren := {
  mixed := by kernel_rfl
  f7 := ⟨Try.f133.name, by decide, Try.func133.trans (congrArg some (by kernel_rfl))⟩
  f10 := ⟨Try.f138.name, by decide, Try.func138.trans (congrArg some (by kernel_rfl))⟩
  t0 := Try.underlying0
  a0 := Try.isAgg0
  z0 := Try.sizeOf0
  v0 := Try.zeroValue0
  t4 := Try.underlying4
  a4 := Try.isAgg4
  z4 := Try.sizeOf4
  v4 := Try.zeroValue4
  t23 := Try.underlying134
  a23 := Try.isAgg134
  z23 := Try.sizeOf134
  v23 := Try.zeroValue134
  t26 := Try.underlying3
  a26 := Try.isAgg3
  z26 := Try.sizeOf3
  v26 := Try.zeroValue3
  t27 := Try.underlying136
  a27 := Try.isAgg136
  z27 := Try.sizeOf136
  v27 := Try.zeroValue136
  t28 := Try.underlying137
  a28 := Try.isAgg137
  z28 := Try.sizeOf137
  v28 := Try.zeroValue137
  t33 := Try.underlying140
  a33 := Try.isAgg140
  z33 := Try.sizeOf140
  v33 := Try.zeroValue140 }
def Try.sortedA_ren : Go.Shelf.Ren := ⟨fun | 6 => 132 | 8 => 136 | 9 => 137 | 11 => 139 | 13 => 141 | 12 => 140 | 23 => 151 | 24 => 152 | 14 => 142 | 15 => 143 | 16 => 144 | 17 => 145 | 18 => 146 | 19 => 147 | 20 => 148 | 21 => 149 | 22 => 150 | 25 => 153 | 26 => 154 | 27 => 155 | 28 => 156 | 29 => 157 | 30 => 158 | 31 => 159 | n => n, fun | 26 => 3 | 28 => 137 | 24 => 27 | 0 => 0 | 3 => 3 | 37 => 144 | 48 => 153 | 50 => 155 | 4 => 4 | 40 => 147 | 39 => 146 | 45 => 82 | 5 => 5 | 9 => 9 | 51 => 156 | 55 => 160 | 57 => 162 | 58 => 163 | 33 => 140 | n => n, fun | n => n⟩
theorem Try.sortedA : Go.Proofs.SlLaysZI.n6 Try.prog Try.sortedA_ren := {
  mixed := by kernel_rfl
  f6 := ⟨Try.f132.name, by decide, Try.func132.trans (congrArg some (by kernel_rfl))⟩
  f8 := ⟨Try.f136.name, by decide, Try.func136.trans (congrArg some (by kernel_rfl))⟩
  f11 := ⟨Try.f139.name, by decide, Try.func139.trans (congrArg some (by kernel_rfl))⟩
  t0 := Try.underlying0
  a0 := Try.isAgg0
  z0 := Try.sizeOf0
  v0 := Try.zeroValue0
  t24 := Try.underlying27
  a24 := Try.isAgg27
  z24 := Try.sizeOf27
  v24 := Try.zeroValue27
  t26 := Try.underlying3
  a26 := Try.isAgg3
  z26 := Try.sizeOf3
  v26 := Try.zeroValue3
  t28 := Try.underlying137
  a28 := Try.isAgg137
  z28 := Try.sizeOf137
  v28 := Try.zeroValue137
  i26 := by kernel_rfl }
def Try.sortA_ren : Go.Shelf.Ren := ⟨fun | 5 => 137 | 8 => 141 | 7 => 140 | 19 => 151 | 20 => 152 | 10 => 142 | 11 => 143 | 12 => 144 | 13 => 145 | 14 => 146 | 15 => 147 | 16 => 148 | 17 => 149 | 18 => 150 | 30 => 153 | 31 => 154 | 32 => 155 | 33 => 156 | 34 => 157 | 35 => 158 | 40 => 159 | n => n, fun | 23 => 27 | 25 => 3 | 3 => 3 | 32 => 144 | 22 => 27 | 0 => 0 | 44 => 153 | 46 => 155 | 4 => 4 | 36 => 147 | 35 => 146 | 41 => 82 | 5 => 5 | 9 => 9 | 53 => 156 | 57 => 160 | 63 => 162 | 64 => 163 | n => n, fun | n => n⟩
theorem Try.sortA : Go.Proofs.SlLaysM.n5 Try.prog Try.sortA_ren := {
  mixed := by kernel_rfl
  f5 := ⟨Try.f137.name, by decide, Try.func137.trans (congrArg some (by kernel_rfl))⟩
  f7 := ⟨Try.f140.name, by decide, Try.func140.trans (congrArg some (by kernel_rfl))⟩
  f8 := Try.func141.trans (congrArg some (by kernel_rfl))
  f10 := ⟨Try.f142.name, by decide, Try.func142.trans (congrArg some (by kernel_rfl))⟩
  f11 := ⟨Try.f143.name, by decide, Try.func143.trans (congrArg some (by kernel_rfl))⟩
  f12 := ⟨Try.f144.name, by decide, Try.func144.trans (congrArg some (by kernel_rfl))⟩
  f13 := ⟨Try.f145.name, by decide, Try.func145.trans (congrArg some (by kernel_rfl))⟩
  f14 := ⟨Try.f146.name, by decide, Try.func146.trans (congrArg some (by kernel_rfl))⟩
  f15 := ⟨Try.f147.name, by decide, Try.func147.trans (congrArg some (by kernel_rfl))⟩
  f16 := ⟨Try.f148.name, by decide, Try.func148.trans (congrArg some (by kernel_rfl))⟩
  f17 := ⟨Try.f149.name, by decide, Try.func149.trans (congrArg some (by kernel_rfl))⟩
  f18 := ⟨Try.f150.name, by decide, Try.func150.trans (congrArg some (by kernel_rfl))⟩
  f19 := Try.func151.trans (congrArg some (by kernel_rfl))
  f20 := Try.func152.trans (congrArg some (by kernel_rfl))
  f30 := ⟨Try.f153.name, by decide, Try.func153.trans (congrArg some (by kernel_rfl))⟩
  f31 := Try.func154.trans (congrArg some (by kernel_rfl))
  f32 := Try.func155.trans (congrArg some (by kernel_rfl))
  f33 := ⟨Try.f156.name, by decide, Try.func156.trans (congrArg some (by kernel_rfl))⟩
  f34 := ⟨Try.f157.name, by decide, Try.func157.trans (congrArg some (by kernel_rfl))⟩
  f35 := ⟨Try.f158.name, by decide, Try.func158.trans (congrArg some (by kernel_rfl))⟩
  f40 := ⟨Try.f159.name, by decide, Try.func159.trans (congrArg some (by kernel_rfl))⟩
  t0 := Try.underlying0
  a0 := Try.isAgg0
  z0 := Try.sizeOf0
  v0 := Try.zeroValue0
  t3 := Try.underlying3
  a3 := Try.isAgg3
  z3 := Try.sizeOf3
  v3 := Try.zeroValue3
  t4 := Try.underlying4
  a4 := Try.isAgg4
  z4 := Try.sizeOf4
  v4 := Try.zeroValue4
  t5 := Try.underlying5
  a5 := Try.isAgg5
  z5 := Try.sizeOf5
  v5 := Try.zeroValue5
  t9 := Try.underlying9
  a9 := Try.isAgg9
  z9 := Try.sizeOf9
  v9 := Try.zeroValue9
  t22 := Try.underlying27
  a22 := Try.isAgg27
  z22 := Try.sizeOf27
  v22 := Try.zeroValue27
  t23 := Try.underlying27
  a23 := Try.isAgg27
  z23 := Try.sizeOf27
  v23 := Try.zeroValue27
  t25 := Try.underlying3
  a25 := Try.isAgg3
  z25 := Try.sizeOf3
  v25 := Try.zeroValue3
  t32 := Try.underlying144
  a32 := Try.isAgg144
  z32 := Try.sizeOf144
  v32 := Try.zeroValue144
  t35 := Try.underlying146
  a35 := Try.isAgg146
  z35 := Try.sizeOf146
  v35 := Try.zeroValue146
  t36 := Try.underlying147
  a36 := Try.isAgg147
  z36 := Try.sizeOf147
  v36 := Try.zeroValue147
  t41 := Try.underlying82
  a41 := Try.isAgg82
  z41 := Try.sizeOf82
  v41 := Try.zeroValue82
  t44 := Try.underlying153
  a44 := Try.isAgg153
  z44 := Try.sizeOf153
  v44 := Try.zeroValue153
  t46 := Try.underlying155
  a46 := Try.isAgg155
  z46 := Try.sizeOf155
  v46 := Try.zeroValue155
  t53 := Try.underlying156
  a53 := Try.isAgg156
  z53 := Try.sizeOf156
  v53 := Try.zeroValue156
  t57 := Try.underlying160
  a57 := Try.isAgg160
  z57 := Try.sizeOf160
  v57 := Try.zeroValue160
  t63 := Try.underlying162
  a63 := Try.isAgg162
  z63 := Try.sizeOf162
  v63 := Try.zeroValue162
  t64 := Try.underlying163
  a64 := Try.isAgg163
  z64 := Try.sizeOf163
  v64 := Try.zeroValue163 }
def Try.reverseA_ren : Go.Shelf.Ren := ⟨fun | 112 => 113 | n => n, fun | 28 => 27 | 3 => 3 | 4 => 4 | 0 => 0 | n => n, fun | n => n⟩
theorem Try.reverseA : Go.Proofs.Lays.n112 Try.prog Try.reverseA_ren := {
  mixed := by kernel_rfl
  f112 := Try.func113.trans (congrArg some (by kernel_rfl))
  t0 := Try.underlying0
  a0 := Try.isAgg0
  z0 := Try.sizeOf0
  v0 := Try.zeroValue0
  t3 := Try.underlying3
  a3 := Try.isAgg3
  z3 := Try.sizeOf3
  v3 := Try.zeroValue3
  t4 := Try.underlying4
  a4 := Try.isAgg4
  z4 := Try.sizeOf4
  v4 := Try.zeroValue4
  t28 := Try.underlying27
  a28 := Try.isAgg27
  z28 := Try.sizeOf27
  v28 := Try.zeroValue27 }
end Go.Proofs
