/-
  The reference of layer 1, walked: With, whatever comes; Changed.
-/
import Derived.Test.YtlkcfohmoeadbaaGreatPk04
import Derived.Test.YtlkcfohmoeadbaaGreatPk24
import Derived.Test.YtlkcfohmoeadbaaGreatPk25
import Derived.Test.YtlkcfohmoeadbaaGreatPk15
set_option linter.unusedSimpArgs false
set_option linter.unusedVariables false
set_option linter.unnecessarySimpa false
namespace Go.Proofs.YtlkcfohmoeadbaaGreat
open Go.RowKit Go.Shelf
set_option maxHeartbeats 4000000
set_option maxRecDepth 100000

theorem rWith_new (p : Int) (a : Option Addr) (n cap : Nat) (bs : List Bd) (x : Bd) (w : World) (hb : BdsAt w a n cap bs) (h0 : chk p bs = 0) (h1 : chk p (bs ++ [x]) ≠ 0) :
    Calls Tryz.prog 13 #[.agg #[.int .i64 p, .slice a n cap], .agg #[.int .i64 x.frm, .int .i64 x.tow, .int .i64 x.most, .int .i64 x.bid]] w fun e w' => e = .returned (.tuple #[.agg #[.int .i64 0, .slice none 0 0], .int .i64 (chk p (bs ++ [x]))]) ∧ Below w.heap.size w w' := by
  have hs : bs.length ≤ 400 := by
    unfold chk at h0; split at h0 <;> omega
  obtain rfl := hb.len
  have h1' : (chk p (bs ++ [x]) == 0) = false := by simpa using h1
  obtain ⟨ce, hce⟩ : ∃ ce, chk p (bs ++ [x]) = ce := ⟨_, rfl⟩
  have Hce := Lib.hid hce
  go_enter Tryz.func13, Tryz.ntmps13
  go_wp2_with (go_at_call 11; refine (rcheck_any _ _ _ _ _ _ (hb.below (by ((repeat (first | assumption | exact Below.refl _ _ | refine Below.alloc ?_ ?_ _ | refine Below.setCell ?_ ?_ _ | refine Below.drew ?_ | refine belowN ?_ | refine Below.up ?_ (by assumption) ?_)) <;> (first | assumption | omega | (simp; done) | (simp; omega)))))).mono ?_; rintro e w1 ⟨rfl, hb1⟩; obtain ⟨hc1, hf1⟩ := bcell hb1; have hz1a := lt_size hb1 (b := w.heap.size) (by first | assumption | omega | (simp; done) | (simp; omega)); have hz1b := lt_size hb1 (b := w.heap.size+1) (by first | assumption | omega | (simp; done) | (simp; omega)); have hz1c := lt_size hb1 (b := w.heap.size+2) (by first | assumption | omega | (simp; done) | (simp; omega)))
  have hb1' := hb.below (w' := w1) (((((Below.refl _ w).alloc (Nat.le_refl _) _).alloc (by simp) _).alloc (by simp <;> omega) _).trans (hb1.mono (by simp <;> omega)))
  have q0 : w1.cell? ⟨w.heap.size, 0, none⟩ = some (.int .i64 p) := by simp [go_sem, *]
  have q1 : w1.cell? ⟨w.heap.size, 1, none⟩ = some (.slice a bs.length cap) := by simp [go_sem, *]
  have q2 : w1.cell? ⟨w.heap.size+1, 0, none⟩ = some (.int .i64 x.frm) := by simp [go_sem, *]
  have q3 : w1.cell? ⟨w.heap.size+1, 1, none⟩ = some (.int .i64 x.tow) := by simp [go_sem, *]
  have q4 : w1.cell? ⟨w.heap.size+1, 2, none⟩ = some (.int .i64 x.most) := by simp [go_sem, *]
  have q5 : w1.cell? ⟨w.heap.size+1, 3, none⟩ = some (.int .i64 x.bid) := by simp [go_sem, *]
  have q6 : w1.cell? ⟨w.heap.size+1+1, 0, none⟩ = some (.int .i64 0) := by simp [go_sem, *]
  have q7 : w1.cell? ⟨w.heap.size+1+1, 1, none⟩ = some (.slice none 0 0) := by simp [go_sem, *]
  have f6 : ∀ i, w1.frozen? ⟨w.heap.size+1+1, i, none⟩ = false := by intro i; simp [go_sem, *]
  clear hc1 hf1
  have hx1 : w.heap.size + 1 + 1 < w1.heap.size := by assumption
  refine SL.rule (by kernel_rfl) [] [15, 16, 17, 18, 19, 20, 21, 22, 23, 7] [
    SL.pu 15 [] (.pointer (some ⟨w.heap.size, 0, none⟩)), SL.pu 16 [0] (.int .i64 p), SL.pu 17 [] (.pointer (some ⟨w.heap.size, 1, none⟩)), SL.pu 18 [2] (.slice a bs.length cap),
    SL.row 19 [3] [] w1.heap.size 26 4 bs.length (bcs bs), SL.pu 20 [] x.v, SL.row 21 [5] [] w1.heap.size 26 4 1 x.cs, SL.row 22 [4, 6] [4] w1.heap.size 26 4 (bs.length + 1) (bcs bs ++ x.cs),
    SL.rowIn 23 [1, 7] [7] w1.heap.size 26 4 (bs.length + 1) (bcs bs ++ x.cs) (fun u => .agg #[.int .i64 p, u]),
    SL.box 7 [] [] w1.heap.size 24 #[.int .i64 0, .slice none 0 0],
    SL.boxIn 7 [8, 9] [8, 9] w1.heap.size 24 26 4 (bs.length + 1) (bcs bs ++ x.cs) (fun u => #[.int .i64 p, u])] [0, 1, 2, 3, 5, 10] (by kernel_rfl) (by kernel_rfl) (fun _ => []) (SL.none_held rfl) (by simp) ?_ ?_
  · refine ⟨?_, ?_, ?_, ?_, ?_, ?_, ?_, ?_, ?_, ?_, ?_, trivial⟩
    all_goals refine SL.ob fun us w' Fe hG hu hd hv K hK => ?_
    all_goals simp [SL.frame, SL.put', SL.Used, SL.pu, SL.row, SL.box, SL.rowIn, SL.boxIn, Bd.v, Bd.cs] at hu hK ⊢
    all_goals obtain ⟨hg1, hg2⟩ := bcell hG.below'
    all_goals (have hsz := hG.size; simp only [World.size_drew] at hsz)
    all_goals try (go_step; refine hK _ _ _ _ (by simp [Act.put, *]; done) (SL.Chg.refl _ _) rfl rfl (by simp))
    · go_step
      refine (rcopied_any _ _ _ _ _ (hb1'.below hG.below') (by omega)).mono ?_
      rintro e w2 ⟨v, rfl, ho2, hb2⟩
      exact hK _ v w2 _ (by simp [Act.put, *]) (.of_below hb2) (SL.row_base ho2 hsz) rfl (SL.row_bounds ho2)
    · go_step
      refine hK _ _ _ _ (by simp [Act.put, *]; done) (.alloc _ _ _) (World.ownsRow_lit w' _ 1 hsz (by decide) rfl) rfl (by simp [Value.ownBlock])
    · obtain ⟨⟨u1, u2⟩, u3, u4⟩ := hu
      obtain ⟨sa, c, hsl, _⟩ := owns_slice u3
      refine wp_app elemB _ _ rfl u1 rfl hsl (RowAt.of_owns (hsl ▸ u3)) rfl (by simp [Value.oneCell']) (by unfold maxLen; omega) (by omega) hsz ?_
      intro v' w2 ho hg hb _ hat
      refine hK _ v' w2 _ rfl ?_ ho rfl ?_
      · exact .of_own hg (by rw [u2]; simp)
      · rw [u2]; exact SL.app_bounds u1 ho hat
    · obtain ⟨⟨u1, _⟩, u2, u3⟩ := hu
      obtain ⟨sa, c, hsl, _⟩ := owns_slice u2
      go_step
      refine hK _ _ _ _ (by simp [Act.put, *]; done) (.refl _ _) _ rfl (hsl ▸ u2) rfl ?_
      rw [u3]; simp [hsl]; exact fun k h => .inl h
    · go_step
      refine hK _ _ _ _ (by simp [Act.put, *]; done) (.alloc _ _ _) _ rfl hsz (heap_alloc_new w' _) rfl (by simp)
    · obtain ⟨⟨u, hu1, u2, u3⟩, N, hu4, hN, u4, u5⟩ := hu
      have hNl : N < w'.heap.size := (Array.getElem?_eq_some_iff.1 u4).1
      obtain ⟨sa, c, hsl, _⟩ := owns_slice u2
      subst hsl
      have c0 := (SL.cells_of u4).1 0
      have c1 := (SL.cells_of u4).1 1
      have f0 := (SL.cells_of u4).2
      simp at c0 c1
      have hne : N ∉ (Value.slice sa (bs.length + 1) c).ownBlock.toList := by
        have := hd 9 8 (by simp [SL.boxIn]) (by simp [SL.boxIn]) (by simp) N (by rw [u5]; simp)
        rwa [u3] at this
      go_step
      refine hK _ undef _ _ (by simp [Act.put, *]; done) (.trans (.setCell _ (by simp [u5]) _) (.setCell _ (by simp [u5]) _)) N hu4 hN _ (SL.heap_set (SL.heap_set u4 _) _) (SL.row_set (SL.row_set u2 hne _) hne _) rfl ?_
      rw [u5, u3]; simp; exact fun k h => .inl (.inl h)
  · intro us w' Fs hG hu hbd hd
    simp [SL.frame, SL.put', SL.Used, SL.pu, SL.row, SL.box, SL.rowIn, SL.boxIn, Bd.v, Bd.cs] at hu ⊢
    obtain ⟨u15, u16, u17, u18, u20, N, u7, hN, y, hh, ho, hF⟩ := hu
    clear u15 u16 u17 u18 u20 hbd hd
    have ebs : bcs bs ++ [.int .i64 x.frm, .int .i64 x.tow, .int .i64 x.most, .int .i64 x.bid] = bcs (bs ++ [x]) := by rw [bcs_append]; simp [bcs, Bd.cs]
    rw [ebs] at ho
    obtain ⟨sa, c, hsl, _⟩ := owns_slice ho
    subst hsl
    have hNl : N < w'.heap.size := (Array.getElem?_eq_some_iff.1 hh).1
    have c0 := (SL.cells_of hh).1 0
    have c1 := (SL.cells_of hh).1 1
    simp at c0 c1
    have hbx : BdsAt w' sa _ c (bs ++ [x]) := .of_owns ho (by simp; omega)
    obtain ⟨hg1, hg2⟩ := bcell hG.below'
    have hz := hG.size
    have hw1 : w.heap.size + 1 + 1 < w'.heap.size := by simp at hz; omega
    simp only [u7]
    clear u7
    go_wp2_with (go_at_call 11; refine (rcheck_any _ _ _ _ _ _ hbx).mono ?_; rintro e w2 ⟨rfl, hb2⟩; obtain ⟨hc2, hf2⟩ := bcell hb2; have hz2a := lt_size hb2 (b := w.heap.size+1+1) (by first | assumption | omega | (simp; done) | (simp; omega)); have hz2b := lt_size hb2 (b := N) (by first | assumption | omega | (simp; done) | (simp; omega)))
    have hne : w.heap.size + 1 + 1 ∉ (Value.slice sa (bs.length + 1) c).ownBlock.toList := fun h => by
      have := (SL.row_bounds ho _ h).1
      omega
    have hw2 : w.heap.size + 1 + 1 < w2.heap.size := by assumption
    rw [hce] at *
    have f6' := f6
    refine bodyPost_ret (v := .tuple #[.agg #[.int .i64 0, .slice none 0 0], .int .i64 ce]) (by simp [results, Tryz.results13, go_sem, *]) rfl ⟨rfl, ?_⟩
    · refine Below.setCell (Below.setCell ?_ (by simp; omega) _) (by simp; omega) _
      have h1 := hb1.size
      simp at h1 hz
      exact ((((((Below.refl _ w).alloc (Nat.le_refl _) _).alloc (by simp) _).alloc (by simp; omega) _).trans (hb1.mono (by simp; omega))).trans (hG.below'.mono (by omega))).trans (hb2.mono (by omega))

theorem rWith_any (p : Int) (a : Option Addr) (n cap : Nat) (bs : List Bd) (x : Bd) (w : World) (hb : BdsAt w a n cap bs) :
    Calls Tryz.prog 13 #[.agg #[.int .i64 p, .slice a n cap], .agg #[.int .i64 x.frm, .int .i64 x.tow, .int .i64 x.most, .int .i64 x.bid]] w fun e w' => ∃ v, e = .returned (.tuple #[.agg #[.int .i64 (if withE p bs x = 0 then p else 0), v], .int .i64 (withE p bs x)]) ∧ w'.ownsRow w.heap.size 26 4 v (withL p bs x).length (bcs (withL p bs x)) ∧ Below w.heap.size w w' := by
  by_cases h0 : chk p bs = 0
  · by_cases h1 : chk p (bs ++ [x]) = 0
    · refine (rWith_ok p a n cap bs x w hb h0 h1).mono ?_
      rintro e w' ⟨v, rfl, ho, hb'⟩
      exact ⟨v, by simp [withE, h0, h1], by simpa [withL, withE, h0, h1] using ho, hb'⟩
    · refine (rWith_new p a n cap bs x w hb h0 h1).mono ?_
      rintro e w' ⟨rfl, hb'⟩
      exact ⟨_, by simp [withE, h0, h1]; rfl, by simp [withL, withE, h0, h1]; exact World.ownsRow_nil _ _ _ _, hb'⟩
  · have h0' : (chk p bs == 0) = false := by simpa using h0
    have hbx := hb.below (w' := ((w.alloc (Obj.cells #[.int .i64 p, .slice a n cap] 24)).alloc (Obj.cells #[.int .i64 x.frm, .int .i64 x.tow, .int .i64 x.most, .int .i64 x.bid] 26)).alloc (Obj.cells #[.int .i64 0, .slice none 0 0] 24)) (by ((repeat (first | assumption | exact Below.refl _ _ | refine Below.alloc ?_ ?_ _ | refine Below.setCell ?_ ?_ _ | refine Below.drew ?_ | refine belowN ?_ | refine Below.up ?_ (by assumption) ?_)) <;> (first | assumption | omega | (simp; done) | (simp; omega))))
    have hC := rcheck_any p a n cap bs _ hbx
    have hE : withE p bs x = chk p bs := by simp [withE, h0]
    have hL : withL p bs x = [] := by simp [withL, hE, h0]
    rw [hL, hE, if_neg h0]
    clear hL hE
    generalize chk p bs = c at *
    go_enter Tryz.func13, Tryz.ntmps13
    go_wp2_with (go_at_call 11; refine (hC).mono ?_; rintro e w1 ⟨rfl, hb1⟩; obtain ⟨hc1, hf1⟩ := bcell hb1; have hz1a := lt_size hb1 (b := w.heap.size) (by first | assumption | omega | (simp; done) | (simp; omega)); have hz1b := lt_size hb1 (b := w.heap.size+1) (by first | assumption | omega | (simp; done) | (simp; omega)); have hz1c := lt_size hb1 (b := w.heap.size+1+1) (by first | assumption | omega | (simp; done) | (simp; omega)))
    have hz1 := hb1.size
    simp only [World.size_alloc] at hz1
    refine bodyPost_ret (v := .tuple #[.agg #[.int .i64 0, .slice none 0 0], .int .i64 c]) (by simp [results, Tryz.results13, go_sem, *]) rfl ⟨_, rfl, World.ownsRow_nil _ _ _ _, ?_⟩
    have hB3 : Below w.heap.size w (((w.alloc (Obj.cells #[.int .i64 p, .slice a n cap] 24)).alloc (Obj.cells #[.int .i64 x.frm, .int .i64 x.tow, .int .i64 x.most, .int .i64 x.bid] 26)).alloc (Obj.cells #[.int .i64 0, .slice none 0 0] 24)) := by ((repeat (first | assumption | exact Below.refl _ _ | refine Below.alloc ?_ ?_ _ | refine Below.setCell ?_ ?_ _ | refine Below.drew ?_ | refine belowN ?_ | refine Below.up ?_ (by assumption) ?_)) <;> (first | assumption | omega | (simp; done) | (simp; omega)))
    exact (hB3.trans (hb1.mono (by simp; omega))).setCell (by simp; omega) _ |>.setCell (by simp; omega) _
end Go.Proofs.YtlkcfohmoeadbaaGreat
