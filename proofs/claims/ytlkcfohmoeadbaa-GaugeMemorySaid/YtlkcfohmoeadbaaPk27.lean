/-
  Lemmas and walks for the laws on bounds and their sums; the parts' own heads say what each proves, for every input.
-/
import Derived.Test.YtlkcfohmoeadbaaPk04
import Derived.Test.YtlkcfohmoeadbaaPk24
import Derived.Test.YtlkcfohmoeadbaaPk25
import Derived.Test.YtlkcfohmoeadbaaPk15
import Derived.Test.YtlkcfohmoeadbaaPk26
set_option linter.unusedSimpArgs false
set_option linter.unusedVariables false
set_option linter.unnecessarySimpa false
/-
  The reference of layer 1, walked: With, whatever comes; Changed.
-/
namespace Go.Proofs.Ytlkcfohmoeadbaa
open Go.RowKit Go.Shelf
set_option maxHeartbeats 4000000
set_option maxRecDepth 100000

theorem rWith_new (p : Int) (a : Option Addr) (n cap : Nat) (bs : List Bd) (x : Bd) (w : World) (hb : BdsAt w a n cap bs) (h0 : chk p bs = 0) (h1 : chk p (bs ++ [x]) ≠ 0) :
    Calls Try.prog 45 #[.agg #[.int .i64 p, .slice a n cap], .agg #[.int .i64 x.frm, .int .i64 x.tow, .int .i64 x.most, .int .i64 x.bid]] w fun e w' => e = .returned (.tuple #[.agg #[.int .i64 0, .slice none 0 0], .int .i64 (chk p (bs ++ [x]))]) ∧ Below w.heap.size w w' := by
  have hs : bs.length ≤ 400 := by
    unfold chk at h0; split at h0 <;> omega
  obtain rfl := hb.len
  have h1' : (chk p (bs ++ [x]) == 0) = false := by simpa using h1
  obtain ⟨ce, hce⟩ : ∃ ce, chk p (bs ++ [x]) = ce := ⟨_, rfl⟩
  have Hce := Lib.hid hce
  go_enter Try.func45, Try.ntmps45
  go_wp2_with (go_at_call 65; refine (rcheck_any _ _ _ _ _ _ (hb.below (by ((repeat (first | assumption | exact Below.refl _ _ | refine Below.alloc ?_ ?_ _ | refine Below.setCell ?_ ?_ _ | refine Below.drew ?_ | refine belowN ?_ | refine Below.up ?_ (by assumption) ?_)) <;> (first | assumption | omega | (simp; done) | (simp; omega)))))).mono ?_; rintro e w1 ⟨rfl, hb1⟩; obtain ⟨hc1, hf1⟩ := bcell hb1; have hz1a := lt_size hb1 (b := w.heap.size) (by first | assumption | omega | (simp; done) | (simp; omega)); have hz1b := lt_size hb1 (b := w.heap.size+1) (by first | assumption | omega | (simp; done) | (simp; omega)); have hz1c := lt_size hb1 (b := w.heap.size+2) (by first | assumption | omega | (simp; done) | (simp; omega)))
  have hb1' := hb.below (w' := w1) (((((Below.refl _ w).alloc (Nat.le_refl _) _).alloc (by simp) _).alloc (by simp <;> omega) _).trans (hb1.mono (by simp <;> omega)))
  have q0 : w1.cell? ⟨w.heap.size, 0, none⟩ = some (.int .i64 p) := by simp [go_sem, *]
  have q1 : w1.cell? ⟨w.heap.size, 1, none⟩ = some (.slice a bs.length cap) := by simp [go_sem, *]
  have q2 : w1.cell? ⟨w.heap.size+1, 0, none⟩ = some (.int .i64 x.frm) := by simp [go_sem, *]
  have q3 : w1.cell? ⟨w.heap.size+1, 1, none⟩ = some (.int .i64 x.tow) := by simp [go_sem, *]
  have q4 : w1.cell? ⟨w.heap.size+1, 2, none⟩ = some (.int .i64 x.most) := by simp [go_sem, *]
  have q5 : w1.cell? ⟨w.heap.size+1, 3, none⟩ = some (.int .i64 x.bid) := by simp [go_sem, *]
  have q6 : w1.cell? ⟨w.heap.size+1+1, 0, none⟩ = some (.int .i64 0) := by simp [go_sem, *]
  have q7 : w1.cell? ⟨w.heap.size+1+1, 1, none⟩ = some (.slice none 0 0) := by simp [go_sem, *]
  have f6 : ∀ i, w1.frozen? ⟨w.heap.size+1+1, i, none⟩ = false := by intro i; simp [go_sem, *]
  clear hc1 hf1
  have hx1 : w.heap.size + 1 + 1 < w1.heap.size := by assumption
  refine SL.rule (by kernel_rfl) [] [15, 16, 17, 18, 19, 20, 21, 22, 23, 7] [
    SL.pu 15 [] (.pointer (some ⟨w.heap.size, 0, none⟩)), SL.pu 16 [0] (.int .i64 p), SL.pu 17 [] (.pointer (some ⟨w.heap.size, 1, none⟩)), SL.pu 18 [2] (.slice a bs.length cap),
    SL.row 19 [3] [] w1.heap.size 39 4 bs.length (bcs bs), SL.pu 20 [] x.v, SL.row 21 [5] [] w1.heap.size 39 4 1 x.cs, SL.row 22 [4, 6] [4] w1.heap.size 39 4 (bs.length + 1) (bcs bs ++ x.cs),
    SL.rowIn 23 [1, 7] [7] w1.heap.size 39 4 (bs.length + 1) (bcs bs ++ x.cs) (fun u => .agg #[.int .i64 p, u]),
    SL.box 7 [] [] w1.heap.size 24 #[.int .i64 0, .slice none 0 0],
    SL.boxIn 7 [8, 9] [8, 9] w1.heap.size 24 39 4 (bs.length + 1) (bcs bs ++ x.cs) (fun u => #[.int .i64 p, u])] [0, 1, 2, 3, 5, 10] (by kernel_rfl) (by kernel_rfl) (fun _ => []) (SL.none_held rfl) (by simp) ?_ ?_
  · refine ⟨?_, ?_, ?_, ?_, ?_, ?_, ?_, ?_, ?_, ?_, ?_, trivial⟩
    all_goals refine SL.ob fun us w' Fe hG hu hd hv K hK => ?_
    all_goals simp [SL.frame, SL.put', SL.Used, SL.pu, SL.row, SL.box, SL.rowIn, SL.boxIn, Bd.v, Bd.cs] at hu hK ⊢
    all_goals obtain ⟨hg1, hg2⟩ := bcell hG.below'
    all_goals (have hsz := hG.size; simp only [World.size_drew] at hsz)
    all_goals try (go_step; refine hK _ _ _ _ (by simp [Act.put, *]; done) (SL.Chg.refl _ _) rfl rfl (by simp))
    · go_step
      refine (rcopied_any _ _ _ _ _ (hb1'.below hG.below') (by omega)).mono ?_
      rintro e w2 ⟨v, rfl, ho2, hb2⟩
      exact hK _ v w2 _ (by simp [Act.put, *]) (.of_below hb2) (SL.row_base ho2 hsz) rfl (SL.row_bounds ho2)
    · go_step
      refine hK _ _ _ _ (by simp [Act.put, *]; done) (.alloc _ _ _) (World.ownsRow_lit w' _ 1 hsz (by decide) rfl) rfl (by simp [Value.ownBlock])
    · obtain ⟨⟨u1, u2⟩, u3, u4⟩ := hu
      obtain ⟨sa, c, hsl, _⟩ := owns_slice u3
      refine wp_app elemB _ _ rfl u1 rfl hsl (RowAt.of_owns (hsl ▸ u3)) rfl (by simp [Value.oneCell']) (by unfold maxLen; omega) (by omega) hsz ?_
      intro v' w2 ho hg hb _ hat
      refine hK _ v' w2 _ rfl ?_ ho rfl ?_
      · exact .of_own hg (by rw [u2]; simp)
      · rw [u2]; exact SL.app_bounds u1 ho hat
    · obtain ⟨⟨u1, _⟩, u2, u3⟩ := hu
      obtain ⟨sa, c, hsl, _⟩ := owns_slice u2
      go_step
      refine hK _ _ _ _ (by simp [Act.put, *]; done) (.refl _ _) _ rfl (hsl ▸ u2) rfl ?_
      rw [u3]; simp [hsl]; exact fun k h => .inl h
    · go_step
      refine hK _ _ _ _ (by simp [Act.put, *]; done) (.alloc _ _ _) _ rfl hsz (heap_alloc_new w' _) rfl (by simp)
    · obtain ⟨⟨u, hu1, u2, u3⟩, N, hu4, hN, u4, u5⟩ := hu
      have hNl : N < w'.heap.size := (Array.getElem?_eq_some_iff.1 u4).1
      obtain ⟨sa, c, hsl, _⟩ := owns_slice u2
      subst hsl
      have c0 := (SL.cells_of u4).1 0
      have c1 := (SL.cells_of u4).1 1
      have f0 := (SL.cells_of u4).2
      simp at c0 c1
      have hne : N ∉ (Value.slice sa (bs.length + 1) c).ownBlock.toList := by
        have := hd 9 8 (by simp [SL.boxIn]) (by simp [SL.boxIn]) (by simp) N (by rw [u5]; simp)
        rwa [u3] at this
      go_step
      refine hK _ undef _ _ (by simp [Act.put, *]; done) (.trans (.setCell _ (by simp [u5]) _) (.setCell _ (by simp [u5]) _)) N hu4 hN _ (SL.heap_set (SL.heap_set u4 _) _) (SL.row_set (SL.row_set u2 hne _) hne _) rfl ?_
      rw [u5, u3]; simp; exact fun k h => .inl (.inl h)
  · intro us w' Fs hG hu hbd hd
    simp [SL.frame, SL.put', SL.Used, SL.pu, SL.row, SL.box, SL.rowIn, SL.boxIn, Bd.v, Bd.cs] at hu ⊢
    obtain ⟨u15, u16, u17, u18, u20, N, u7, hN, y, hh, ho, hF⟩ := hu
    clear u15 u16 u17 u18 u20 hbd hd
    have ebs : bcs bs ++ [.int .i64 x.frm, .int .i64 x.tow, .int .i64 x.most, .int .i64 x.bid] = bcs (bs ++ [x]) := by rw [bcs_append]; simp [bcs, Bd.cs]
    rw [ebs] at ho
    obtain ⟨sa, c, hsl, _⟩ := owns_slice ho
    subst hsl
    have hNl : N < w'.heap.size := (Array.getElem?_eq_some_iff.1 hh).1
    have c0 := (SL.cells_of hh).1 0
    have c1 := (SL.cells_of hh).1 1
    simp at c0 c1
    have hbx : BdsAt w' sa _ c (bs ++ [x]) := .of_owns ho (by simp; omega)
    obtain ⟨hg1, hg2⟩ := bcell hG.below'
    have hz := hG.size
    have hw1 : w.heap.size + 1 + 1 < w'.heap.size := by simp at hz; omega
    simp only [u7]
    clear u7
    go_wp2_with (go_at_call 65; refine (rcheck_any _ _ _ _ _ _ hbx).mono ?_; rintro e w2 ⟨rfl, hb2⟩; obtain ⟨hc2, hf2⟩ := bcell hb2; have hz2a := lt_size hb2 (b := w.heap.size+1+1) (by first | assumption | omega | (simp; done) | (simp; omega)); have hz2b := lt_size hb2 (b := N) (by first | assumption | omega | (simp; done) | (simp; omega)))
    have hne : w.heap.size + 1 + 1 ∉ (Value.slice sa (bs.length + 1) c).ownBlock.toList := fun h => by
      have := (SL.row_bounds ho _ h).1
      omega
    have hw2 : w.heap.size + 1 + 1 < w2.heap.size := by assumption
    rw [hce] at *
    have f6' := f6
    refine bodyPost_ret (v := .tuple #[.agg #[.int .i64 0, .slice none 0 0], .int .i64 ce]) (by simp [results, Try.results45, go_sem, *]) rfl ⟨rfl, ?_⟩
    · refine Below.setCell (Below.setCell ?_ (by simp; omega) _) (by simp; omega) _
      have h1 := hb1.size
      simp at h1 hz
      exact ((((((Below.refl _ w).alloc (Nat.le_refl _) _).alloc (by simp) _).alloc (by simp; omega) _).trans (hb1.mono (by simp; omega))).trans (hG.below'.mono (by omega))).trans (hb2.mono (by omega))

theorem rWith_any (p : Int) (a : Option Addr) (n cap : Nat) (bs : List Bd) (x : Bd) (w : World) (hb : BdsAt w a n cap bs) :
    Calls Try.prog 45 #[.agg #[.int .i64 p, .slice a n cap], .agg #[.int .i64 x.frm, .int .i64 x.tow, .int .i64 x.most, .int .i64 x.bid]] w fun e w' => ∃ v, e = .returned (.tuple #[.agg #[.int .i64 (if withE p bs x = 0 then p else 0), v], .int .i64 (withE p bs x)]) ∧ w'.ownsRow w.heap.size 39 4 v (withL p bs x).length (bcs (withL p bs x)) ∧ Below w.heap.size w w' := by
  by_cases h0 : chk p bs = 0
  · by_cases h1 : chk p (bs ++ [x]) = 0
    · refine (rWith_ok p a n cap bs x w hb h0 h1).mono ?_
      rintro e w' ⟨v, rfl, ho, hb'⟩
      exact ⟨v, by simp [withE, h0, h1], by simpa [withL, withE, h0, h1] using ho, hb'⟩
    · refine (rWith_new p a n cap bs x w hb h0 h1).mono ?_
      rintro e w' ⟨rfl, hb'⟩
      exact ⟨_, by simp [withE, h0, h1]; rfl, by simp [withL, withE, h0, h1]; exact World.ownsRow_nil _ _ _ _, hb'⟩
  · have h0' : (chk p bs == 0) = false := by simpa using h0
    have hbx := hb.below (w' := ((w.alloc (Obj.cells #[.int .i64 p, .slice a n cap] 24)).alloc (Obj.cells #[.int .i64 x.frm, .int .i64 x.tow, .int .i64 x.most, .int .i64 x.bid] 39)).alloc (Obj.cells #[.int .i64 0, .slice none 0 0] 24)) (by ((repeat (first | assumption | exact Below.refl _ _ | refine Below.alloc ?_ ?_ _ | refine Below.setCell ?_ ?_ _ | refine Below.drew ?_ | refine belowN ?_ | refine Below.up ?_ (by assumption) ?_)) <;> (first | assumption | omega | (simp; done) | (simp; omega))))
    have hC := rcheck_any p a n cap bs _ hbx
    have hE : withE p bs x = chk p bs := by simp [withE, h0]
    have hL : withL p bs x = [] := by simp [withL, hE, h0]
    rw [hL, hE, if_neg h0]
    clear hL hE
    generalize chk p bs = c at *
    go_enter Try.func45, Try.ntmps45
    go_wp2_with (go_at_call 65; refine (hC).mono ?_; rintro e w1 ⟨rfl, hb1⟩; obtain ⟨hc1, hf1⟩ := bcell hb1; have hz1a := lt_size hb1 (b := w.heap.size) (by first | assumption | omega | (simp; done) | (simp; omega)); have hz1b := lt_size hb1 (b := w.heap.size+1) (by first | assumption | omega | (simp; done) | (simp; omega)); have hz1c := lt_size hb1 (b := w.heap.size+1+1) (by first | assumption | omega | (simp; done) | (simp; omega)))
    have hz1 := hb1.size
    simp only [World.size_alloc] at hz1
    refine bodyPost_ret (v := .tuple #[.agg #[.int .i64 0, .slice none 0 0], .int .i64 c]) (by simp [results, Try.results45, go_sem, *]) rfl ⟨_, rfl, World.ownsRow_nil _ _ _ _, ?_⟩
    have hB3 : Below w.heap.size w (((w.alloc (Obj.cells #[.int .i64 p, .slice a n cap] 24)).alloc (Obj.cells #[.int .i64 x.frm, .int .i64 x.tow, .int .i64 x.most, .int .i64 x.bid] 39)).alloc (Obj.cells #[.int .i64 0, .slice none 0 0] 24)) := by ((repeat (first | assumption | exact Below.refl _ _ | refine Below.alloc ?_ ?_ _ | refine Below.setCell ?_ ?_ _ | refine Below.drew ?_ | refine belowN ?_ | refine Below.up ?_ (by assumption) ?_)) <;> (first | assumption | omega | (simp; done) | (simp; omega)))
    exact (hB3.trans (hb1.mono (by simp; omega))).setCell (by simp; omega) _ |>.setCell (by simp; omega) _
end Go.Proofs.Ytlkcfohmoeadbaa

/-
  The reference of layer 1, walked: Changed.
-/
namespace Go.Proofs.Ytlkcfohmoeadbaa
open Go.RowKit Go.Shelf
set_option maxHeartbeats 8000000
set_option maxRecDepth 100000

theorem gpair_ne {A B : Int} {h i : Int} {o t : Bool} (e1 : (if A = FAR then 0 else A) = h) (e2 : (if B = FAR then 0 else B) = i) (e3 : decide (A ≠ FAR) = o) (e4 : decide (B ≠ FAR) = t) : ((h != i) || (o != t)) = !(decide (A = B)) := by
  subst e1; subst e2; subst e3; subst e4
  by_cases a : A = FAR <;> by_cases b : B = FAR <;> by_cases c : A = B <;> simp_all


theorem rChanged_any (p : Int) (a : Option Addr) (n cap : Nat) (bs : List Bd) (b : Bd) (x : Int) (w : World) (hb : BdsAt w a n cap bs) :
    Calls Try.prog 35 #[.agg #[.int .i64 p, .slice a n cap], .agg #[.int .i64 b.frm, .int .i64 b.tow, .int .i64 b.most, .int .i64 b.bid], .int .i64 x] w fun e w' => ∃ v, e = .returned (.tuple #[v, .int .i64 (cgE p bs b x)]) ∧ Below w.heap.size w w' ∧
      w'.ownsRow w.heap.size 3 1 v (cgL p bs b x).length ((cgL p bs b x).map (.int .i64)) := by
  have hB2 : Below w.heap.size w ((w.alloc (Obj.cells #[.int .i64 p, .slice a n cap] 24)).alloc (Obj.cells #[.int .i64 b.frm, .int .i64 b.tow, .int .i64 b.most, .int .i64 b.bid] 39)) := by ((repeat (first | assumption | exact Below.refl _ _ | refine Below.alloc ?_ ?_ _ | refine Below.setCell ?_ ?_ _ | refine Below.drew ?_ | refine belowN ?_ | refine Below.up ?_ (by assumption) ?_)) <;> (first | assumption | omega | (simp; done) | (simp; omega)))
  have hbx := hb.below hB2
  have hW := fun w1 (hb1 : BdsAt w1 a n cap bs) => rWith_any p a n cap bs b w1 hb1
  have hG1 := fun w1 (hb1 : BdsAt w1 a n cap bs) => rGreatest_any p a n cap bs x x w1 hb1
  by_cases hc : withE p bs b = 0
  · obtain ⟨hc0, hc1⟩ := withE_zero hc
    simp only [hc, if_true] at hW
    have hwl : withL p bs b = bs ++ [b] := by simp [withL, hc]
    rw [hwl] at hW
    have hl400 := chk_400 hc1
    have e1 : cgE p bs b x = if askE p bs x x = 0 then (if okB p (bs ++ [b]) then 0 else 10) else askE p bs x x := by simp [cgE, hc]
    have e2 : cgL p bs b x = if askE p bs x x = 0 then (if okB p (bs ++ [b]) then chgL p bs (bs ++ [b]) x p.toNat else []) else [] := by
      unfold cgL
      by_cases h1 : askE p bs x x = 0 <;> by_cases h2 : okB p (bs ++ [b]) = true <;> simp [hc, h1, h2]
    rw [e1, e2]
    clear e1 e2 hwl
    have hG2 := fun a2 c2 w1 (hb1 : BdsAt w1 a2 (bs ++ [b]).length c2 (bs ++ [b])) => rGreatest_any p a2 _ c2 (bs ++ [b]) x x w1 hb1
    have hET : askE p bs x x = 0 → askE p (bs ++ [b]) x x = if okB p (bs ++ [b]) then 0 else 10 := fun h => by
      unfold askE
      rw [if_pos hc1, if_pos (askE_zero h).2.1]
    generalize hTd : bs ++ [b] = T at *
    have hlT : T.length ≤ 140737488351232 := by omega
    by_cases ha : askE p bs x x = 0
    · have hET' := hET ha
      obtain ⟨_, hxx, hok⟩ := askE_zero ha
      rw [ha] at hG1
      rw [hET'] at hG2
      simp only [ha, if_true]
      clear hET hET'
      cases hokT : okB p T with
      | false =>
        simp only [hokT, Bool.false_eq_true, if_false] at hG2 ⊢
        generalize grN p bs x x = g1 at *
        generalize grB p bs x x = g2 at *
        generalize grN p T x x = g3 at *
        generalize grB p T x x = g4 at *
        clear hTd hc hc0 hc1 ha hxx hok hokT
        go_enter Try.func35, Try.ntmps35
        go_wp2_with (first
          | (go_at_call 45; refine (hW _ hbx).mono ?_; rintro e w2 ⟨v2, rfl, ho2, hb2⟩; obtain ⟨a2, c2, rfl, ha2⟩ := owns_slice ho2; obtain ⟨hc2, hf2⟩ := bcell hb2; have hz2 := hb2.size; simp only [World.size_alloc] at hz2; have hz2a : w.heap.size < w2.heap.size := by omega
             have hbT := (BdsAt.of_owns ho2 hlT).below ((Below.refl _ _).alloc (Nat.le_refl _) (Obj.cells #[.int .i64 p, .slice a2 T.length c2] 24))
             have hbs2 := (hbx.below hb2).below ((Below.refl _ _).alloc (Nat.le_refl _) (Obj.cells #[.int .i64 p, .slice a2 T.length c2] 24)))
          | (go_at_call 38; have hg := hb3; clear hg; refine (hG2 _ _ _ (hbT.below hb3)).mono ?_; rintro e w4 ⟨rfl, hb4⟩; obtain ⟨hc4, hf4⟩ := bcell hb4; have hz4 := hb4.size; have hz4a : w.heap.size < w4.heap.size := (by omega); have hz4b : w2.heap.size < w4.heap.size := (by omega))
          | (go_at_call 38; refine (hG1 _ hbs2).mono ?_; rintro e w3 ⟨rfl, hb3⟩; obtain ⟨hc3, hf3⟩ := bcell hb3; have hz3 := hb3.size; simp only [World.size_alloc] at hz3; have hz3a : w.heap.size < w3.heap.size := (by omega); have hz3b : w2.heap.size < w3.heap.size := (by omega)))
        refine bodyPost_ret (v := .tuple #[.slice none 0 0, .int .i64 10]) (by simp [results, Try.results35, go_sem, *]) rfl ⟨_, rfl, ?_, World.ownsRow_nil _ _ _ _⟩
        exact (((hB2.trans (hb2.mono (by simp; omega))).alloc (by omega) _).trans (hb3.mono (by simp; omega))).trans (hb4.mono (by omega))
      | true =>
        simp only [hokT, if_true] at hG2 ⊢
        obtain ⟨⟨x0, x1⟩, _⟩ := both_in hxx
        have hk := fun (k : Nat) (hk : (k : Int) < p) => show both p x k = true ∧ both p k x = true by simp [both, inP, withinB]; omega
        have HS1 := Lib.hid (fun (k : Nat) (h : (k : Int) < p) w1 (hb1 : BdsAt w1 a n cap bs) => rgreatest_any p a n cap bs x k w1 hb1 hc0 hok (hk k h).1)
        have HS3 := Lib.hid (fun (k : Nat) (h : (k : Int) < p) w1 (hb1 : BdsAt w1 a n cap bs) => rgreatest_any p a n cap bs k x w1 hb1 hc0 hok (hk k h).2)
        have HS2 := Lib.hid (fun (a2 : Option Addr) (c2 : Nat) (k : Nat) (h : (k : Int) < p) w1 (hb1 : BdsAt w1 a2 T.length c2 T) => rgreatest_any p a2 _ c2 T x k w1 hb1 hc1 hokT (hk k h).1)
        have HS4 := Lib.hid (fun (a2 : Option Addr) (c2 : Nat) (k : Nat) (h : (k : Int) < p) w1 (hb1 : BdsAt w1 a2 T.length c2 T) => rgreatest_any p a2 _ c2 T k x w1 hb1 hc1 hokT (hk k h).2)
        have hp1 := (Sys.of_chk hc0).p1
        have hp2 := (Sys.of_chk hc0).p2
        generalize hP : p.toNat = P at *
        have hP60 : P ≤ 60 := by omega
        have HP := Lib.hid (show (P : Int) = p by omega)
        generalize grN p bs x x = g1 at *
        generalize grB p bs x x = g2 at *
        generalize grN p T x x = g3 at *
        generalize grB p T x x = g4 at *
        clear hTd hc hc0 hc1 ha hxx hok hokT hk hP hp1 hp2 x0 x1
        go_enter Try.func35, Try.ntmps35
        go_wp2_with (first
          | (go_at_call 45; refine (hW _ hbx).mono ?_; rintro e w2 ⟨v2, rfl, ho2, hb2⟩; obtain ⟨a2, c2, rfl, ha2⟩ := owns_slice ho2; obtain ⟨hc2, hf2⟩ := bcell hb2; have hz2 := hb2.size; simp only [World.size_alloc] at hz2; have hz2a : w.heap.size < w2.heap.size := by omega
             have hbT := (BdsAt.of_owns ho2 hlT).below ((Below.refl _ _).alloc (Nat.le_refl _) (Obj.cells #[.int .i64 p, .slice a2 T.length c2] 24))
             have hbs2 := (hbx.below hb2).below ((Below.refl _ _).alloc (Nat.le_refl _) (Obj.cells #[.int .i64 p, .slice a2 T.length c2] 24)))
          | (go_at_call 38; have hg := hb3; clear hg; refine (hG2 _ _ _ (hbT.below hb3)).mono ?_; rintro e w4 ⟨rfl, hb4⟩; obtain ⟨hc4, hf4⟩ := bcell hb4; have hz4 := hb4.size; have hz4a : w.heap.size < w4.heap.size := (by omega); have hz4b : w2.heap.size < w4.heap.size := (by omega))
          | (go_at_call 38; refine (hG1 _ hbs2).mono ?_; rintro e w3 ⟨rfl, hb3⟩; obtain ⟨hc3, hf3⟩ := bcell hb3; have hz3 := hb3.size; simp only [World.size_alloc] at hz3; have hz3a : w.heap.size < w3.heap.size := (by omega); have hz3b : w2.heap.size < w3.heap.size := (by omega)))
        have hBw : Below w.heap.size w w4 := (((hB2.trans (hb2.mono (by simp; omega))).alloc (by omega) _).trans (hb3.mono (by simp; omega))).trans (hb4.mono (by omega))
        have s0 : w4.cell? ⟨w.heap.size, 0, none⟩ = some (.int .i64 p) := by simp [go_sem, *]
        have s1 : w4.cell? ⟨w.heap.size, 1, none⟩ = some (.slice a n cap) := by simp [go_sem, *]
        have s2 : w4.cell? ⟨w2.heap.size, 0, none⟩ = some (.int .i64 p) := by simp [go_sem, *]
        have s3 : w4.cell? ⟨w2.heap.size, 1, none⟩ = some (.slice a2 T.length c2) := by simp [go_sem, *]
        have hbT4 := (hbT.below hb3).below hb4
        clear hc2 hf2 hc3 hf3 hc4 hf4 hbs2 hbT hG1 hG2 hW ho2
        go_loopw [17, 16] (fun i v wr => ∃ k : Nat, k ≤ P ∧ i = .int .i64 k ∧ Below w4.heap.size w4 wr ∧ wr.ownsRow w4.heap.size 3 1 v (chgL p bs T x k).length ((chgL p bs T x k).map (.int .i64))) (fun i _ _ => P - (intOf i).toNat)
        case atStart => exact ⟨0, Nat.zero_le _, rfl, Below.refl _ _, World.ownsRow_nil _ _ _ _⟩
        case round =>
          obtain ⟨k, hk, rfl, hB4, hown⟩ := hrel
          have hz := hB4.size
          have hB : Below w.heap.size w wr := hBw.trans (hB4.mono (by omega))
          have d0 := ((bcell hB4).1 _ _ (by omega)).trans s0
          have d1 := ((bcell hB4).1 _ _ (by omega)).trans s1
          by_cases hlt : k < P
          · have t1 : (k : Int) < p := by have := HP.out; omega
            have d2 := ((bcell hB4).1 _ _ (by omega)).trans s2
            have d3 := ((bcell hB4).1 _ _ (by omega)).trans s3
            have hbw := hb.below hB
            have hbTw : BdsAt wr a2 T.length c2 T := hbT4.below hB4
            have hzw : w.heap.size < wr.heap.size := by omega
            have hzw2 : w2.heap.size < wr.heap.size := by omega
            have hk1 := HS1.out k t1
            have hk2 := HS2.out a2 c2 k t1
            have hk3 := HS3.out k t1
            have hk4 := HS4.out a2 c2 k t1
            have hcl := chgL_len p bs T x k
            have Hyes := Lib.hid (chgL_yes (p := p) (bs := bs) (T := T) (x := x) (k := k))
            have Hno := Lib.hid (chgL_no (p := p) (bs := bs) (T := T) (x := x) (k := k))
            obtain ⟨h1, e1⟩ : ∃ h, (if gD p bs x k = FAR then 0 else gD p bs x k) = h := ⟨_, rfl⟩
            obtain ⟨o1, f1⟩ : ∃ h, decide (gD p bs x k ≠ FAR) = h := ⟨_, rfl⟩
            obtain ⟨h2, e2⟩ : ∃ h, (if gD p T x k = FAR then 0 else gD p T x k) = h := ⟨_, rfl⟩
            obtain ⟨o2, f2⟩ : ∃ h, decide (gD p T x k ≠ FAR) = h := ⟨_, rfl⟩
            obtain ⟨h3, e3⟩ : ∃ h, (if gD p bs k x = FAR then 0 else gD p bs k x) = h := ⟨_, rfl⟩
            obtain ⟨o3, f3⟩ : ∃ h, decide (gD p bs k x ≠ FAR) = h := ⟨_, rfl⟩
            obtain ⟨h4, e4⟩ : ∃ h, (if gD p T k x = FAR then 0 else gD p T k x) = h := ⟨_, rfl⟩
            obtain ⟨o4, f4⟩ : ∃ h, decide (gD p T k x ≠ FAR) = h := ⟨_, rfl⟩
            have hd : difB p bs T x k = ((h1 != h2) || (o1 != o2) || (h3 != h4) || (o3 != o4)) := by
              have g1 := gpair_ne e1 e2 f1 f2
              have g2 := gpair_ne e3 e4 f3 f4
              unfold difB
              rw [Bool.not_and, ← g1, ← g2, ← Bool.or_assoc]
            simp only [e1, f1] at hk1
            simp only [e2, f2] at hk2
            simp only [e3, f3] at hk3
            simp only [e4, f4] at hk4
            clear e1 e2 e3 e4 f1 f2 f3 f4
            obtain ⟨u1, U1⟩ : ∃ u, (h1 != h2) = u := ⟨_, rfl⟩
            obtain ⟨u2, U2⟩ : ∃ u, (o1 != o2) = u := ⟨_, rfl⟩
            obtain ⟨u3, U3⟩ : ∃ u, (h3 != h4) = u := ⟨_, rfl⟩
            obtain ⟨u4, U4⟩ : ∃ u, (o3 != o4) = u := ⟨_, rfl⟩
            rw [U1, U2, U3, U4] at hd
            have Hd := Lib.hid hd
            clear hd
            generalize hcd : chgL p bs T x k = L at *
            clear hcd
            cases u1 with
            | true =>
              go_wp2_with (first
                | (go_at_call 83; have hg := hb7; clear hg; refine (hk4 _ (((hbTw.below hb5).below hb6).below hb7)).mono ?_; rintro e w8 ⟨rfl, hb8⟩; have hz8 := hb8.size; have l1 := ((bcell hb8).1 _ _ (by omega)).trans k0)
                | (go_at_call 83; have hg := hb6; clear hg; refine (hk3 _ ((hbw.below hb5).below hb6)).mono ?_; rintro e w7 ⟨rfl, hb7⟩; have hz7 := hb7.size; have k0 := ((bcell hb7).1 _ _ (by omega)).trans i0; have l3 := ((bcell hb7).1 _ _ (by omega)).trans i2; have l4 := ((bcell hb7).1 _ _ (by omega)).trans i3; have y7 : w2.heap.size < w7.heap.size := (by omega))
                | (go_at_call 83; have hg := hb5; clear hg; refine (hk2 _ (hbTw.below hb5)).mono ?_; rintro e w6 ⟨rfl, hb6⟩; have hz6 := hb6.size; have i0 := ((bcell hb6).1 _ _ (by omega)).trans f0; have i1 := ((bcell hb6).1 _ _ (by omega)).trans f1; have i2 := ((bcell hb6).1 _ _ (by omega)).trans f2; have i3 := ((bcell hb6).1 _ _ (by omega)).trans f3; have y6 : w.heap.size < w6.heap.size := (by omega))
                | (go_at_call 83; refine (hk1 _ hbw).mono ?_; rintro e w5 ⟨rfl, hb5⟩; have hz5 := hb5.size; have f0 := ((bcell hb5).1 _ _ (by omega)).trans d0; have f1 := ((bcell hb5).1 _ _ (by omega)).trans d1; have f2 := ((bcell hb5).1 _ _ (by omega)).trans d2; have f3 := ((bcell hb5).1 _ _ (by omega)).trans d3; have y5 : w2.heap.size < w5.heap.size := (by omega))| (at_builtin; have h58 := (((hb5.mono (Nat.le_refl _)).trans (hb6.mono hz5)).trans (hb7.mono (by omega))).trans (hb8.mono (by omega)); refine wpList_app elemI rfl _ _ rfl ((hown.up h58 (Nat.le_refl _)).up ((Below.refl _ _).alloc (Nat.le_refl _) (Obj.cells #[.int .i64 k] 3)) (Nat.le_refl _)) rfl rfl (RowAt.of_heap (World.alloc_heap_new w8 _)) (by simp) (ones_int [(k : Int)]) ?_ ?_ ?_ ?_))
              · unfold maxLen; omega
              · omega
              · simp; omega
              · intro v' w9 ho9 hg9 hb9 _ hat
                have h58 := (((hb5.mono (Nat.le_refl _)).trans (hb6.mono hz5)).trans (hb7.mono (by omega))).trans (hb8.mono (by omega))
                have hB9 : Below w4.heap.size wr w9 := (h58.mono hz).trans (((Below.refl _ _).alloc (by omega) _).trans hb9)
                clear d0 d1 d2 d3 f0 f1 f2 f3 i0 i1 i2 i3 l3 l4 k0 l1
                go_wp2
                go_roundw
                case rel =>
                  refine ⟨k + 1, by omega, by go_num, hB4.trans hB9, ?_⟩
                  rw [Hyes.out (by rw [Hd.out]; rfl), List.map_append]
                  simpa using ho9
                case measure => simp [intOf]; omega
            | false =>
              cases u2 with
              | true =>
                obtain rfl : o1 = !o2 := by cases o1 <;> cases o2 <;> simp_all
                have N2 : ((!o2) != o2) = true := by cases o2 <;> rfl
                clear U2
                go_wp2_with (first
                  | (go_at_call 83; have hg := hb7; clear hg; refine (hk4 _ (((hbTw.below hb5).below hb6).below hb7)).mono ?_; rintro e w8 ⟨rfl, hb8⟩; have hz8 := hb8.size; have l1 := ((bcell hb8).1 _ _ (by omega)).trans k0)
                  | (go_at_call 83; have hg := hb6; clear hg; refine (hk3 _ ((hbw.below hb5).below hb6)).mono ?_; rintro e w7 ⟨rfl, hb7⟩; have hz7 := hb7.size; have k0 := ((bcell hb7).1 _ _ (by omega)).trans i0; have l3 := ((bcell hb7).1 _ _ (by omega)).trans i2; have l4 := ((bcell hb7).1 _ _ (by omega)).trans i3; have y7 : w2.heap.size < w7.heap.size := (by omega))
                  | (go_at_call 83; have hg := hb5; clear hg; refine (hk2 _ (hbTw.below hb5)).mono ?_; rintro e w6 ⟨rfl, hb6⟩; have hz6 := hb6.size; have i0 := ((bcell hb6).1 _ _ (by omega)).trans f0; have i1 := ((bcell hb6).1 _ _ (by omega)).trans f1; have i2 := ((bcell hb6).1 _ _ (by omega)).trans f2; have i3 := ((bcell hb6).1 _ _ (by omega)).trans f3; have y6 : w.heap.size < w6.heap.size := (by omega))
                  | (go_at_call 83; refine (hk1 _ hbw).mono ?_; rintro e w5 ⟨rfl, hb5⟩; have hz5 := hb5.size; have f0 := ((bcell hb5).1 _ _ (by omega)).trans d0; have f1 := ((bcell hb5).1 _ _ (by omega)).trans d1; have f2 := ((bcell hb5).1 _ _ (by omega)).trans d2; have f3 := ((bcell hb5).1 _ _ (by omega)).trans d3; have y5 : w2.heap.size < w5.heap.size := (by omega))| (at_builtin; have h58 := (((hb5.mono (Nat.le_refl _)).trans (hb6.mono hz5)).trans (hb7.mono (by omega))).trans (hb8.mono (by omega)); refine wpList_app elemI rfl _ _ rfl ((hown.up h58 (Nat.le_refl _)).up ((Below.refl _ _).alloc (Nat.le_refl _) (Obj.cells #[.int .i64 k] 3)) (Nat.le_refl _)) rfl rfl (RowAt.of_heap (World.alloc_heap_new w8 _)) (by simp) (ones_int [(k : Int)]) ?_ ?_ ?_ ?_))
                · unfold maxLen; omega
                · omega
                · simp; omega
                · intro v' w9 ho9 hg9 hb9 _ hat
                  have h58 := (((hb5.mono (Nat.le_refl _)).trans (hb6.mono hz5)).trans (hb7.mono (by omega))).trans (hb8.mono (by omega))
                  have hB9 : Below w4.heap.size wr w9 := (h58.mono hz).trans (((Below.refl _ _).alloc (by omega) _).trans hb9)
                  clear d0 d1 d2 d3 f0 f1 f2 f3 i0 i1 i2 i3 l3 l4 k0 l1
                  go_wp2
                  go_roundw
                  case rel =>
                    refine ⟨k + 1, by omega, by go_num, hB4.trans hB9, ?_⟩
                    rw [Hyes.out (by rw [Hd.out]; rfl), List.map_append]
                    simpa using ho9
                  case measure => simp [intOf]; omega
              | false =>
                obtain rfl : o1 = o2 := by simpa using U2
                have N2 : (o1 != o1) = false := by simp
                clear U2
                cases u3 with
                | true =>
                  go_wp2_with (first
                    | (go_at_call 83; have hg := hb7; clear hg; refine (hk4 _ (((hbTw.below hb5).below hb6).below hb7)).mono ?_; rintro e w8 ⟨rfl, hb8⟩; have hz8 := hb8.size; have l1 := ((bcell hb8).1 _ _ (by omega)).trans k0)
                    | (go_at_call 83; have hg := hb6; clear hg; refine (hk3 _ ((hbw.below hb5).below hb6)).mono ?_; rintro e w7 ⟨rfl, hb7⟩; have hz7 := hb7.size; have k0 := ((bcell hb7).1 _ _ (by omega)).trans i0; have l3 := ((bcell hb7).1 _ _ (by omega)).trans i2; have l4 := ((bcell hb7).1 _ _ (by omega)).trans i3; have y7 : w2.heap.size < w7.heap.size := (by omega))
                    | (go_at_call 83; have hg := hb5; clear hg; refine (hk2 _ (hbTw.below hb5)).mono ?_; rintro e w6 ⟨rfl, hb6⟩; have hz6 := hb6.size; have i0 := ((bcell hb6).1 _ _ (by omega)).trans f0; have i1 := ((bcell hb6).1 _ _ (by omega)).trans f1; have i2 := ((bcell hb6).1 _ _ (by omega)).trans f2; have i3 := ((bcell hb6).1 _ _ (by omega)).trans f3; have y6 : w.heap.size < w6.heap.size := (by omega))
                    | (go_at_call 83; refine (hk1 _ hbw).mono ?_; rintro e w5 ⟨rfl, hb5⟩; have hz5 := hb5.size; have f0 := ((bcell hb5).1 _ _ (by omega)).trans d0; have f1 := ((bcell hb5).1 _ _ (by omega)).trans d1; have f2 := ((bcell hb5).1 _ _ (by omega)).trans d2; have f3 := ((bcell hb5).1 _ _ (by omega)).trans d3; have y5 : w2.heap.size < w5.heap.size := (by omega))| (at_builtin; have h58 := (((hb5.mono (Nat.le_refl _)).trans (hb6.mono hz5)).trans (hb7.mono (by omega))).trans (hb8.mono (by omega)); refine wpList_app elemI rfl _ _ rfl ((hown.up h58 (Nat.le_refl _)).up ((Below.refl _ _).alloc (Nat.le_refl _) (Obj.cells #[.int .i64 k] 3)) (Nat.le_refl _)) rfl rfl (RowAt.of_heap (World.alloc_heap_new w8 _)) (by simp) (ones_int [(k : Int)]) ?_ ?_ ?_ ?_))
                  · unfold maxLen; omega
                  · omega
                  · simp; omega
                  · intro v' w9 ho9 hg9 hb9 _ hat
                    have h58 := (((hb5.mono (Nat.le_refl _)).trans (hb6.mono hz5)).trans (hb7.mono (by omega))).trans (hb8.mono (by omega))
                    have hB9 : Below w4.heap.size wr w9 := (h58.mono hz).trans (((Below.refl _ _).alloc (by omega) _).trans hb9)
                    clear d0 d1 d2 d3 f0 f1 f2 f3 i0 i1 i2 i3 l3 l4 k0 l1
                    go_wp2
                    go_roundw
                    case rel =>
                      refine ⟨k + 1, by omega, by go_num, hB4.trans hB9, ?_⟩
                      rw [Hyes.out (by rw [Hd.out]; rfl), List.map_append]
                      simpa using ho9
                    case measure => simp [intOf]; omega
                | false =>
                  cases u4 with
                  | true =>
                    obtain rfl : o3 = !o4 := by cases o3 <;> cases o4 <;> simp_all
                    have N4 : ((!o4) != o4) = true := by cases o4 <;> rfl
                    clear U4
                    go_wp2_with (first
                      | (go_at_call 83; have hg := hb7; clear hg; refine (hk4 _ (((hbTw.below hb5).below hb6).below hb7)).mono ?_; rintro e w8 ⟨rfl, hb8⟩; have hz8 := hb8.size; have l1 := ((bcell hb8).1 _ _ (by omega)).trans k0)
                      | (go_at_call 83; have hg := hb6; clear hg; refine (hk3 _ ((hbw.below hb5).below hb6)).mono ?_; rintro e w7 ⟨rfl, hb7⟩; have hz7 := hb7.size; have k0 := ((bcell hb7).1 _ _ (by omega)).trans i0; have l3 := ((bcell hb7).1 _ _ (by omega)).trans i2; have l4 := ((bcell hb7).1 _ _ (by omega)).trans i3; have y7 : w2.heap.size < w7.heap.size := (by omega))
                      | (go_at_call 83; have hg := hb5; clear hg; refine (hk2 _ (hbTw.below hb5)).mono ?_; rintro e w6 ⟨rfl, hb6⟩; have hz6 := hb6.size; have i0 := ((bcell hb6).1 _ _ (by omega)).trans f0; have i1 := ((bcell hb6).1 _ _ (by omega)).trans f1; have i2 := ((bcell hb6).1 _ _ (by omega)).trans f2; have i3 := ((bcell hb6).1 _ _ (by omega)).trans f3; have y6 : w.heap.size < w6.heap.size := (by omega))
                      | (go_at_call 83; refine (hk1 _ hbw).mono ?_; rintro e w5 ⟨rfl, hb5⟩; have hz5 := hb5.size; have f0 := ((bcell hb5).1 _ _ (by omega)).trans d0; have f1 := ((bcell hb5).1 _ _ (by omega)).trans d1; have f2 := ((bcell hb5).1 _ _ (by omega)).trans d2; have f3 := ((bcell hb5).1 _ _ (by omega)).trans d3; have y5 : w2.heap.size < w5.heap.size := (by omega))| (at_builtin; have h58 := (((hb5.mono (Nat.le_refl _)).trans (hb6.mono hz5)).trans (hb7.mono (by omega))).trans (hb8.mono (by omega)); refine wpList_app elemI rfl _ _ rfl ((hown.up h58 (Nat.le_refl _)).up ((Below.refl _ _).alloc (Nat.le_refl _) (Obj.cells #[.int .i64 k] 3)) (Nat.le_refl _)) rfl rfl (RowAt.of_heap (World.alloc_heap_new w8 _)) (by simp) (ones_int [(k : Int)]) ?_ ?_ ?_ ?_))
                    · unfold maxLen; omega
                    · omega
                    · simp; omega
                    · intro v' w9 ho9 hg9 hb9 _ hat
                      have h58 := (((hb5.mono (Nat.le_refl _)).trans (hb6.mono hz5)).trans (hb7.mono (by omega))).trans (hb8.mono (by omega))
                      have hB9 : Below w4.heap.size wr w9 := (h58.mono hz).trans (((Below.refl _ _).alloc (by omega) _).trans hb9)
                      clear d0 d1 d2 d3 f0 f1 f2 f3 i0 i1 i2 i3 l3 l4 k0 l1
                      go_wp2
                      go_roundw
                      case rel =>
                        refine ⟨k + 1, by omega, by go_num, hB4.trans hB9, ?_⟩
                        rw [Hyes.out (by rw [Hd.out]; rfl), List.map_append]
                        simpa using ho9
                      case measure => simp [intOf]; omega
                  | false =>
                    obtain rfl : o3 = o4 := by simpa using U4
                    have N4 : (o3 != o3) = false := by simp
                    clear U4
                    go_wp2_with (first
                      | (go_at_call 83; have hg := hb7; clear hg; refine (hk4 _ (((hbTw.below hb5).below hb6).below hb7)).mono ?_; rintro e w8 ⟨rfl, hb8⟩; have hz8 := hb8.size; have l1 := ((bcell hb8).1 _ _ (by omega)).trans k0)
                      | (go_at_call 83; have hg := hb6; clear hg; refine (hk3 _ ((hbw.below hb5).below hb6)).mono ?_; rintro e w7 ⟨rfl, hb7⟩; have hz7 := hb7.size; have k0 := ((bcell hb7).1 _ _ (by omega)).trans i0; have l3 := ((bcell hb7).1 _ _ (by omega)).trans i2; have l4 := ((bcell hb7).1 _ _ (by omega)).trans i3; have y7 : w2.heap.size < w7.heap.size := (by omega))
                      | (go_at_call 83; have hg := hb5; clear hg; refine (hk2 _ (hbTw.below hb5)).mono ?_; rintro e w6 ⟨rfl, hb6⟩; have hz6 := hb6.size; have i0 := ((bcell hb6).1 _ _ (by omega)).trans f0; have i1 := ((bcell hb6).1 _ _ (by omega)).trans f1; have i2 := ((bcell hb6).1 _ _ (by omega)).trans f2; have i3 := ((bcell hb6).1 _ _ (by omega)).trans f3; have y6 : w.heap.size < w6.heap.size := (by omega))
                      | (go_at_call 83; refine (hk1 _ hbw).mono ?_; rintro e w5 ⟨rfl, hb5⟩; have hz5 := hb5.size; have f0 := ((bcell hb5).1 _ _ (by omega)).trans d0; have f1 := ((bcell hb5).1 _ _ (by omega)).trans d1; have f2 := ((bcell hb5).1 _ _ (by omega)).trans d2; have f3 := ((bcell hb5).1 _ _ (by omega)).trans d3; have y5 : w2.heap.size < w5.heap.size := (by omega)))
                    have h58 := (((hb5.mono (Nat.le_refl _)).trans (hb6.mono hz5)).trans (hb7.mono (by omega))).trans (hb8.mono (by omega))
                    go_roundw
                    case rel => exact ⟨k + 1, by omega, by go_num, hB4.trans (h58.mono hz), by rw [Hno.out (by rw [Hd.out]; rfl)]; exact hown.up h58 (Nat.le_refl _)⟩
                    case measure => simp [intOf]; omega
          · obtain rfl : k = P := by omega
            have t1 : ¬ ((k : Int) < p) := by have := HP.out; omega
            obtain ⟨ka, kc, rfl, hkl⟩ := owns_slice hown
            go_wp2_with fail
            refine bodyPost_ret (v := .tuple #[.slice ka (chgL p bs T x k).length kc, .int .i64 0]) (by simp [results, Try.results35, go_sem, *]) rfl ⟨_, rfl, hB, SL.row_base hown (by omega)⟩
    · have ha' : (askE p bs x x == 0) = false := by simpa using ha
      simp only [ha, if_false]
      clear hET ha
      generalize askE p bs x x = q at *
      generalize grN p bs x x = g1 at *
      generalize grB p bs x x = g2 at *
      generalize askE p T x x = q2 at *
      generalize grN p T x x = g3 at *
      generalize grB p T x x = g4 at *
      clear hTd hc hc0 hc1
      go_enter Try.func35, Try.ntmps35
      go_wp2_with (first
        | (go_at_call 45; refine (hW _ hbx).mono ?_; rintro e w2 ⟨v2, rfl, ho2, hb2⟩; obtain ⟨a2, c2, rfl, ha2⟩ := owns_slice ho2; obtain ⟨hc2, hf2⟩ := bcell hb2; have hz2 := hb2.size; simp only [World.size_alloc] at hz2; have hz2a : w.heap.size < w2.heap.size := by omega
           have hbT := (BdsAt.of_owns ho2 hlT).below ((Below.refl _ _).alloc (Nat.le_refl _) (Obj.cells #[.int .i64 p, .slice a2 T.length c2] 24))
           have hbs2 := (hbx.below hb2).below ((Below.refl _ _).alloc (Nat.le_refl _) (Obj.cells #[.int .i64 p, .slice a2 T.length c2] 24)))
        | (go_at_call 38; have hg := hb3; clear hg; refine (hG2 _ _ _ (hbT.below hb3)).mono ?_; rintro e w4 ⟨rfl, hb4⟩; obtain ⟨hc4, hf4⟩ := bcell hb4; have hz4 := hb4.size; have hz4a : w.heap.size < w4.heap.size := (by omega); have hz4b : w2.heap.size < w4.heap.size := (by omega))
        | (go_at_call 38; refine (hG1 _ hbs2).mono ?_; rintro e w3 ⟨rfl, hb3⟩; obtain ⟨hc3, hf3⟩ := bcell hb3; have hz3 := hb3.size; simp only [World.size_alloc] at hz3; have hz3a : w.heap.size < w3.heap.size := (by omega); have hz3b : w2.heap.size < w3.heap.size := (by omega)))
      refine bodyPost_ret (v := .tuple #[.slice none 0 0, .int .i64 q]) (by simp [results, Try.results35, go_sem, *]) rfl ⟨_, rfl, ?_, World.ownsRow_nil _ _ _ _⟩
      exact ((hB2.trans (hb2.mono (by simp; omega))).alloc (by omega) _).trans (hb3.mono (by simp; omega))
  · have hc' : (withE p bs b == 0) = false := by simpa using hc
    have e1 : cgE p bs b x = withE p bs b := by simp [cgE, hc]
    have e2 : cgL p bs b x = [] := by simp [cgL, hc]
    rw [e1, e2]
    clear e1 e2 hG1
    generalize withE p bs b = c at *
    go_enter Try.func35, Try.ntmps35
    go_wp2_with (go_at_call 45; refine (hW _ hbx).mono ?_; rintro e w2 ⟨v2, rfl, ho2, hb2⟩; obtain ⟨a2, c2, rfl, ha2⟩ := owns_slice ho2; have hz2 := hb2.size; simp only [World.size_alloc] at hz2)
    refine bodyPost_ret (v := .tuple #[.slice none 0 0, .int .i64 c]) (by simp [results, Try.results35, go_sem, *]) rfl ⟨_, rfl, ?_, World.ownsRow_nil _ _ _ _⟩
    exact (hB2.trans (hb2.mono (by simp; omega))).alloc (by omega) _
end Go.Proofs.Ytlkcfohmoeadbaa

/-
  The law GaugeChanged, walked: it returns true.
-/
namespace Go.Proofs.Ytlkcfohmoeadbaa
open Go.RowKit Go.Shelf
set_option maxHeartbeats 4000000
set_option maxRecDepth 100000

theorem cgL_len (p : Int) (bs : List Bd) (b : Bd) (x : Int) : (cgL p bs b x).length ≤ 1000 := by
  unfold cgL
  split
  · rename_i h
    have h0 : chk p bs = 0 := by
      have := h.1
      exact (withE_zero (by first | exact this | omega)).1
    have hp := (Sys.of_chk h0).p2
    have := chgL_len p bs (bs ++ [b]) x p.toNat
    omega
  · simp

theorem law_changed (p : Int) (a : Option Addr) (n cap : Nat) (bs : List Bd) (b : Bd) (x : Int) (w : World) (hb : BdsAt w a n cap bs) (hn : n ≤ 140737488351232) :
    Calls Try.prog 6 #[.agg #[.int .i64 p, .slice a n cap], .agg #[.int .i64 b.frm, .int .i64 b.tow, .int .i64 b.most, .int .i64 b.bid], .int .i64 x] w fun e w' => e = .returned (.bool true) ∧ Below w.heap.size w w' := by
  have hbx := hb.below (w' := (w.alloc (Obj.cells #[.int .i64 p, .slice a n cap] 24)).alloc (Obj.cells #[.int .i64 b.frm, .int .i64 b.tow, .int .i64 b.most, .int .i64 b.bid] 39)) (((Below.refl _ _).alloc (Nat.le_refl _) _).alloc (by simp) _)
  have hW := fun w1 => lsmall_any p a n cap w1 hn
  by_cases hn4 : (decide (p ≤ 9) && decide (n ≤ 20)) = true
  · simp only [hn4] at hW
    have hA := fun w1 (hb1 : BdsAt w1 a n cap bs) => gChanged_any p a n cap bs b x w1 hb1
    have hB := fun w1 (hb1 : BdsAt w1 a n cap bs) => rChanged_any p a n cap bs b x w1 hb1
    have l1 := cgL_len p bs b x
    generalize cgL p bs b x = X at *
    generalize cgE p bs b x = E1 at *
    have n1 : (E1 == E1) = true := by simp
    clear hn4 hn
    go_enter Try.func6, Try.ntmps6
    go_wp2_with (first
      | (go_at_call 27; refine (hW _).mono ?_; rintro e w0 ⟨rfl, hb0⟩; obtain ⟨hc0, hf0⟩ := bcell hb0; have hz0a := lt_size hb0 (b := w.heap.size) (by first | assumption | omega | (simp; done) | (simp; omega)); have hz0b := lt_size hb0 (b := w.heap.size+1) (by first | assumption | omega | (simp; done) | (simp; omega)))
      | (go_at_call 34; refine (hA _ (hbx.below hb0)).mono ?_; rintro e w1 ⟨v1, rfl, hb1, ho1⟩; obtain ⟨hc1, hf1⟩ := bcell hb1; have hz1a := lt_size hb1 (b := w.heap.size) (by first | assumption | omega | (simp; done) | (simp; omega)); have hz1b := lt_size hb1 (b := w.heap.size + 1) (by first | assumption | omega | (simp; done) | (simp; omega)); obtain ⟨a1, c1, rfl, _⟩ := owns_slice ho1)
      | (go_at_call 35; refine (hB _ ((hbx.below hb0).below hb1)).mono ?_; rintro e w2 ⟨v2, rfl, hb2, ho2⟩; obtain ⟨hc2, hf2⟩ := bcell hb2; have hz2a := lt_size hb2 (b := w.heap.size) (by first | assumption | omega | (simp; done) | (simp; omega)); obtain ⟨a2, c2, rfl, _⟩ := owns_slice ho2
         have z0 := hb0.size
         have z1 := hb1.size
         have z2 := hb2.size
         simp only [World.size_alloc] at z0)
      | (go_at_call 21; refine (lalive_any _).mono ?_; rintro e w3 ⟨rfl, hb3⟩
         have q23 := (hb2.mono (Nat.le_refl _)).trans (hb3.mono z2)
         have z3 := hb3.size)
      | (go_at_call 24; refine (rsame_own ho1 ho2 q23 hb3 l1).mono ?_; rintro e w4 ⟨rfl, hb4⟩))
    go_ret
    have q01 := (hb1.mono (Nat.le_refl _)).trans (q23.mono z1)
    exact ⟨rfl, (((((Below.refl _ w).alloc (Nat.le_refl _) _).alloc (by simp) _).trans (hb0.mono (by simp; omega))).trans (q01.mono (by omega))).trans (hb4.mono (by omega))⟩
  · have hn4' : (decide (p ≤ 9) && decide (n ≤ 20)) = false := by simpa using hn4
    simp only [hn4'] at hW
    clear hn4 hn4'
    go_enter Try.func6, Try.ntmps6
    go_wp2_with (first
      | (go_at_call 27; refine (hW _).mono ?_; rintro e w0 ⟨rfl, hb0⟩; obtain ⟨hc0, hf0⟩ := bcell hb0; have hz0a := lt_size hb0 (b := w.heap.size) (by first | assumption | omega | (simp; done) | (simp; omega)))
      | (go_at_call 21; refine (lalive_any _).mono ?_; rintro e w3 ⟨rfl, hb3⟩; obtain ⟨hc3, hf3⟩ := bcell hb3; have hz3a := lt_size hb3 (b := w.heap.size) (by first | assumption | omega | (simp; done) | (simp; omega))))
    go_ret
    have z0 := hb0.size
    simp at z0
    exact ⟨rfl, ((((Below.refl _ w).alloc (Nat.le_refl _) _).alloc (by simp) _).trans (hb0.mono (by simp; omega))).trans (hb3.mono (by omega))⟩
end Go.Proofs.Ytlkcfohmoeadbaa
