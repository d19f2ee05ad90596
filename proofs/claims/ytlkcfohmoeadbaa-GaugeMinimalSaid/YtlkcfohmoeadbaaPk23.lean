/-
  Lemmas and walks for the laws on bounds and their sums; the parts' own heads say what each proves, for every input.
-/
import Derived.Test.YtlkcfohmoeadbaaPk12
import Derived.Test.YtlkcfohmoeadbaaPk04
import Derived.Test.YtlkcfohmoeadbaaPk22
import Derived.Test.YtlkcfohmoeadbaaPk11
set_option linter.unusedSimpArgs false
set_option linter.unusedVariables false
set_option linter.unnecessarySimpa false
/-
  The reference of layer 1, walked: tied.
-/
namespace Go.Proofs.Ytlkcfohmoeadbaa
open Go.RowKit Go.Shelf
set_option maxHeartbeats 4000000
set_option maxRecDepth 100000

def tiedL (bs : List Bd) (x y n : Int) : List Bd := bs ++ [⟨x, y, n, 0⟩, ⟨y, x, -n, 0⟩]

theorem rtied_any (p : Int) (a : Option Addr) (n cap : Nat) (bs : List Bd) (x y m : Int) (w : World) (hb : BdsAt w a n cap bs) (hs : bs.length ≤ 400) (hm0 : -100000000 ≤ m) (hm1 : m ≤ 100000000) :
    Calls Try.prog 77 #[.agg #[.int .i64 p, .slice a n cap], .int .i64 x, .int .i64 y, .int .i64 m] w fun e w' => ∃ v, e = .returned (.agg #[.int .i64 p, v]) ∧ w'.ownsRow w.heap.size 39 4 v (tiedL bs x y m).length (bcs (tiedL bs x y m)) ∧ Below w.heap.size w w' := by
  obtain rfl := hb.len
  have ebs : bcs bs ++ [.int .i64 x, .int .i64 y, .int .i64 m, .int .i64 0, .int .i64 y, .int .i64 x, .int .i64 (-m), .int .i64 0] = bcs (tiedL bs x y m) := by unfold tiedL; rw [bcs_append]; simp [bcs, Bd.cs]
  have Ebs := Lib.hid ebs
  clear ebs
  have hlen : (tiedL bs x y m).length = bs.length + 2 := by simp [tiedL]
  rw [hlen]
  clear hlen
  go_enter Try.func77, Try.ntmps77
  go_wp2_with fail
  obtain ⟨w1, hw1⟩ : ∃ w1, w1 = (w.alloc (Obj.cells #[.int .i64 p, .slice a bs.length cap] 24)).alloc (Obj.cells #[.int .i64 0, .slice none 0 0] 24) := ⟨_, rfl⟩
  rw [← hw1]
  have hB1 : Below w.heap.size w w1 := by rw [hw1]; exact ((Below.refl _ w).alloc (Nat.le_refl _) _).alloc (by simp) _
  have hb1' := hb.below hB1
  have q0 : w1.cell? ⟨w.heap.size, 0, none⟩ = some (.int .i64 p) := by simp [go_sem, hw1]
  have q1 : w1.cell? ⟨w.heap.size, 1, none⟩ = some (.slice a bs.length cap) := by simp [go_sem, hw1]
  have h9 : w1.heap[w.heap.size + 1]? = some (.cells #[.int .i64 0, .slice none 0 0] 24 (0, 0)) := by
    have := heap_alloc_new (w.alloc (Obj.cells #[.int .i64 p, .slice a bs.length cap] 24)) (Obj.cells #[.int .i64 0, .slice none 0 0] 24)
    simp only [World.size_alloc] at this
    rw [hw1]; exact this
  have hx1 : w.heap.size + 1 < w1.heap.size := by simp [hw1]
  clear hw1
  refine SL.rule (by kernel_rfl) [w.heap.size + 1] [9, 10, 11, 12, 13, 14, 15, 16, 17, 18, 19, 20, 21, 22, 23, 24, 25] [
    SL.pu 9 [] (.pointer (some ⟨w.heap.size, 0, none⟩)), SL.pu 10 [0] (.int .i64 p), SL.pu 11 [] (.pointer (some ⟨w.heap.size, 1, none⟩)), SL.pu 12 [2] (.slice a bs.length cap),
    SL.row 13 [3] [] w1.heap.size 39 4 bs.length (bcs bs),
    SL.pu 14 [] (.int .i64 x), SL.pu 15 [] (.int .i64 y), SL.pu 16 [] (.int .i64 m), SL.pu 17 [5, 6, 7] (.agg #[.int .i64 x, .int .i64 y, .int .i64 m, .int .i64 0]),
    SL.pu 18 [] (.int .i64 y), SL.pu 19 [] (.int .i64 x), SL.pu 20 [] (.int .i64 m), SL.pu 21 [11] (.int .i64 (-m)), SL.pu 22 [9, 10, 12] (.agg #[.int .i64 y, .int .i64 x, .int .i64 (-m), .int .i64 0]),
    SL.row 23 [8, 13] [] w1.heap.size 39 4 2 [.int .i64 x, .int .i64 y, .int .i64 m, .int .i64 0, .int .i64 y, .int .i64 x, .int .i64 (-m), .int .i64 0],
    SL.row 24 [4, 14] [4] w1.heap.size 39 4 (bs.length + 2) (bcs bs ++ [.int .i64 x, .int .i64 y, .int .i64 m, .int .i64 0, .int .i64 y, .int .i64 x, .int .i64 (-m), .int .i64 0]),
    SL.rowIn 25 [1, 15] [15] w1.heap.size 39 4 (bs.length + 2) (bcs bs ++ [.int .i64 x, .int .i64 y, .int .i64 m, .int .i64 0, .int .i64 y, .int .i64 x, .int .i64 (-m), .int .i64 0]) (fun u => .agg #[.int .i64 p, u]),
    SL.boxAtIn 8 [16, 18] [16, 18] (w.heap.size + 1) 24 w1.heap.size 39 4 (bs.length + 2) (bcs bs ++ [.int .i64 x, .int .i64 y, .int .i64 m, .int .i64 0, .int .i64 y, .int .i64 x, .int .i64 (-m), .int .i64 0]) (fun u => #[.int .i64 p, u]),
    SL.boxAt 8 [] [] (w.heap.size + 1) 24 #[.int .i64 0, .slice none 0 0]] [17] (by kernel_rfl) (by kernel_rfl) _ (SL.one_held (N := w.heap.size + 1) rfl rfl ⟨rfl, h9, rfl⟩ hx1) SL.one_apart ?_ ?_
  · refine ⟨?_, ?_, ?_, ?_, ?_, ?_, ?_, ?_, ?_, ?_, ?_, ?_, ?_, ?_, ?_, ?_, ?_, ?_, trivial⟩
    all_goals refine SL.ob fun us w' Fe hG hu hd hv K hK => ?_
    all_goals simp [SL.frame, SL.put', SL.Used, SL.Seen, SL.pu, SL.row, SL.box, SL.rowIn, SL.boxIn, SL.boxAt, SL.boxAtIn, Bd.v, Bd.cs, SL.rowSee, SL.puSee] at hu hv hK ⊢
    all_goals (obtain ⟨hg1, hg2⟩ := hG.cellsF)
    all_goals (have hsz := hG.size; simp only [World.size_drew] at hsz)
    all_goals (have hbw : BdsAt w' a bs.length cap bs := hb1'.chg hG.undrew (fun y hy => by have := (hb.at_ y hy).2.1; simp; omega))
    all_goals (have r0 : w'.cell? ⟨w.heap.size, 0, none⟩ = some (.int .i64 p) := (hg1 _ _ (by omega) (by simp <;> omega)).trans q0)
    all_goals (have r1 : w'.cell? ⟨w.heap.size, 1, none⟩ = some (.slice a bs.length cap) := (hg1 _ _ (by omega) (by simp <;> omega)).trans q1)
    all_goals try (go_step; refine hK _ _ _ _ (by simp [Act.put, *]; done) (SL.Chg.refl _ _) rfl rfl (by simp))
    · go_step
      refine (rcopied_any _ _ _ _ _ hbw (by omega)).mono ?_
      rintro e w2 ⟨v, rfl, ho2, hb2⟩
      exact hK _ v w2 _ (by simp [Act.put, *]) (.of_below hb2) (SL.row_base ho2 hsz) rfl (SL.row_bounds ho2)
    · obtain ⟨⟨u1, _⟩, u2, _⟩ := hu
      go_step
      refine hK _ _ _ _ (by simp [Act.put, *]; done) (.alloc _ _ _) (World.ownsRow_lit w' _ 2 hsz (by decide) rfl) rfl (by simp [Value.ownBlock])
    · obtain ⟨⟨u1, u2⟩, u3, u4⟩ := hu
      obtain ⟨sa, c, hsl, _⟩ := owns_slice u3
      refine wp_app elemB _ _ rfl u1 rfl hsl (RowAt.of_owns (hsl ▸ u3)) rfl (by simp [Value.oneCell']) (by unfold maxLen; omega) (by omega) hsz ?_
      intro v' w2 ho hg hb _ hat
      refine hK _ v' w2 _ rfl ?_ ho rfl ?_
      · exact .of_own hg (by rw [u2]; simp)
      · rw [u2]; exact SL.app_bounds u1 ho hat
    · obtain ⟨⟨u1, _⟩, u2, u3⟩ := hu
      obtain ⟨sa, c, hsl, _⟩ := owns_slice u2
      go_step
      refine hK _ _ _ _ (by simp [Act.put, *]; done) (.refl _ _) _ rfl (hsl ▸ u2) rfl ?_
      rw [u3]; simp [hsl]; exact fun k h => .inl h
    · obtain ⟨⟨u, hu1, u2, u3⟩, hu4, u4, u5⟩ := hu
      obtain ⟨sa, c, hsl, _⟩ := owns_slice u2
      subst hsl
      have c0 := (SL.cells_of u4).1 0
      have c1 := (SL.cells_of u4).1 1
      have f0 := (SL.cells_of u4).2
      simp at c0 c1
      have hne : w.heap.size + 1 ∉ (Value.slice sa (bs.length + 2) c).ownBlock.toList := fun h => by have := (SL.row_bounds u2 _ h).1; omega
      go_step
      refine hK _ undef _ _ (by simp [Act.put, *]; done) (.trans (.setCell _ (by simp [u5]) _) (.setCell _ (by simp [u5]) _)) hu4 _ (SL.heap_set (SL.heap_set u4 _) _) (SL.row_set (SL.row_set u2 hne _) hne _) rfl ?_
      rw [u5, u3]; simp; exact fun k h => .inl (.inl h)
  · intro us w' Fs hG hu hbd hd
    simp [SL.frame, SL.put', SL.Used, SL.Seen, SL.pu, SL.row, SL.box, SL.rowIn, SL.boxIn, SL.boxAt, SL.boxAtIn, Bd.v, Bd.cs, SL.rowSee, SL.puSee] at hu ⊢
    obtain ⟨u4, y, hh, ho, hF⟩ := hu
    obtain ⟨sa, c, hsl, _⟩ := owns_slice ho
    subst hsl
    have c0 := (SL.cells_of hh).1 0
    have c1 := (SL.cells_of hh).1 1
    simp at c0 c1
    go_wp2
    refine bodyPost_ret (v := .agg #[.int .i64 p, .slice sa (bs.length + 2) c]) (by simp [results, Try.results77, go_sem, *]) rfl ⟨_, rfl, by rw [← Ebs.out]; exact SL.row_base ho (by omega), ?_⟩
    exact hB1.trans (hG.belowF (B := w.heap.size) (by omega) (by simp <;> omega))
end Go.Proofs.Ytlkcfohmoeadbaa

/-
  The reference of layer 1, walked: asked, solved.
-/
namespace Go.Proofs.Ytlkcfohmoeadbaa
open Go.RowKit Go.Shelf
set_option maxHeartbeats 4000000
set_option maxRecDepth 100000

def rask (p : Int) (bs : List Bd) (x y : Int) : Int := if chk p bs = 0 then (if both p x y then 0 else 1) else chk p bs

theorem both_within (p x y : Int) : both p x y = (withinB x 0 (p - 1) && withinB y 0 (p - 1)) := by
  unfold both inP withinB
  rw [Bool.eq_iff_iff]
  simp

theorem rasked_any (p : Int) (a : Option Addr) (n cap : Nat) (bs : List Bd) (x y : Int) (w : World) (hb : BdsAt w a n cap bs) :
    Calls Try.prog 74 #[.agg #[.int .i64 p, .slice a n cap], .int .i64 x, .int .i64 y] w fun e w' => e = .returned (.int .i64 (rask p bs x y)) ∧ Below w.heap.size w w' := by
  have hbx := hb.below (w' := w.alloc (Obj.cells #[.int .i64 p, .slice a n cap] 24)) ((Below.refl _ _).alloc (Nat.le_refl _) _)
  have hC := rcheck_any p a n cap bs _ hbx
  unfold rask
  rw [both_within]
  by_cases h0 : chk p bs = 0
  · simp only [h0, if_true] at hC ⊢
    obtain ⟨bx, ex⟩ : ∃ b, withinB x 0 (p - 1) = b := ⟨_, rfl⟩
    obtain ⟨b2, ey⟩ : ∃ b, withinB y 0 (p - 1) = b := ⟨_, rfl⟩
    rw [ex, ey]
    cases bx <;> cases b2 <;>
    · go_enter Try.func74, Try.ntmps74
      go_wp2_with (first
        | (go_at_call 65; refine (hC).mono ?_; rintro e w1 ⟨rfl, hb1⟩; obtain ⟨hc1, hf1⟩ := bcell hb1; have hz1a := lt_size hb1 (b := w.heap.size) (by first | assumption | omega | (simp; done) | (simp; omega)))
        | (go_at_call 102; have hz0 := hb2; clear hz0; refine (rpoint_any _ _ _ _ _ _).mono ?_; rintro e w3 ⟨rfl, hb3⟩)
        | (go_at_call 102; refine (rpoint_any _ _ _ _ _ _).mono ?_; rintro e w2 ⟨rfl, hb2⟩; obtain ⟨hc2, hf2⟩ := bcell hb2; have hz2a := lt_size hb2 (b := w.heap.size) (by first | assumption | omega | (simp; done) | (simp; omega))))
      go_ret
      have z1 := hb1.size
      have z2 := hb2.size
      simp only [World.size_alloc] at z1
      exact ⟨rfl, ((((Below.refl _ w).alloc (Nat.le_refl _) _).trans (hb1.mono (by simp))).trans (hb2.mono (by omega))).trans (hb3.mono (by omega))⟩
  · have h0' : (chk p bs == 0) = false := by simpa using h0
    rw [if_neg h0]
    generalize chk p bs = c at *
    go_enter Try.func74, Try.ntmps74
    go_wp2_with (go_at_call 65; refine (hC).mono ?_; rintro e w1 ⟨rfl, hb1⟩; obtain ⟨hc1, hf1⟩ := bcell hb1; have hz1a := lt_size hb1 (b := w.heap.size) (by first | assumption | omega | (simp; done) | (simp; omega)))
    go_ret
    exact ⟨rfl, ((Below.refl _ _).alloc (Nat.le_refl _) _).trans (hb1.mono (by simp))⟩

theorem rsolved_any (p : Int) (a : Option Addr) (n cap : Nat) (bs : List Bd) (w : World) (hb : BdsAt w a n cap bs) (hs : Sys p bs) (hpt : Pts p bs) :
    Calls Try.prog 76 #[.agg #[.int .i64 p, .slice a n cap]] w fun e w' => e = .returned (.int .i64 (if okB p bs then 0 else 10)) ∧ Below w.heap.size w w' := by
  have hbx := hb.below (w' := w.alloc (Obj.cells #[.int .i64 p, .slice a n cap] 24)) ((Below.refl _ _).alloc (Nat.le_refl _) _)
  have hS := rsolve_any p a n cap bs _ hbx hs hpt
  have hE := (rsol_gsol hs hpt).1
  generalize rsol p bs = R at *
  obtain ⟨Rl, Rf⟩ := R
  simp only at hS hE
  subst hE
  generalize okB p bs = ok at *
  cases ok <;>
  · go_enter Try.func76, Try.ntmps76
    go_wp2_with (go_at_call 66; refine hS.mono ?_; rintro e w2 ⟨v, rfl, hb2, ho⟩)
    go_ret
    exact ⟨rfl, ((Below.refl _ _).alloc (Nat.le_refl _) _).trans (hb2.mono (by simp))⟩
end Go.Proofs.Ytlkcfohmoeadbaa

/-
  The reference of layer 1, walked: Attain.
-/
namespace Go.Proofs.Ytlkcfohmoeadbaa
open Go.RowKit Go.Shelf
set_option maxHeartbeats 4000000
set_option maxRecDepth 100000

theorem Pts.tied {p : Int} {bs : List Bd} (h : Pts p bs) {x y n : Int} (hxy : both p x y = true) : Pts p (tiedL bs x y n) := by
  rw [both_within] at hxy
  simp [withinB] at hxy
  intro b hb
  simp [tiedL] at hb
  rcases hb with hb | rfl | rfl
  · exact h b hb
  · simp; omega
  · simp; omega

def attOutL (p : Int) (bs : List Bd) (x y n : Int) : List Int := if attE p bs x y n = 0 ∧ attF p bs x y n = true then solR p (attT bs x y n) else []

theorem rAttain_any (p : Int) (a : Option Addr) (n cap : Nat) (bs : List Bd) (x y m : Int) (w : World) (hb : BdsAt w a n cap bs) :
    Calls Try.prog 26 #[.agg #[.int .i64 p, .slice a n cap], .int .i64 x, .int .i64 y, .int .i64 m] w fun e w' => ∃ v, e = .returned (.tuple #[v, .bool (decide (attE p bs x y m = 0) && attF p bs x y m), .int .i64 (attE p bs x y m)]) ∧ Below w.heap.size w w' ∧
      w'.ownsRow w.heap.size 3 1 v (attOutL p bs x y m).length ((attOutL p bs x y m).map (.int .i64)) := by
  have hbx := hb.below (w' := w.alloc (Obj.cells #[.int .i64 p, .slice a n cap] 24)) ((Below.refl _ _).alloc (Nat.le_refl _) _)
  have hA := rasked_any p a n cap bs x y _ hbx
  have hN := fun w1 => rwithin_any m (-100000000) 100000000 w1
  by_cases hr : rask p bs x y = 0
  · have hr2 : chk p bs = 0 ∧ both p x y = true := by
      unfold rask at hr
      split at hr
      · rename_i h; refine ⟨h, ?_⟩
        cases hbo : both p x y with
        | true => rfl
        | false => rw [hbo] at hr; simp at hr
      · exact absurd hr ‹_›
    obtain ⟨h0, hxy⟩ := hr2
    simp only [hr] at hA
    by_cases hm : withinB m (-100000000) 100000000 = true
    · simp only [hm] at hN
      have hm2 : nearB m = true := hm
      have hS0 := Sys.of_chk h0
      have hP0 := Pts.of_chk h0
      have h4 := chk_400 h0
      have hD := fun w1 (hb1 : BdsAt w1 a n cap bs) => rsolved_any p a n cap bs w1 hb1 hS0 hP0
      have hE : attE p bs x y m = if okB p bs = true then 0 else 10 := by simp [attE, h0, hxy, hm2]
      by_cases hok : okB p bs = true
      · have hE0 : attE p bs x y m = 0 := by rw [hE, if_pos hok]
        simp only [hok, if_true] at hD
        by_cases exy : x = y
        · subst exy
          by_cases hm0 : m = 0
          · subst hm0
            have hR := fun w1 (hb1 : BdsAt w1 a n cap bs) => rsolve_any p a n cap bs w1 hb1 hS0 hP0
            have hG := rsol_gsol hS0 hP0
            have hF : attF p bs x x 0 = true := by simp [attF, attT, hok]
            have hO : attOutL p bs x x 0 = solR p bs := by simp [attOutL, hE0, hF, attT]
            rw [hE0, hF, hO]
            rw [hG.2.1 hok, hG.1, hok] at hR
            have hlen : (solR p bs).length ≤ 100 := by rw [solR_len bs ⟨hS0.p1, hS0.p2⟩]; have := hS0.p2; omega
            generalize solR p bs = R at *
            clear hG hE hE0 hF hO hS0 hP0 h4 hr h0 hxy hm hm2 hok
            go_enter Try.func26, Try.ntmps26
            go_wp2_with (first
              | (go_at_call 74; refine (hA).mono ?_; rintro e w1 ⟨rfl, hb1⟩; obtain ⟨hc1, hf1⟩ := bcell hb1; have hz1a := lt_size hb1 (b := w.heap.size) (by first | assumption | omega | (simp; done) | (simp; omega)))
              | (go_at_call 75; refine (hN _).mono ?_; rintro e w2 ⟨rfl, rfl⟩)
              | (go_at_call 76; refine (hD _ (hbx.below hb1)).mono ?_; rintro e w3 ⟨rfl, hb3⟩; obtain ⟨hc3, hf3⟩ := bcell hb3; have hz3a := lt_size hb3 (b := w.heap.size) (by first | assumption | omega | (simp; done) | (simp; omega))))
            have z1 := hb1.size
            have z3 := hb3.size
            simp only [World.size_alloc] at z1
            have B3 : Below w.heap.size w w3 := (((Below.refl _ w).alloc (Nat.le_refl _) _).trans (hb1.mono (by simp))).trans (hb3.mono (by omega))
            refine (hR _ ((hb.below B3).below ((Below.refl _ _).alloc (Nat.le_refl _) _))).mono ?_
            rintro e w4 ⟨v, rfl, hb4, ho⟩
            go_wp2
            refine bodyPost_ret (v := .tuple #[v, .bool true, .int .i64 0]) (by simp [results, Try.results26, go_sem, *]) rfl ⟨v, rfl, ?_, SL.row_base ho (by simp; omega)⟩
            exact (B3.alloc (by omega) _).trans (hb4.mono (by simp; omega))
          · have hm0' : (m == 0) = false := by simpa using hm0
            have hF : attF p bs x x m = false := by simp [attF, hm0]
            have hO : attOutL p bs x x m = [] := by simp [attOutL, hF]
            rw [hE0, hF, hO]
            clear hE hE0 hF hO hS0 hP0 h4 hr h0 hxy hm hm2 hok
            go_enter Try.func26, Try.ntmps26
            go_wp2_with (first
              | (go_at_call 74; refine (hA).mono ?_; rintro e w1 ⟨rfl, hb1⟩; obtain ⟨hc1, hf1⟩ := bcell hb1; have hz1a := lt_size hb1 (b := w.heap.size) (by first | assumption | omega | (simp; done) | (simp; omega)))
              | (go_at_call 75; refine (hN _).mono ?_; rintro e w2 ⟨rfl, rfl⟩)
              | (go_at_call 76; refine (hD _ (hbx.below hb1)).mono ?_; rintro e w3 ⟨rfl, hb3⟩; obtain ⟨hc3, hf3⟩ := bcell hb3; have hz3a := lt_size hb3 (b := w.heap.size) (by first | assumption | omega | (simp; done) | (simp; omega))))
            have z1 := hb1.size
            have z3 := hb3.size
            simp only [World.size_alloc] at z1
            have B3 : Below w.heap.size w w3 := (((Below.refl _ w).alloc (Nat.le_refl _) _).trans (hb1.mono (by simp))).trans (hb3.mono (by omega))
            refine bodyPost_ret (v := .tuple #[.slice none 0 0, .bool false, .int .i64 0]) (by simp [results, Try.results26, go_sem, *]) rfl ⟨_, rfl, B3.alloc (by omega) _, World.ownsRow_nil _ _ _ _⟩
        · have exy' : (x == y) = false := by simpa using exy
          have hn1 : -100000000 ≤ m := by simp [nearB, withinB] at hm2; omega
          have hn2 : m ≤ 100000000 := by simp [nearB, withinB] at hm2; omega
          have hT := attT bs x y m = tiedL bs x y m
          have eT : attT bs x y m = tiedL bs x y m := by simp [attT, tiedL, exy]
          have hS1 : Sys p (tiedL bs x y m) := Sys.tied hS0 h4 hxy hm2
          have hP1 : Pts p (tiedL bs x y m) := Pts.tied hP0 hxy
          have hR := fun a2 n2 c2 w1 (hb1 : BdsAt w1 a2 n2 c2 (tiedL bs x y m)) => rsolve_any p a2 n2 c2 (tiedL bs x y m) w1 hb1 hS1 hP1
          have hTd := fun w1 (hb1 : BdsAt w1 a n cap bs) => rtied_any p a n cap bs x y m w1 hb1 h4 hn1 hn2
          have hG := rsol_gsol hS1 hP1
          have hF : attF p bs x y m = okB p (tiedL bs x y m) := by simp [attF, eT, exy]
          have hO : attOutL p bs x y m = (rsol p (tiedL bs x y m)).1 := by
            unfold attOutL
            rw [hF, eT]
            cases ho : okB p (tiedL bs x y m) with
            | true => rw [if_pos ⟨hE0, rfl⟩, (hG.2.1 ho)]
            | false => rw [if_neg (by simp), (hG.2.2 ho)]
          have hTl : (tiedL bs x y m).length ≤ 402 := by simp [tiedL]; omega
          rw [hE0, hF, hO, ← hG.1]
          generalize rsol p (tiedL bs x y m) = R at *
          obtain ⟨Rl, Rf⟩ := R
          simp only at hR ⊢
          generalize tiedL bs x y m = T at *
          clear hG hE hE0 hF hO hS0 hP0 h4 hr h0 hxy hm hm2 hok hS1 hP1 eT hn1 hn2 hT
          go_enter Try.func26, Try.ntmps26
          go_wp2_with (first
            | (go_at_call 74; refine (hA).mono ?_; rintro e w1 ⟨rfl, hb1⟩; obtain ⟨hc1, hf1⟩ := bcell hb1; have hz1a := lt_size hb1 (b := w.heap.size) (by first | assumption | omega | (simp; done) | (simp; omega)))
            | (go_at_call 75; refine (hN _).mono ?_; rintro e w2 ⟨rfl, rfl⟩)
            | (go_at_call 76; refine (hD _ (hbx.below hb1)).mono ?_; rintro e w3 ⟨rfl, hb3⟩; obtain ⟨hc3, hf3⟩ := bcell hb3; have hz3a := lt_size hb3 (b := w.heap.size) (by first | assumption | omega | (simp; done) | (simp; omega))))
          have z1 := hb1.size
          have z3 := hb3.size
          simp only [World.size_alloc] at z1
          have B3 : Below w.heap.size w w3 := (((Below.refl _ w).alloc (Nat.le_refl _) _).trans (hb1.mono (by simp))).trans (hb3.mono (by omega))
          refine (hTd _ ((hb.below B3).below ((Below.refl _ _).alloc (Nat.le_refl _) _))).mono ?_
          rintro e w4 ⟨v, rfl, ho4, hb4⟩
          obtain ⟨ta, tc, rfl, hta⟩ := owns_slice ho4
          obtain ⟨hc4, hf4⟩ := bcell hb4
          have z4 := hb4.size
          simp only [World.size_alloc] at z4
          have hne : w3.heap.size ∉ (Value.slice ta T.length tc).ownBlock.toList := fun h => by
            have hk := (SL.row_bounds ho4 _ h).1
            simp only [World.size_alloc] at hk
            omega
          go_wp2_with fail
          refine (hR ta _ tc _ (BdsAt.of_owns (SL.row_set (SL.row_set ho4 hne _) hne _) (by omega))).mono ?_
          rintro e w5 ⟨v, rfl, hb5, ho5⟩
          go_wp2
          have B4 := (B3.alloc (by omega) (Obj.cells #[.int .i64 p, .slice a n cap] 24)).trans (hb4.mono (by simp; omega))
          refine bodyPost_ret (v := .tuple #[v, .bool Rf, .int .i64 0]) (by simp [results, Try.results26, go_sem, *]) rfl ⟨v, rfl, ?_, SL.row_base ho5 (by simp; omega)⟩
          exact ((B4.setCell (by simp; omega) _).setCell (by simp; omega) _).trans (hb5.mono (by simp; omega))
      · have hok' : okB p bs = false := by simpa using hok
        have hE1 : attE p bs x y m = 10 := by rw [hE, if_neg hok]
        have hO : attOutL p bs x y m = [] := by simp [attOutL, hE1]
        simp only [hok', Bool.false_eq_true, if_false] at hD
        rw [hE1, hO]
        clear hE hE1 hO hS0 hP0 h4 hr h0 hxy hm hm2 hok hok'
        go_enter Try.func26, Try.ntmps26
        go_wp2_with (first
          | (go_at_call 74; refine (hA).mono ?_; rintro e w1 ⟨rfl, hb1⟩; obtain ⟨hc1, hf1⟩ := bcell hb1; have hz1a := lt_size hb1 (b := w.heap.size) (by first | assumption | omega | (simp; done) | (simp; omega)))
          | (go_at_call 75; refine (hN _).mono ?_; rintro e w2 ⟨rfl, rfl⟩)
          | (go_at_call 76; refine (hD _ (hbx.below hb1)).mono ?_; rintro e w3 ⟨rfl, hb3⟩; obtain ⟨hc3, hf3⟩ := bcell hb3; have hz3a := lt_size hb3 (b := w.heap.size) (by first | assumption | omega | (simp; done) | (simp; omega))))
        have z1 := hb1.size
        have z3 := hb3.size
        simp only [World.size_alloc] at z1
        have B3 : Below w.heap.size w w3 := (((Below.refl _ w).alloc (Nat.le_refl _) _).trans (hb1.mono (by simp))).trans (hb3.mono (by omega))
        refine bodyPost_ret (v := .tuple #[.slice none 0 0, .bool false, .int .i64 10]) (by simp [results, Try.results26, go_sem, *]) rfl ⟨_, rfl, B3, World.ownsRow_nil _ _ _ _⟩
    · have hm' : withinB m (-100000000) 100000000 = false := by simpa using hm
      have hE1 : attE p bs x y m = 1 := by simp [attE, h0, hxy, nearB, hm']
      have hO : attOutL p bs x y m = [] := by simp [attOutL, hE1]
      simp only [hm'] at hN
      rw [hE1, hO]
      clear hE1 hO hr h0 hxy hm hm'
      go_enter Try.func26, Try.ntmps26
      go_wp2_with (first
        | (go_at_call 74; refine (hA).mono ?_; rintro e w1 ⟨rfl, hb1⟩; obtain ⟨hc1, hf1⟩ := bcell hb1; have hz1a := lt_size hb1 (b := w.heap.size) (by first | assumption | omega | (simp; done) | (simp; omega)))
        | (go_at_call 75; refine (hN _).mono ?_; rintro e w2 ⟨rfl, rfl⟩))
      refine bodyPost_ret (v := .tuple #[.slice none 0 0, .bool false, .int .i64 1]) (by simp [results, Try.results26, go_sem, *]) rfl ⟨_, rfl, ((Below.refl _ w).alloc (Nat.le_refl _) _).trans (hb1.mono (by simp)), World.ownsRow_nil _ _ _ _⟩
  · have hE1 : attE p bs x y m = rask p bs x y := by
      unfold attE rask at *
      by_cases h0 : chk p bs = 0
      · simp only [h0, if_true] at hr ⊢
        cases hbo : both p x y with
        | true => rw [hbo] at hr; simp at hr
        | false => simp
      · simp [h0]
    have hO : attOutL p bs x y m = [] := by simp [attOutL, hE1, hr]
    rw [hE1, hO, decide_eq_false hr]
    have hr' : (rask p bs x y == 0) = false := by simpa using hr
    clear hE1 hO hN hr
    generalize rask p bs x y = c at *
    go_enter Try.func26, Try.ntmps26
    go_wp2_with (go_at_call 74; refine (hA).mono ?_; rintro e w1 ⟨rfl, hb1⟩; obtain ⟨hc1, hf1⟩ := bcell hb1; have hz1a := lt_size hb1 (b := w.heap.size) (by first | assumption | omega | (simp; done) | (simp; omega)))
    refine bodyPost_ret (v := .tuple #[.slice none 0 0, .bool false, .int .i64 c]) (by simp [results, Try.results26, go_sem, *]) rfl ⟨_, rfl, ((Below.refl _ w).alloc (Nat.le_refl _) _).trans (hb1.mono (by simp)), World.ownsRow_nil _ _ _ _⟩
end Go.Proofs.Ytlkcfohmoeadbaa

/-
  The law GaugeAttains, walked: it returns true.
-/
namespace Go.Proofs.Ytlkcfohmoeadbaa
open Go.RowKit Go.Shelf
set_option maxHeartbeats 2000000
set_option maxRecDepth 100000

theorem attOutL_small (p : Int) (bs : List Bd) (x y m : Int) : (attOutL p bs x y m).length ≤ 100 := by
  unfold attOutL
  split
  · unfold solR
    simp only [List.length_take]
    have := (gsol_len p (attT bs x y m)).1
    omega
  · simp

theorem gAttain_out (p : Int) (a : Option Addr) (n cap : Nat) (bs : List Bd) (x y m : Int) (w : World) (hb : BdsAt w a n cap bs) :
    Calls Try.prog 25 #[.agg #[.int .i64 p, .slice a n cap], .int .i64 x, .int .i64 y, .int .i64 m] w fun e w' => ∃ v, e = .returned (.tuple #[v, .bool (decide (attE p bs x y m = 0) && attF p bs x y m), .int .i64 (attE p bs x y m)]) ∧ Below w.heap.size w w' ∧
      w'.ownsRow w.heap.size 3 1 v (attOutL p bs x y m).length ((attOutL p bs x y m).map (.int .i64)) := by
  refine (gAttain_any p a n cap bs x y m w hb).mono ?_
  rintro e w' ⟨v, rfl, hb2, h1, h2⟩
  refine ⟨v, rfl, hb2, ?_⟩
  unfold attOutL
  by_cases h : attE p bs x y m = 0 ∧ attF p bs x y m = true
  · rw [if_pos h]
    have h3 := h2 (by simp [h])
    have hp : chk p bs = 0 := by
      by_cases h0 : chk p bs = 0
      · exact h0
      · have := h.1; simp only [attE, if_neg h0] at this; exact absurd this h0
    have hS := Sys.of_chk hp
    rwa [show p.toNat = (solR p (attT bs x y m)).length from (solR_len _ ⟨hS.p1, hS.p2⟩).symm] at h3
  · rw [if_neg h]
    have h3 := h1 (by
      rw [Bool.and_eq_false_iff]
      by_cases h0 : attE p bs x y m = 0
      · right; simpa using fun h4 => h ⟨h0, h4⟩
      · left; simpa using h0)
    rw [h3]
    exact World.ownsRow_nil _ _ _ _

theorem law_attains (p : Int) (a : Option Addr) (n cap : Nat) (bs : List Bd) (x y m : Int) (w : World) (hb : BdsAt w a n cap bs) (hn : n ≤ 140737488351232) :
    Calls Try.prog 4 #[.agg #[.int .i64 p, .slice a n cap], .int .i64 x, .int .i64 y, .int .i64 m] w fun e w' => e = .returned (.bool true) ∧ Below w.heap.size w w' := by
  have hbx := hb.below (w' := w.alloc (Obj.cells #[.int .i64 p, .slice a n cap] 24)) ((Below.refl _ _).alloc (Nat.le_refl _) _)
  have hW := fun w1 => lwide_any p a n cap w1 hn
  by_cases hn4 : n ≤ 403
  · have h1 : decide (n ≤ 403) = true := by simpa using hn4
    simp only [h1] at hW
    have hSX := fun w1 (hb1 : BdsAt w1 a n cap bs) => gAttain_out p a n cap bs x y m w1 hb1
    have hRX := fun w1 (hb1 : BdsAt w1 a n cap bs) => rAttain_any p a n cap bs x y m w1 hb1
    have hX := attOutL_small p bs x y m
    generalize attOutL p bs x y m = X at *
    generalize (decide (attE p bs x y m = 0) && attF p bs x y m) = ok at *
    generalize attE p bs x y m = c at *
    have o1 : (ok == ok) = true := by simp
    have c1 : (c == c) = true := by simp
    clear hn4 hn
    go_enter Try.func4, Try.ntmps4
    go_wp2_with (first
      | (go_at_call 20; refine (hW _).mono ?_; rintro e w0 ⟨rfl, hb0⟩; obtain ⟨hc0, hf0⟩ := bcell hb0; have hz0a := lt_size hb0 (b := w.heap.size) (by first | assumption | omega | (simp; done) | (simp; omega)))
      | (go_at_call 25; refine (hSX _ (hbx.below hb0)).mono ?_; rintro e w1 ⟨v1, rfl, hb1, ho1⟩; obtain ⟨hc1, hf1⟩ := bcell hb1; have hz1a := lt_size hb1 (b := w.heap.size) (by first | assumption | omega | (simp; done) | (simp; omega)); obtain ⟨sa, sc, rfl, hsa⟩ := owns_slice ho1)
      | (go_at_call 26; refine (hRX _ ((hbx.below hb0).below hb1)).mono ?_; rintro e w2 ⟨v2, rfl, hb2, ho2⟩; obtain ⟨hc2, hf2⟩ := bcell hb2; have hz2a := lt_size hb2 (b := w.heap.size) (by first | assumption | omega | (simp; done) | (simp; omega)); obtain ⟨ta, tc, rfl, hta⟩ := owns_slice ho2)
      | (go_at_call 21; refine (lalive_any _).mono ?_; rintro e w3 ⟨rfl, hb3⟩; obtain ⟨hc3, hf3⟩ := bcell hb3; have hz3a := lt_size hb3 (b := w.heap.size) (by first | assumption | omega | (simp; done) | (simp; omega)))
      | (go_at_call 24; refine (rsame_yes _ _ _ _ _ _ X _ (own_ints ho1 ((hb2.mono (Nat.le_refl _)).trans (hb3.mono hb2.size)) (by simpa using hX)) (own_ints ho2 hb3 hX)).mono ?_; rintro e w4 ⟨rfl, hb4⟩)
      | (trace_state; fail))
    go_ret
    have z0 := hb0.size
    have z1 := hb1.size
    have z2 := hb2.size
    have z3 := hb3.size
    simp at z0
    exact ⟨rfl, ((((((Below.refl _ w).alloc (Nat.le_refl _) _).trans (hb0.mono (by simp))).trans (hb1.mono (by omega))).trans (hb2.mono (by omega))).trans (hb3.mono (by omega))).trans (hb4.mono (by omega))⟩
  · have h1 : decide (n ≤ 403) = false := by simpa using hn4
    simp only [h1] at hW
    go_enter Try.func4, Try.ntmps4
    go_wp2_with (first
      | (go_at_call 20; refine (hW _).mono ?_; rintro e w0 ⟨rfl, hb0⟩; obtain ⟨hc0, hf0⟩ := bcell hb0; have hz0a := lt_size hb0 (b := w.heap.size) (by first | assumption | omega | (simp; done) | (simp; omega)))
      | (go_at_call 21; refine (lalive_any _).mono ?_; rintro e w3 ⟨rfl, hb3⟩; obtain ⟨hc3, hf3⟩ := bcell hb3; have hz3a := lt_size hb3 (b := w.heap.size) (by first | assumption | omega | (simp; done) | (simp; omega))))
    go_ret
    have z0 := hb0.size
    simp at z0
    exact ⟨rfl, (((Below.refl _ w).alloc (Nat.le_refl _) _).trans (hb0.mono (by simp))).trans (hb3.mono (by omega))⟩
end Go.Proofs.Ytlkcfohmoeadbaa
