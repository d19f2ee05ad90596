/-
  Lemmas and walks for the laws on bounds and their sums; the parts' own heads say what each proves, for every input.
-/
import Derived.Test.YtlkcfohmoeadbaaGreatPk09
set_option linter.unusedSimpArgs false
set_option linter.unusedVariables false
set_option linter.unnecessarySimpa false
/-
  Gauge, walked: Attain.
-/
namespace Go.Proofs.YtlkcfohmoeadbaaGreat
open Go.RowKit Go.Shelf
set_option maxHeartbeats 1000000
set_option maxRecDepth 100000

def attT (bs : List Bd) (x y n : Int) : List Bd := if x = y then bs else bs ++ [⟨x, y, n, 0⟩, ⟨y, x, -n, 0⟩]
def nearB (n : Int) : Bool := withinB n (-100000000) 100000000
def attF (p : Int) (bs : List Bd) (x y n : Int) : Bool := !(decide (x = y) && decide (n ≠ 0)) && okB p (attT bs x y n)
def attE (p : Int) (bs : List Bd) (x y n : Int) : Int := if chk p bs = 0 then (if both p x y then (if nearB n then (if okB p bs then 0 else 10) else 1) else 1) else chk p bs

theorem Sys.tied {p : Int} {bs : List Bd} (h : Sys p bs) (h4 : bs.length ≤ 400) {x y n : Int} (hxy : both p x y = true) (hn : nearB n = true) : Sys p (bs ++ [⟨x, y, n, 0⟩, ⟨y, x, -n, 0⟩]) := by
  obtain ⟨⟨h1, h2⟩, h3, h5⟩ := both_in hxy
  have h6 := h.p2
  have h7 := withinB_iff.1 hn
  refine ⟨h.p1, h.p2, by simp; omega, fun b hb => ?_⟩
  rw [List.mem_append] at hb
  rcases hb with hb | hb
  · exact h.inr b hb
  · simp at hb
    rcases hb with rfl | rfl <;> exact ⟨by simp only []; omega, by simp only []; omega, by simp only []; omega, by simp only []; omega, by simp only []; omega, by simp only []; omega⟩

/-- What Attain$1 ends in. -/
def attEnd (p : Int) (bs : List Bd) (x y n : Int) (OB FB : Nat) (w1 : World) (e : Ending) (w' : World) : Prop :=
  ((both p x y && nearB n) = false → e = .panicked gaveUp ∧ Below w1.heap.size w1 w') ∧ ((both p x y && nearB n) = true → okB p bs = false → e = .returned (.int .i64 10) ∧ Below w1.heap.size w1 w') ∧
  ((both p x y && nearB n) = true → okB p bs = true → e = .returned (.int .i64 0) ∧ SL.Chg [OB, FB] w1 w' ∧ ∃ v, w'.heap[OB]? = some (.cells #[v] 27 (0, 0)) ∧ w'.heap[FB]? = some (.cells #[.bool (attF p bs x y n)] 4 (0, 0)) ∧
    (attF p bs x y n = false → v = .slice none 0 0) ∧ (attF p bs x y n = true → w'.ownsRow w1.heap.size 3 1 v p.toNat ((solR p (attT bs x y n)).map (.int .i64))))

theorem gAttain1_any (p : Int) (a : Option Addr) (len cap : Nat) (bs : List Bd) (x y n : Int) (SB BA BB NB OB FB : Nat) (w1 : World) (hs : Sys p bs) (h4 : bs.length ≤ 400) (hb : BdsAt w1 a len cap bs)
    (c0 : w1.cell? ⟨SB, 0, none⟩ = some (.int .i64 p)) (c1 : w1.cell? ⟨SB, 1, none⟩ = some (.slice a len cap)) (ca : w1.cell? ⟨BA, 0, none⟩ = some (.int .i64 x)) (cb : w1.cell? ⟨BB, 0, none⟩ = some (.int .i64 y)) (cn : w1.cell? ⟨NB, 0, none⟩ = some (.int .i64 n))
    (hO : w1.heap[OB]? = some (.cells #[.slice none 0 0] 27 (0, 0))) (hF : w1.heap[FB]? = some (.cells #[.bool false] 4 (0, 0))) (hne : OB ≠ FB) :
    Calls Tryz.prog 56 #[.pointer (some ⟨SB, 0, none⟩), .pointer (some ⟨BA, 0, none⟩), .pointer (some ⟨BB, 0, none⟩), .pointer (some ⟨NB, 0, none⟩), .pointer (some ⟨OB, 0, none⟩), .pointer (some ⟨FB, 0, none⟩)] w1 (attEnd p bs x y n OB FB w1) := by
  have z0 := World.block_lt_of_cell? w1 _ c0
  have z1 := World.block_lt_of_cell? w1 _ ca
  have z2 := World.block_lt_of_cell? w1 _ cb
  have z3 := World.block_lt_of_cell? w1 _ cn
  have z4 := (Array.getElem?_eq_some_iff.1 hO).1
  have z5 := (Array.getElem?_eq_some_iff.1 hF).1
  simp only at z0 z1 z2 z3
  have hp := hs.p1
  have hp2 := hs.p2
  have hpts := fun (w : World) (al : Option Addr) (m c : Nat) (h : IntsAt w al m c [x, y]) => gpoints_any p a len cap al m c [x, y] w h ⟨hp, hp2⟩
  have hso := fun (w : World) (h : BdsAt w a len cap bs) => gsolvable_any p a len cap bs w h hs
  have hnew : IntsAt (w1.alloc (Obj.cells #[.int .i64 x, .int .i64 y] 3)) (some ⟨w1.heap.size, 0, none⟩) 2 2 [x, y] :=
    ⟨rfl, by simp, RowAt.of_heap (World.alloc_heap_new w1 _)⟩
  have hbn := hb.below (w' := w1.alloc (Obj.cells #[.int .i64 x, .int .i64 y] 3)) ((Below.refl _ _).alloc (Nat.le_refl _) _)
  change ∀ (w : World) (al : Option Addr) (m c : Nat) (_ : IntsAt w al m c [x, y]), Calls Tryz.prog 57 #[.agg #[.int .i64 p, .slice a len cap], .slice al m c] w fun e w' => e = (if both p x y then .returned (.tuple #[]) else .panicked gaveUp) ∧ Below w.heap.size w w' at hpts
  have hT := fun h1 h2 => hs.tied h4 (x := x) (y := y) (n := n) h1 h2
  have hnear := @withinB_iff n (-100000000) 100000000
  change (nearB n = true ↔ _) at hnear
  unfold attEnd
  have hw := fun w => gwithin_any n (-100000000) 100000000 w
  change ∀ w, Calls Tryz.prog 35 #[.int .i64 n, .int .i64 (-100000000), .int .i64 100000000] w fun e w' => e = .returned (.bool (nearB n)) ∧ w = w' at hw
  cases o1 : both p x y with
  | false =>
    simp only [o1] at hpts ⊢
    go_enter Tryz.func56, Tryz.ntmps56
    go_wp2_with (go_at_call 57; refine (hpts _ _ _ _ hnew).mono ?_; rintro e w2 ⟨rfl, hb2⟩)
    exact ⟨rfl, fun _ => ⟨rfl, ((Below.refl _ w1).alloc (Nat.le_refl _) _).trans (hb2.mono (by simp))⟩, (fun h => by cases h), (fun h => by cases h)⟩
  | true =>
    simp only [o1] at hpts ⊢
    cases o2 : nearB n with
    | false =>
      simp only [o2] at hw ⊢
      go_enter Tryz.func56, Tryz.ntmps56
      go_wp2_with (first
        | (go_at_call 57; refine (hpts _ _ _ _ hnew).mono ?_; rintro e w2 ⟨rfl, hb2⟩; obtain ⟨hc2, hf2⟩ := bcell hb2; have hz2a := lt_size hb2 (b := SB) (by first | assumption | omega | (simp; done) | (simp; omega)); have hz2b := lt_size hb2 (b := BA) (by first | assumption | omega | (simp; done) | (simp; omega)); have hz2c := lt_size hb2 (b := BB) (by first | assumption | omega | (simp; done) | (simp; omega)); have hz2d := lt_size hb2 (b := NB) (by first | assumption | omega | (simp; done) | (simp; omega)))
        | (go_at_call 35; refine (hw _).mono ?_; rintro e w3 ⟨rfl, rfl⟩)
        | (go_at_call 34; refine (gneed_no _).mono ?_; rintro e w3 ⟨rfl, rfl⟩))
      exact ⟨rfl, fun _ => ⟨rfl, ((Below.refl _ w1).alloc (Nat.le_refl _) _).trans (hb2.mono (by simp))⟩, (fun h => by cases h), (fun h => by cases h)⟩
    | true =>
      simp only [o2] at hw ⊢
      cases o3 : okB p bs with
      | false =>
        simp only [o3] at hso ⊢
        go_enter Tryz.func56, Tryz.ntmps56
        go_wp2_with (first
          | (go_at_call 57; refine (hpts _ _ _ _ hnew).mono ?_; rintro e w2 ⟨rfl, hb2⟩; obtain ⟨hc2, hf2⟩ := bcell hb2; have hz2a := lt_size hb2 (b := SB) (by first | assumption | omega | (simp; done) | (simp; omega)); have hz2b := lt_size hb2 (b := BA) (by first | assumption | omega | (simp; done) | (simp; omega)); have hz2c := lt_size hb2 (b := BB) (by first | assumption | omega | (simp; done) | (simp; omega)); have hz2d := lt_size hb2 (b := NB) (by first | assumption | omega | (simp; done) | (simp; omega)))
          | (go_at_call 35; refine (hw _).mono ?_; rintro e w3 ⟨rfl, rfl⟩)
          | (go_at_call 34; refine (gneed_yes _).mono ?_; rintro e w3 ⟨rfl, rfl⟩)
          | (go_at_call 58; refine (hso _ (hbn.below hb2)).mono ?_; rintro e w3 ⟨rfl, hb3⟩))
        have hz2 := hb2.size
        simp only [World.size_alloc] at hz2
        go_ret
        exact ⟨(fun h => by cases h), fun _ _ => ⟨rfl, (((Below.refl _ w1).alloc (Nat.le_refl _) _).trans (hb2.mono (by simp))).trans (hb3.mono (by omega))⟩, (fun _ h => by cases h)⟩
      | true =>
        simp only [o3] at hso ⊢
        have hpts' := Lib.hid hpts
        have hso' := Lib.hid hso
        clear hpts hso
        have hend : ∀ (v : Value) (f : Bool) (w5 : World), Below w1.heap.size w1 w5 → attF p bs x y n = f → (f = false → v = .slice none 0 0) → (f = true → w5.ownsRow w1.heap.size 3 1 v p.toNat ((solR p (attT bs x y n)).map (.int .i64))) →
            SL.Chg [OB, FB] w1 ((w5.setCell ⟨OB, 0, none⟩ v).setCell ⟨FB, 0, none⟩ (.bool f)) ∧ ∃ v', ((w5.setCell ⟨OB, 0, none⟩ v).setCell ⟨FB, 0, none⟩ (.bool f)).heap[OB]? = some (.cells #[v'] 27 (0, 0)) ∧
            ((w5.setCell ⟨OB, 0, none⟩ v).setCell ⟨FB, 0, none⟩ (.bool f)).heap[FB]? = some (.cells #[.bool (attF p bs x y n)] 4 (0, 0)) ∧ (attF p bs x y n = false → v' = .slice none 0 0) ∧
            (attF p bs x y n = true → ((w5.setCell ⟨OB, 0, none⟩ v).setCell ⟨FB, 0, none⟩ (.bool f)).ownsRow w1.heap.size 3 1 v' p.toNat ((solR p (attT bs x y n)).map (.int .i64))) := fun v f w5 hB5 hf h1 h2 => by
          subst hf
          have gO := (hB5.block OB z4).trans hO
          have gF := (hB5.block FB z5).trans hF
          refine ⟨(SL.Chg.of_below hB5).trans ((SL.Chg.setCell _ (by simp) _).trans (.setCell _ (by simp) _)), v, ?_, ?_, h1, fun h => ?_⟩
          · rw [Below.heap_setCell _ _ _ _ (by simpa using hne)]; exact SL.heap_set gO _
          · exact SL.heap_set ((Below.heap_setCell _ _ _ _ (by simpa using hne.symm)).trans gF) _
          · exact SL.row_set (SL.row_set (h2 h) (fun h => by have := (SL.row_bounds (h2 ‹_›) _ h).1; simp at this; omega) _) (fun h => by have := (SL.row_bounds (h2 ‹_›) _ h).1; simp at this; omega) _
        have Hend := Lib.hid hend
        clear hend
        by_cases exy : x = y
        · subst exy
          have exx : (x == x) = true := by simp
          by_cases en : n = 0
          · subst en
            have hT0 : attT bs x x 0 = bs := by simp [attT]
            have hF0 : attF p bs x x 0 = true := by simp [attF, hT0, o3]
            have hsol := fun w (h : BdsAt w a len cap bs) => gsolved_any p a len cap bs w h hs
            simp only [o3] at hsol
            have HF0 := Lib.hid hF0
            have HT0 := Lib.hid hT0
            have Hsol := Lib.hid hsol
            clear hT0 hF0 hsol
            go_enter Tryz.func56, Tryz.ntmps56
            go_wp2_with (first
              | (go_at_call 57; refine (hpts'.out _ _ _ _ hnew).mono ?_; rintro e w2 ⟨rfl, hb2⟩; obtain ⟨hc2, hf2⟩ := bcell hb2; have hz2a := lt_size hb2 (b := SB) (by first | assumption | omega | (simp; done) | (simp; omega)); have hz2b := lt_size hb2 (b := BA) (by first | assumption | omega | (simp; done) | (simp; omega)); have hz2c := lt_size hb2 (b := BB) (by first | assumption | omega | (simp; done) | (simp; omega)); have hz2d := lt_size hb2 (b := NB) (by first | assumption | omega | (simp; done) | (simp; omega)))
              | (go_at_call 35; refine (hw _).mono ?_; rintro e w3 ⟨rfl, rfl⟩)
              | (go_at_call 34; refine (gneed_yes _).mono ?_; rintro e w3 ⟨rfl, rfl⟩)
              | (go_at_call 58; refine (hso'.out _ (hbn.below hb2)).mono ?_; rintro e w3 ⟨rfl, hb3⟩; obtain ⟨hc3, hf3⟩ := bcell hb3; have hz3a := lt_size hb3 (b := SB) (by first | assumption | omega | (simp; done) | (simp; omega)); have hz3b := lt_size hb3 (b := BA) (by first | assumption | omega | (simp; done) | (simp; omega)); have hz3c := lt_size hb3 (b := BB) (by first | assumption | omega | (simp; done) | (simp; omega)); have hz3d := lt_size hb3 (b := NB) (by first | assumption | omega | (simp; done) | (simp; omega)))
              | (go_at_call 52; refine (Hsol.out _ (((hbn.below hb2).below hb3).below ((Below.refl _ _).alloc (Nat.le_refl _) _))).mono ?_; rintro e w5 ⟨v, rfl, hb5, _, ho⟩
                 have hz2 := hb2.size
                 simp only [World.size_alloc] at hz2
                 have hz3 := hb3.size
                 have hB5 : Below w1.heap.size w1 w5 := (((((Below.refl _ w1).alloc (Nat.le_refl _) _).trans (hb2.mono (by simp))).trans (hb3.mono (by omega))).alloc (by omega) _).trans (hb5.mono (by simp; omega))
                 obtain ⟨sa, sc, rfl, _⟩ := owns_slice (ho trivial)
                 have gO := (hB5.block OB z4).trans hO
                 have gF := (hB5.block FB z5).trans hF
                 have f1 := (SL.cells_of gO).2
                 have f2 := (SL.cells_of gF).2
                 have y1 := (SL.cells_of gO).1 0
                 have y2 := (SL.cells_of gF).1 0
                 simp at y1 y2
                 clear hc2 hc3 hf2 hf3 gO gF))
            go_ret
            refine ⟨(fun h => by cases h), (fun _ h => by cases h), fun _ _ => ⟨rfl, Hend.out _ _ _ hB5 HF0.out (fun h => by cases h) (fun _ => ?_)⟩⟩
            rw [HT0.out]
            exact SL.row_base (ho trivial) (by simp; omega)
          · have en' : (n != 0) = true := by simpa using en
            go_enter Tryz.func56, Tryz.ntmps56
            go_wp2_with (first
              | (go_at_call 57; refine (hpts'.out _ _ _ _ hnew).mono ?_; rintro e w2 ⟨rfl, hb2⟩; obtain ⟨hc2, hf2⟩ := bcell hb2; have hz2a := lt_size hb2 (b := SB) (by first | assumption | omega | (simp; done) | (simp; omega)); have hz2b := lt_size hb2 (b := BA) (by first | assumption | omega | (simp; done) | (simp; omega)); have hz2c := lt_size hb2 (b := BB) (by first | assumption | omega | (simp; done) | (simp; omega)); have hz2d := lt_size hb2 (b := NB) (by first | assumption | omega | (simp; done) | (simp; omega)))
              | (go_at_call 35; refine (hw _).mono ?_; rintro e w3 ⟨rfl, rfl⟩)
              | (go_at_call 34; refine (gneed_yes _).mono ?_; rintro e w3 ⟨rfl, rfl⟩)
              | (go_at_call 58; refine (hso'.out _ (hbn.below hb2)).mono ?_; rintro e w3 ⟨rfl, hb3⟩; obtain ⟨hc3, hf3⟩ := bcell hb3; have hz3a := lt_size hb3 (b := SB) (by first | assumption | omega | (simp; done) | (simp; omega)); have hz3b := lt_size hb3 (b := BA) (by first | assumption | omega | (simp; done) | (simp; omega)); have hz3c := lt_size hb3 (b := BB) (by first | assumption | omega | (simp; done) | (simp; omega)); have hz3d := lt_size hb3 (b := NB) (by first | assumption | omega | (simp; done) | (simp; omega))))
            have hz2 := hb2.size
            simp only [World.size_alloc] at hz2
            have hB3 : Below w1.heap.size w1 w3 := ((((Below.refl _ w1).alloc (Nat.le_refl _) _).trans (hb2.mono (by simp))).trans (hb3.mono (by omega)))
            have hF0 : attF p bs x x n = false := by simp [attF, en]
            go_ret
            refine ⟨(fun h => by cases h), (fun _ h => by cases h), fun _ _ => ⟨rfl, .of_below hB3, _, (hB3.block OB z4).trans hO, ?_, fun _ => rfl, fun h => ?_⟩⟩
            · rw [hF0]; exact (hB3.block FB z5).trans hF
            · rw [hF0] at h; cases h
        · have exy1 : (x == y) = false := by simpa using exy
          have exy2 : (x != y) = true := by simpa using exy
          have hT0 : attT bs x y n = bs ++ [⟨x, y, n, 0⟩, ⟨y, x, -n, 0⟩] := by simp [attT, exy]
          have hF0 : attF p bs x y n = okB p (attT bs x y n) := by simp [attF, exy]
          have hst := hT o1 o2
          rw [← hT0] at hst
          have htie := fun w (h : BdsAt w a len cap bs) => gtied_any p x y n a len cap bs w h h4 (hnear.1 o2)
          rw [← hT0] at htie
          have htl : (attT bs x y n).length = bs.length + 2 := by rw [hT0]; simp
          have hsol := fun w a c (h : BdsAt w a (bs.length + 2) c (attT bs x y n)) => gsolved_any p a _ c _ w h hst
          have HF0 := Lib.hid hF0
          have Htie := Lib.hid htie
          clear hF0 htie hT0
          cases o4 : okB p (attT bs x y n) with
          | true =>
            simp only [o4] at hsol HF0
            have Hsol := Lib.hid hsol
            clear hsol
            go_enter Tryz.func56, Tryz.ntmps56
            go_wp2_with (first
              | (go_at_call 57; refine (hpts'.out _ _ _ _ hnew).mono ?_; rintro e w2 ⟨rfl, hb2⟩; obtain ⟨hc2, hf2⟩ := bcell hb2; have hz2a := lt_size hb2 (b := SB) (by first | assumption | omega | (simp; done) | (simp; omega)); have hz2b := lt_size hb2 (b := BA) (by first | assumption | omega | (simp; done) | (simp; omega)); have hz2c := lt_size hb2 (b := BB) (by first | assumption | omega | (simp; done) | (simp; omega)); have hz2d := lt_size hb2 (b := NB) (by first | assumption | omega | (simp; done) | (simp; omega)))
              | (go_at_call 35; refine (hw _).mono ?_; rintro e w3 ⟨rfl, rfl⟩)
              | (go_at_call 34; refine (gneed_yes _).mono ?_; rintro e w3 ⟨rfl, rfl⟩)
              | (go_at_call 58; refine (hso'.out _ (hbn.below hb2)).mono ?_; rintro e w3 ⟨rfl, hb3⟩; obtain ⟨hc3, hf3⟩ := bcell hb3; have hz3a := lt_size hb3 (b := SB) (by first | assumption | omega | (simp; done) | (simp; omega)); have hz3b := lt_size hb3 (b := BA) (by first | assumption | omega | (simp; done) | (simp; omega)); have hz3c := lt_size hb3 (b := BB) (by first | assumption | omega | (simp; done) | (simp; omega)); have hz3d := lt_size hb3 (b := NB) (by first | assumption | omega | (simp; done) | (simp; omega)))
              | (go_at_call 59; refine (Htie.out _ (((hbn.below hb2).below hb3).below ((Below.refl _ _).alloc (Nat.le_refl _) _))).mono ?_; rintro e w4 ⟨v4, rfl, ho4, hb4⟩
                 obtain ⟨sa4, sc4, rfl, hsa4⟩ := owns_slice ho4
                 have hbt := BdsAt.of_owns ho4 (by omega)
                 have hz2 := hb2.size
                 simp only [World.size_alloc] at hz2
                 have hz3 := hb3.size
                 have hz4 := hb4.size
                 simp only [World.size_alloc] at hz4
                 have g8 : w4.heap[w3.heap.size]? = some (.cells #[.int .i64 p, .slice a len cap] 24 (0, 0)) := (hb4.block _ (by simp)).trans (World.alloc_heap_new _ _)
                 have f8 := (SL.cells_of g8).2
                 have y80 := (SL.cells_of g8).1 0
                 have y81 := (SL.cells_of g8).1 1
                 simp at y80 y81)
              | (go_at_call 52; refine (Hsol.out _ _ _ (hbt.chg (E := [w3.heap.size]) ((SL.Chg.setCell _ (by simp) _).trans (.setCell _ (by simp) _)) (fun x hx => by have := (hsa4 x hx).1; simp at this ⊢; omega))).mono ?_; rintro e w5 ⟨v, rfl, hb5, hno, ho⟩
                 have hB4 : Below w1.heap.size w1 w4 := ((((((Below.refl _ w1).alloc (Nat.le_refl _) _).trans (hb2.mono (by simp))).trans (hb3.mono (by omega))).alloc (by omega) _)).trans (hb4.mono (by simp; omega))
                 have hB5 : Below w1.heap.size w1 w5 := ((hB4.setCell (by simp; omega) _).setCell (by simp; omega) _).trans (hb5.mono (by simp; omega))
                 obtain ⟨sa, sc, rfl, _⟩ := owns_slice (ho trivial)
                 have gO := (hB5.block OB z4).trans hO
                 have gF := (hB5.block FB z5).trans hF
                 have f1 := (SL.cells_of gO).2
                 have f2 := (SL.cells_of gF).2
                 have y1 := (SL.cells_of gO).1 0
                 have y2 := (SL.cells_of gF).1 0
                 simp at y1 y2
                 clear hc2 hc3 hf2 hf3 gO gF g8 f8 y80 y81))
            go_ret
            exact ⟨(fun h => by cases h), (fun _ h => by cases h), fun _ _ => ⟨rfl, Hend.out _ _ _ hB5 HF0.out (fun h => by cases h) (fun _ => SL.row_base (ho trivial) (by simp; omega))⟩⟩
          | false =>
            simp only [o4] at hsol HF0
            have Hsol := Lib.hid hsol
            clear hsol
            go_enter Tryz.func56, Tryz.ntmps56
            go_wp2_with (first
              | (go_at_call 57; refine (hpts'.out _ _ _ _ hnew).mono ?_; rintro e w2 ⟨rfl, hb2⟩; obtain ⟨hc2, hf2⟩ := bcell hb2; have hz2a := lt_size hb2 (b := SB) (by first | assumption | omega | (simp; done) | (simp; omega)); have hz2b := lt_size hb2 (b := BA) (by first | assumption | omega | (simp; done) | (simp; omega)); have hz2c := lt_size hb2 (b := BB) (by first | assumption | omega | (simp; done) | (simp; omega)); have hz2d := lt_size hb2 (b := NB) (by first | assumption | omega | (simp; done) | (simp; omega)))
              | (go_at_call 35; refine (hw _).mono ?_; rintro e w3 ⟨rfl, rfl⟩)
              | (go_at_call 34; refine (gneed_yes _).mono ?_; rintro e w3 ⟨rfl, rfl⟩)
              | (go_at_call 58; refine (hso'.out _ (hbn.below hb2)).mono ?_; rintro e w3 ⟨rfl, hb3⟩; obtain ⟨hc3, hf3⟩ := bcell hb3; have hz3a := lt_size hb3 (b := SB) (by first | assumption | omega | (simp; done) | (simp; omega)); have hz3b := lt_size hb3 (b := BA) (by first | assumption | omega | (simp; done) | (simp; omega)); have hz3c := lt_size hb3 (b := BB) (by first | assumption | omega | (simp; done) | (simp; omega)); have hz3d := lt_size hb3 (b := NB) (by first | assumption | omega | (simp; done) | (simp; omega)))
              | (go_at_call 59; refine (Htie.out _ (((hbn.below hb2).below hb3).below ((Below.refl _ _).alloc (Nat.le_refl _) _))).mono ?_; rintro e w4 ⟨v4, rfl, ho4, hb4⟩
                 obtain ⟨sa4, sc4, rfl, hsa4⟩ := owns_slice ho4
                 have hbt := BdsAt.of_owns ho4 (by omega)
                 have hz2 := hb2.size
                 simp only [World.size_alloc] at hz2
                 have hz3 := hb3.size
                 have hz4 := hb4.size
                 simp only [World.size_alloc] at hz4
                 have g8 : w4.heap[w3.heap.size]? = some (.cells #[.int .i64 p, .slice a len cap] 24 (0, 0)) := (hb4.block _ (by simp)).trans (World.alloc_heap_new _ _)
                 have f8 := (SL.cells_of g8).2
                 have y80 := (SL.cells_of g8).1 0
                 have y81 := (SL.cells_of g8).1 1
                 simp at y80 y81)
              | (go_at_call 52; refine (Hsol.out _ _ _ (hbt.chg (E := [w3.heap.size]) ((SL.Chg.setCell _ (by simp) _).trans (.setCell _ (by simp) _)) (fun x hx => by have := (hsa4 x hx).1; simp at this ⊢; omega))).mono ?_; rintro e w5 ⟨v, rfl, hb5, hno, ho⟩
                 have hB4 : Below w1.heap.size w1 w4 := ((((((Below.refl _ w1).alloc (Nat.le_refl _) _).trans (hb2.mono (by simp))).trans (hb3.mono (by omega))).alloc (by omega) _)).trans (hb4.mono (by simp; omega))
                 have hB5 : Below w1.heap.size w1 w5 := ((hB4.setCell (by simp; omega) _).setCell (by simp; omega) _).trans (hb5.mono (by simp; omega))
                 obtain rfl : v = .slice none 0 0 := hno trivial
                 have gO := (hB5.block OB z4).trans hO
                 have gF := (hB5.block FB z5).trans hF
                 have f1 := (SL.cells_of gO).2
                 have f2 := (SL.cells_of gF).2
                 have y1 := (SL.cells_of gO).1 0
                 have y2 := (SL.cells_of gF).1 0
                 simp at y1 y2
                 clear hc2 hc3 hf2 hf3 gO gF g8 f8 y80 y81))
            go_ret
            exact ⟨(fun h => by cases h), (fun _ h => by cases h), fun _ _ => ⟨rfl, Hend.out _ _ _ hB5 HF0.out (fun _ => rfl) (fun h => by cases h)⟩⟩
end Go.Proofs.YtlkcfohmoeadbaaGreat

/-
  Gauge, walked: Attain, from outside.
-/
namespace Go.Proofs.YtlkcfohmoeadbaaGreat
open Go.RowKit Go.Shelf
set_option maxHeartbeats 1000000
set_option maxRecDepth 100000

theorem row_drewN {w : World} {base : Nat} {t : TypeId} {size n : Nat} {v : Value} {xs : List Value} (h : w.ownsRow base t size v n xs) (m : Nat) : (w.drewN m).ownsRow base t size v n xs := SL.row_stab h fun _ _ => rfl

def attOut (p : Int) (bs : List Bd) (x y n : Int) (OB FB base : Nat) (w' : World) : Prop := ∃ v, w'.heap[OB]? = some (.cells #[v] 27 (0, 0)) ∧ w'.heap[FB]? = some (.cells #[.bool (attF p bs x y n)] 4 (0, 0)) ∧
    (attF p bs x y n = false → v = .slice none 0 0) ∧ (attF p bs x y n = true → w'.ownsRow base 3 1 v p.toNat ((solR p (attT bs x y n)).map (.int .i64)))

theorem attOut.chg {p : Int} {bs : List Bd} {x y n : Int} {OB FB base : Nat} {w w' : World} {E : List Nat} (h : attOut p bs x y n OB FB base w) (hc : SL.Chg E w w') (h1 : OB ∉ E) (h2 : FB ∉ E) (h3 : ∀ k ∈ E, k < base) : attOut p bs x y n OB FB base w' := by
  obtain ⟨v, q1, q2, q3, q4⟩ := h
  exact ⟨v, heap_chg q1 hc h1, heap_chg q2 hc h2, q3, fun h => row_chg (q4 h) hc h3⟩

theorem gAttain_any (p : Int) (a : Option Addr) (len cap : Nat) (bs : List Bd) (x y n : Int) (w : World) (hb : BdsAt w a len cap bs) :
    Calls Tryz.prog 26 #[.agg #[.int .i64 p, .slice a len cap], .int .i64 x, .int .i64 y, .int .i64 n] w fun e w' => ∃ v, e = .returned (.tuple #[v, .bool (decide (attE p bs x y n = 0) && attF p bs x y n), .int .i64 (attE p bs x y n)]) ∧ Below w.heap.size w w' ∧
      ((decide (attE p bs x y n = 0) && attF p bs x y n) = false → v = .slice none 0 0) ∧ ((decide (attE p bs x y n = 0) && attF p bs x y n) = true → w'.ownsRow w.heap.size 3 1 v p.toNat ((solR p (attT bs x y n)).map (.int .i64))) := by
  have hmf := makeFunc_run
  generalize hw6 : (((((w.alloc (Obj.cells #[.int .i64 p, .slice a len cap] 24)).alloc (Obj.cells #[.int .i64 x] 3)).alloc (Obj.cells #[.int .i64 y] 3)).alloc (Obj.cells #[.int .i64 n] 3)).alloc (Obj.cells #[.slice none 0 0] 27)).alloc (Obj.cells #[.bool false] 4) = w6
  have hB6 : Below w.heap.size w w6 := by rw [← hw6]; ((repeat (first | assumption | exact Below.refl _ _ | refine Below.alloc ?_ ?_ _ | refine Below.setCell ?_ ?_ _ | refine Below.drew ?_ | refine belowN ?_ | refine Below.up ?_ (by assumption) ?_)) <;> (first | assumption | omega | (simp; done) | (simp; omega)))
  have z6 : w6.heap.size = w.heap.size + 6 := by rw [← hw6]; simp
  have c0 : w6.cell? ⟨w.heap.size, 0, none⟩ = some (.int .i64 p) := by rw [← hw6]; simp [go_sem]
  have c1 : w6.cell? ⟨w.heap.size, 1, none⟩ = some (.slice a len cap) := by rw [← hw6]; simp [go_sem]
  have c2 : w6.cell? ⟨w.heap.size + 1, 0, none⟩ = some (.int .i64 x) := by rw [← hw6]; simp [go_sem]
  have c3 : w6.cell? ⟨w.heap.size + 1 + 1, 0, none⟩ = some (.int .i64 y) := by rw [← hw6]; simp [go_sem]
  have c4 : w6.cell? ⟨w.heap.size + 1 + 1 + 1, 0, none⟩ = some (.int .i64 n) := by rw [← hw6]; simp [go_sem]
  have h5 : w6.heap[w.heap.size + 4]? = some (.cells #[.slice none 0 0] 27 (0, 0)) := by
    rw [← hw6, Below.heap_alloc _ _ _ (by simp)]
    have h := World.alloc_heap_new ((((w.alloc (Obj.cells #[.int .i64 p, .slice a len cap] 24)).alloc (Obj.cells #[.int .i64 x] 3)).alloc (Obj.cells #[.int .i64 y] 3)).alloc (Obj.cells #[.int .i64 n] 3)) (Obj.cells #[.slice none 0 0] 27)
    simp only [World.size_alloc] at h
    exact h
  have h6 : w6.heap[w.heap.size + 5]? = some (.cells #[.bool false] 4 (0, 0)) := by
    rw [← hw6]
    have h := World.alloc_heap_new (((((w.alloc (Obj.cells #[.int .i64 p, .slice a len cap] 24)).alloc (Obj.cells #[.int .i64 x] 3)).alloc (Obj.cells #[.int .i64 y] 3)).alloc (Obj.cells #[.int .i64 n] 3)).alloc (Obj.cells #[.slice none 0 0] 27)) (Obj.cells #[.bool false] 4)
    simp only [World.size_alloc] at h
    exact h
  have hA := gtried_any p a len cap bs 56 #[.pointer (some ⟨w.heap.size, 0, none⟩), .pointer (some ⟨w.heap.size + 1, 0, none⟩), .pointer (some ⟨w.heap.size + 1 + 1, 0, none⟩), .pointer (some ⟨w.heap.size + 1 + 1 + 1, 0, none⟩), .pointer (some ⟨w.heap.size + 1 + 1 + 1 + 1, 0, none⟩), .pointer (some ⟨w.heap.size + 1 + 1 + 1 + 1 + 1, 0, none⟩)] w6 (hb.below hB6)
    [w.heap.size + 4, w.heap.size + 5] (by simp; omega)
    (fun c w' => c = attE p bs x y n ∧ (c = 0 → attOut p bs x y n (w.heap.size + 4) (w.heap.size + 5) (w6.heap.size + 2) w') ∧ (c ≠ 0 → Below w6.heap.size w6 w')) (fun w' => attE p bs x y n = 1 ∧ Below w6.heap.size w6 w')
    (fun c w1 w2 h hc => ⟨h.1, fun h0 => (h.2.1 h0).chg hc (by simp <;> omega) (by simp <;> omega) (by simp), fun h0 => (h.2.2 h0).trans (hc.belowE (h.2.2 h0).size (by simp <;> omega))⟩)
    (fun w1 w2 h hc => ⟨h.1, h.2.trans (hc.belowE h.2.size (by simp <;> omega))⟩) (enters_of Tryz.func56 (by kernel_rfl) rfl)
    (fun h0 w1 hb1 hz1 => by
      have hc := (bcell hb1).1
      have hB1 : Below w.heap.size w w1 := hB6.trans (hb1.mono (by omega))
      refine (gAttain1_any p a len cap bs x y n _ _ _ _ _ _ w1 (Sys.of_chk h0) (by unfold chk at h0; split at h0 <;> omega) (hb.below hB1) ((hc _ _ (by omega)).trans c0) ((hc _ _ (by omega)).trans c1) ((hc _ _ (by omega)).trans c2) ((hc _ _ (by omega)).trans c3) ((hc _ _ (by omega)).trans c4) ((hb1.block _ (by omega)).trans h5) ((hb1.block _ (by omega)).trans h6) (by omega)).mono ?_
      rintro e w' ⟨e1, e2, e3⟩
      cases q1 : (both p x y && nearB n) with
      | false =>
        obtain ⟨r1, r2⟩ := e1 q1
        have hB : Below w6.heap.size w6 w' := hb1.trans (r2.mono hb1.size)
        refine ⟨.of_below r2, .inr ⟨r1, ?_, hB⟩⟩
        cases k1 : both p x y <;> cases k2 : nearB n <;> simp_all [attE]
      | true =>
        have q2 : both p x y = true ∧ nearB n = true := by simpa using q1
        cases q3 : okB p bs with
        | false =>
          obtain ⟨r1, r2⟩ := e2 q1 q3
          have hB : Below w6.heap.size w6 w' := hb1.trans (r2.mono hb1.size)
          exact ⟨.of_below r2, .inl ⟨10, r1, by simp [attE, h0, q2, q3], (fun h => by cases h), fun _ => hB⟩⟩
        | true =>
          obtain ⟨r1, r2, v, r3, r4, r5, r6⟩ := e3 q1 q3
          exact ⟨r2, .inl ⟨0, r1, by simp [attE, h0, q2, q3], fun _ => ⟨v, r3, r4, r5, fun h => SL.row_base (r6 h) hz1⟩, fun h => absurd rfl h⟩⟩)
  have hcell : ∀ (c : Int) (w5 : World), SL.Chg [w.heap.size + 4, w.heap.size + 5] w6 w5 → (chk p bs ≠ 0 → c = chk p bs ∧ Below w6.heap.size w6 w5) → (chk p bs = 0 → (c = attE p bs x y n ∧ (c = 0 → attOut p bs x y n (w.heap.size + 4) (w.heap.size + 5) (w6.heap.size + 2) w5) ∧ (c ≠ 0 → Below w6.heap.size w6 w5)) ∨ (c = 1 ∧ attE p bs x y n = 1 ∧ Below w6.heap.size w6 w5)) →
      c = attE p bs x y n ∧ Below w.heap.size w w5 ∧ ∃ v, w5.cell? ⟨w.heap.size + 4, 0, none⟩ = some v ∧ w5.cell? ⟨w.heap.size + 5, 0, none⟩ = some (.bool (decide (attE p bs x y n = 0) && attF p bs x y n)) ∧ ((decide (attE p bs x y n = 0) && attF p bs x y n) = false → v = .slice none 0 0) ∧ ((decide (attE p bs x y n = 0) && attF p bs x y n) = true → w5.ownsRow w.heap.size 3 1 v p.toNat ((solR p (attT bs x y n)).map (.int .i64))) := fun c w5 hC h1 h2 => by
    have hno : attE p bs x y n ≠ 0 → Below w6.heap.size w6 w5 → Below w.heap.size w w5 ∧ ∃ v, w5.cell? ⟨w.heap.size + 4, 0, none⟩ = some v ∧ w5.cell? ⟨w.heap.size + 5, 0, none⟩ = some (.bool (decide (attE p bs x y n = 0) && attF p bs x y n)) ∧ ((decide (attE p bs x y n = 0) && attF p bs x y n) = false → v = .slice none 0 0) ∧ ((decide (attE p bs x y n = 0) && attF p bs x y n) = true → w5.ownsRow w.heap.size 3 1 v p.toNat ((solR p (attT bs x y n)).map (.int .i64))) := fun h0 hb => by
      have g5 := (SL.cells_of ((hb.block _ (by omega)).trans h5)).1 0
      have g6 := (SL.cells_of ((hb.block _ (by omega)).trans h6)).1 0
      simp at g5 g6
      exact ⟨hB6.trans (hb.mono (by omega)), _, g5, by simp [h0, g6], fun _ => rfl, fun h => by simp [h0] at h⟩
    by_cases h0 : chk p bs = 0
    · rcases h2 h0 with ⟨rfl, k1, k2⟩ | ⟨rfl, k1, k2⟩
      · by_cases h3 : attE p bs x y n = 0
        · obtain ⟨v, r1, r2, r3, r4⟩ := k1 h3
          have g5 := (SL.cells_of r1).1 0
          have g6 := (SL.cells_of r2).1 0
          simp at g5 g6
          exact ⟨rfl, hB6.trans (hC.belowE (by omega) (by simp)), v, g5, by simp [h3, g6], fun h => r3 (by simpa [h3] using h), fun h => SL.row_base (r4 (by simpa [h3] using h)) (by omega)⟩
        · exact ⟨rfl, hno h3 (k2 h3)⟩
      · exact ⟨k1.symm, hno (by omega) k2⟩
    · obtain ⟨rfl, k2⟩ := h1 h0
      have h3 : attE p bs x y n = chk p bs := by simp [attE, h0]
      exact ⟨h3.symm, hno (by omega) k2⟩
  subst hw6
  generalize hf : (decide (attE p bs x y n = 0) && attF p bs x y n) = f at *
  generalize attE p bs x y n = c at *
  go_enter Tryz.func26, Tryz.ntmps26
  go_wp2_with fail
  refine hA.mono ?_
  rintro e w5 ⟨c', rfl, hC, h1, h2⟩
  obtain ⟨rfl, hB5, v, hv, hfc, r1, r2⟩ := hcell c' w5 hC h1 h2
  clear hA hcell h1 h2 hC
  go_wp2_with fail
  go_quiet (fail)
  go_wp2
  refine bodyPost_ret (v := .tuple #[v, .bool f, .int .i64 c']) (by simp [results, Tryz.results26, go_sem, *]) rfl ⟨v, rfl, belowN hB5, r1, fun h => row_drewN (r2 h) _⟩
end Go.Proofs.YtlkcfohmoeadbaaGreat
