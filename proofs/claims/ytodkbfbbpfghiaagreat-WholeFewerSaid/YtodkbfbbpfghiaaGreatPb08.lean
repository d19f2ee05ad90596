/-
  Lemmas and walks for the laws on roads and boards: what each function of the program answers, for every input.
-/
import Derived.Test.YtodkbfbbpfghiaaGreatPb07
import Derived.Lib.SlicesCompact
import Derived.Test.YtodkbfbbpfghiaaGreatPb06
set_option linter.unusedSimpArgs false
set_option linter.unusedVariables false
set_option linter.unnecessarySimpa false
namespace Go.Proofs.YtodkbfbbpfghiaaGreat
open Go.RowKit Go.Shelf
set_option maxHeartbeats 40000000
set_option maxRecDepth 100000
/-- What is handed back with an error: nothing, if there is one. -/
def resC (E : Int) (d : Cs) : Cs := if E = 0 then d else Cs.zero
def CaseRes (w : World) (E : Int) (d : Cs) (e : Ending) (w' : World) : Prop := ∃ x, SameC x (resC E d) ∧ e = .returned (.tuple #[Cs.v x, .int .i64 E]) ∧ Below w.heap.size w w' ∧ CsAt w' x
def Cs.lim' (c : Cs) (l b : Int) : Cs := { c with lim := l, byr := b }
def Cs.limE (c : Cs) (l b : Int) : Int := if c.chk = 0 then (c.lim' l b).chk else c.chk
def Cs.wo (c : Cs) (a : Nat) : Cs := { c with a := none, cap := 0, ps := c.ps.eraseIdx a }
/-- Two parts as one. -/
def Cs.mrg (c : Cs) (a b : Nat) : Cs := { c with a := none, cap := 0, ps := mixPt c.ps (min a b) (max a b) (gluPt none 0 none 0 (c.ps.getD (min a b) default) (c.ps.getD (max a b) default)) }
def Cs.mrgE (c : Cs) (x y : Int) : Int := if c.two x y = 0 then c.mergeE x.toNat y.toNat else c.two x y
theorem MrgOf.same {c d : Cs} {a b : Nat} (h : MrgOf c a b d) (ha : a < c.ps.length) (hb : b < c.ps.length) (hab : a ≠ b) : SameC d (c.mrg a b) := by
  obtain ⟨g, ⟨sa, sc, ra, rc, rfl⟩, hps⟩ := h.ps
  have hl := mixPt_len (ps := c.ps) (a := min a b) (b := max a b) (g := gluPt sa sc ra rc (c.ps.getD (min a b) default) (c.ps.getD (max a b) default)) (by omega)
  refine ⟨h.ware, h.lim, h.byr, ?_, fun i hi => ?_⟩
  · rw [hps, hl]
    exact (mixPt_len (by omega)).symm
  · show SameP (d.ps.getD i default) ((mixPt c.ps (min a b) (max a b) _).getD i default)
    rw [hps, mixPt_get (by omega) (by omega), mixPt_get (by omega) (by omega)]
    split
    · exact ⟨rfl, rfl, rfl, rfl, rfl, rfl, rfl, rfl⟩
    · exact SameP.refl _
theorem pcs_take {ps : List Pt} {i : Nat} (h : i ≤ ps.length) : (pcs ps).take (i * 8) = pcs (ps.take i) := by
  conv => lhs; rw [← List.take_append_drop i ps, pcs_append]
  rw [List.take_left' (by rw [pcs_length, List.length_take, Nat.min_eq_left h])]
theorem pcs_drop {ps : List Pt} {i : Nat} (h : i ≤ ps.length) : (pcs ps).drop (i * 8) = pcs (ps.drop i) := by
  conv => lhs; rw [← List.take_append_drop i ps, pcs_append]
  rw [List.drop_left' (by rw [pcs_length, List.length_take, Nat.min_eq_left h])]
theorem cell4w {W : World} {N : Nat} {a b c d : Value} {t : TypeId} (hh : W.heap[N]? = some (.cells #[a, b, c, d] t (0, 0))) :
    W.cell? ⟨N, 0, none⟩ = some a ∧ W.cell? ⟨N, 1, none⟩ = some b ∧ W.cell? ⟨N, 2, none⟩ = some c ∧ W.cell? ⟨N, 3, none⟩ = some d ∧ (∀ i, W.frozen? ⟨N, i, none⟩ = false) ∧ N < W.heap.size := by
  have k := (SL.cells_of hh).1
  exact ⟨by simpa using k 0, by simpa using k 1, by simpa using k 2, by simpa using k 3, (SL.cells_of hh).2, (Array.getElem?_eq_some_iff.1 hh).1⟩
theorem lit1c (w : World) (A B : Obj) (x : Int) : IntsAt (((w.alloc A).alloc B).alloc (Obj.cells #[.int .i64 x] 3)) (some ⟨w.heap.size + 1 + 1, 0, none⟩) 1 1 [x] := ⟨rfl, by simp, RowAt.of_heap (by have := World.alloc_heap_new ((w.alloc A).alloc B) (Obj.cells #[.int .i64 x] 3); simpa using this)⟩
theorem r6Limited (c : Cs) (l b : Int) (w : World) (hc : CsAt w c) :
    Calls Tryz.prog 57 #[c.v, .int .i64 l, .int .i64 b] w (CaseRes w (c.limE l b) (c.lim' l b)) := by
  have hC := fun w1 (h : CsAt w1 c) => r6chk c w1 h
  have hD := fun w1 (h : CsAt w1 (c.lim' l b)) => r6chk (c.lim' l b) w1 h
  have hE : c.limE l b = if c.chk = 0 then (c.lim' l b).chk else c.chk := rfl
  have hP := Lib.hid (show ∀ w' x, SameC x (resC (c.limE l b) (c.lim' l b)) → ∀ e, e = .returned (.tuple #[Cs.v x, .int .i64 (c.limE l b)]) → Below w.heap.size w w' → CsAt w' x → CaseRes w (c.limE l b) (c.lim' l b) e w' from fun w' x h1 e h2 h3 h4 => ⟨x, h1, h2, h3, h4⟩)
  have hR := Lib.hid (show (c.limE l b ≠ 0 → SameC Cs.zero (resC (c.limE l b) (c.lim' l b))) ∧ (c.limE l b = 0 → SameC (c.lim' l b) (resC (c.limE l b) (c.lim' l b))) from by
    unfold resC
    exact ⟨fun h => by rw [if_neg h]; exact SameC.refl _, fun h => by rw [if_pos h]; exact SameC.refl _⟩)
  generalize resC (c.limE l b) (c.lim' l b) = RC at *
  generalize CaseRes w (c.limE l b) (c.lim' l b) = Post at *
  generalize c.limE l b = L at *
  generalize c.chk = E at *
  generalize hE2 : (c.lim' l b).chk = E2 at *
  unfold Cs.lim' at *
  obtain ⟨ware, lim, byr, a, cap, ps⟩ := c
  simp only [Cs.v] at *
  have hB2 : Below w.heap.size w ((w.alloc (Obj.cells #[.string ware, .int .i64 lim, .int .i64 byr, .slice a ps.length cap] 24)).alloc (Obj.cells #[.string ByteArray.empty, .int .i64 0, .int .i64 0, .slice none 0 0] 24)) := by ((repeat (first | assumption | exact Below.refl _ _ | refine Below.alloc ?_ ?_ _ | refine Below.setCell ?_ ?_ _ | refine Below.drew ?_ | refine belowN ?_ | refine Below.up ?_ (by assumption) ?_)) <;> (first | assumption | omega | (simp; done) | (simp; omega)))
  have hbx := hc.below hB2
  clear hE2
  by_cases h0 : E = 0
  · subst h0
    rw [if_pos rfl] at hE
    subst hE
    by_cases h1 : L = 0
    · subst h1
      have HR := Lib.hid (hR.out.2 rfl)
      clear hR
      go_enter Tryz.func57, Tryz.ntmps57
      go_wp2_with (first
        | (have hb1 := hb1; (go_at_call 59; refine (hD _ ((⟨hc.ware, hc.ps⟩ : CsAt w ⟨ware, l, b, a, cap, ps⟩).below (by have hBE := hB2.ch2 hb1; (repeat (first | (with_reducible exact hBE) | ((with_reducible refine Below.setCell ?_ ?_ _); rotate_left; focus (first | omega | (simp; done) | (simp; omega))) | ((with_reducible refine Below.alloc ?_ ?_ _); rotate_left; focus (first | omega | (simp; done) | (simp; omega)))))))).mono ?_; rintro e w2 ⟨rfl, hb2⟩; obtain ⟨hc2, hf2⟩ := bcell hb2; have hz3 := lt_size hb2 (b := w.heap.size + 1) (by first | assumption | omega | (simp; done) | (simp; omega)); have hz4 := lt_size hb2 (b := w1.heap.size) (by first | assumption | omega | (simp; done) | (simp; omega))))
        | (go_at_call 59; refine (hC _ hbx).mono ?_; rintro e w1 ⟨rfl, hb1⟩; obtain ⟨hc1, hf1⟩ := bcell hb1; have hz1 := lt_size hb1 (b := w.heap.size) (by first | assumption | omega | (simp; done) | (simp; omega)); have hz2 := lt_size hb1 (b := w.heap.size + 1) (by first | assumption | omega | (simp; done) | (simp; omega))))
      have hBE := ((hB2.ch2 hb1).ch2 (one_alloc _ _)).ch2 hb2
      refine bodyPost_ret (v := .tuple #[.agg #[.string ware, .int .i64 l, .int .i64 b, .slice a ps.length cap], .int .i64 0]) (by simp [results, Tryz.results57, go_sem, *]) rfl (hP.out _ ⟨ware, l, b, a, cap, ps⟩ HR.out _ rfl ?_ ((⟨hc.ware, hc.ps⟩ : CsAt w ⟨ware, l, b, a, cap, ps⟩).below ?_))
      all_goals (repeat (first | (with_reducible exact hBE) | ((with_reducible refine Below.setCell ?_ ?_ _); rotate_left; focus (first | omega | (simp; done) | (simp; omega))) | ((with_reducible refine Below.alloc ?_ ?_ _); rotate_left; focus (first | omega | (simp; done) | (simp; omega)))))
    · have h2 : (L != 0) = true := by simpa using h1
      have HR := Lib.hid (hR.out.1 h1)
      clear hR h1
      go_enter Tryz.func57, Tryz.ntmps57
      go_wp2_with (first
        | (have hb1 := hb1; (go_at_call 59; refine (hD _ ((⟨hc.ware, hc.ps⟩ : CsAt w ⟨ware, l, b, a, cap, ps⟩).below (by have hBE := hB2.ch2 hb1; (repeat (first | (with_reducible exact hBE) | ((with_reducible refine Below.setCell ?_ ?_ _); rotate_left; focus (first | omega | (simp; done) | (simp; omega))) | ((with_reducible refine Below.alloc ?_ ?_ _); rotate_left; focus (first | omega | (simp; done) | (simp; omega)))))))).mono ?_; rintro e w2 ⟨rfl, hb2⟩; obtain ⟨hc2, hf2⟩ := bcell hb2; have hz3 := lt_size hb2 (b := w.heap.size + 1) (by first | assumption | omega | (simp; done) | (simp; omega)); have hz4 := lt_size hb2 (b := w1.heap.size) (by first | assumption | omega | (simp; done) | (simp; omega))))
        | (go_at_call 59; refine (hC _ hbx).mono ?_; rintro e w1 ⟨rfl, hb1⟩; obtain ⟨hc1, hf1⟩ := bcell hb1; have hz1 := lt_size hb1 (b := w.heap.size) (by first | assumption | omega | (simp; done) | (simp; omega)); have hz2 := lt_size hb1 (b := w.heap.size + 1) (by first | assumption | omega | (simp; done) | (simp; omega))))
      have hBE := ((hB2.ch2 hb1).ch2 (one_alloc _ _)).ch2 hb2
      refine bodyPost_ret (v := .tuple #[.agg #[.string ByteArray.empty, .int .i64 0, .int .i64 0, .slice none 0 0], .int .i64 L]) (by simp [results, Tryz.results57, go_sem, *]; rfl) rfl (hP.out _ Cs.zero HR.out _ rfl ?_ (Cs.zero_at _))
      (repeat (first | (with_reducible exact hBE) | ((with_reducible refine Below.setCell ?_ ?_ _); rotate_left; focus (first | omega | (simp; done) | (simp; omega))) | ((with_reducible refine Below.alloc ?_ ?_ _); rotate_left; focus (first | omega | (simp; done) | (simp; omega)))))
  · rw [if_neg h0] at hE
    subst hE
    have h2 : (L != 0) = true := by simpa using h0
    have HR := Lib.hid (hR.out.1 h0)
    clear hR h0
    go_enter Tryz.func57, Tryz.ntmps57
    go_wp2_with (go_at_call 59; refine (hC _ hbx).mono ?_; rintro e w1 ⟨rfl, hb1⟩; obtain ⟨hc1, hf1⟩ := bcell hb1; have hz1 := lt_size hb1 (b := w.heap.size) (by first | assumption | omega | (simp; done) | (simp; omega)); have hz2 := lt_size hb1 (b := w.heap.size + 1) (by first | assumption | omega | (simp; done) | (simp; omega)))
    have hBE := hB2.ch2 hb1
    refine bodyPost_ret (v := .tuple #[.agg #[.string ByteArray.empty, .int .i64 0, .int .i64 0, .slice none 0 0], .int .i64 L]) (by simp [results, Tryz.results57, go_sem, *]; rfl) rfl (hP.out _ Cs.zero HR.out _ rfl ?_ (Cs.zero_at _))
    (repeat (first | (with_reducible exact hBE) | ((with_reducible refine Below.setCell ?_ ?_ _); rotate_left; focus (first | omega | (simp; done) | (simp; omega))) | ((with_reducible refine Below.alloc ?_ ?_ _); rotate_left; focus (first | omega | (simp; done) | (simp; omega)))))
theorem r6Without (c : Cs) (x : Int) (w : World) (hc : CsAt w c) (hroom : c.ps.length ≤ c.cap) :
    Calls Tryz.prog 55 #[c.v, .int .i64 x] w (CaseRes w (c.ask [x]) (c.wo x.toNat)) := by
  have hC := fun w1 a2 n2 c2 (h : CsAt w1 c) (hl : IntsAt w1 a2 n2 c2 [x]) => r6asked c a2 n2 c2 [x] w1 h hl
  have hz := @Cs.ask_zero c [x]
  have hP := Lib.hid (show ∀ w' y, SameC y (resC (c.ask [x]) (c.wo x.toNat)) → ∀ e, e = .returned (.tuple #[Cs.v y, .int .i64 (c.ask [x])]) → Below w.heap.size w w' → CsAt w' y → CaseRes w (c.ask [x]) (c.wo x.toNat) e w' from fun w' x h1 e h2 h3 h4 => ⟨x, h1, h2, h3, h4⟩)
  have hR := Lib.hid (show (c.ask [x] ≠ 0 → SameC Cs.zero (resC (c.ask [x]) (c.wo x.toNat))) ∧ (c.ask [x] = 0 → ∀ y : Cs, y.ware = c.ware → y.lim = c.lim → y.byr = c.byr → y.ps = c.ps.eraseIdx x.toNat → SameC y (resC (c.ask [x]) (c.wo x.toNat))) from by
    unfold resC
    refine ⟨fun h => by rw [if_neg h]; exact SameC.refl _, fun h y h1 h2 h3 h4 => ?_⟩
    rw [if_pos h]
    exact ⟨h1, h2, h3, by rw [h4]; rfl, fun i _ => by rw [h4]; exact SameP.refl _⟩)
  generalize CaseRes w (c.ask [x]) (c.wo x.toNat) = Post at *
  generalize resC (c.ask [x]) (c.wo x.toNat) = RC at *
  generalize c.ask [x] = E at *
  by_cases h0 : E = 0
  · subst h0
    obtain ⟨hok, hi⟩ := hz rfl
    obtain ⟨X, rfl⟩ : ∃ X : Nat, x = X := ⟨x.toNat, by have := hi x (by simp); omega⟩
    have hX : X < c.ps.length := by have := hi X (by simp); omega
    have hmany := hok.many
    obtain ⟨ware, lim, byr, a, cap, ps⟩ := c
    simp only [Cs.v, Int.toNat_natCast] at *
    have hB2 : Below w.heap.size w ((w.alloc (Obj.cells #[.string ware, .int .i64 lim, .int .i64 byr, .slice a ps.length cap] 24)).alloc (Obj.cells #[.string ByteArray.empty, .int .i64 0, .int .i64 0, .slice none 0 0] 24)) := by ((repeat (first | assumption | exact Below.refl _ _ | refine Below.alloc ?_ ?_ _ | refine Below.setCell ?_ ?_ _ | refine Below.drew ?_ | refine belowN ?_ | refine Below.up ?_ (by assumption) ?_)) <;> (first | assumption | omega | (simp; done) | (simp; omega)))
    have hbx := hc.below hB2
    have HR := Lib.hid (hR.out.2 trivial)
    clear hz hok hi hR
    go_enter Tryz.func55, Tryz.ntmps55
    go_wp2_with (go_at_call 96; refine (hC _ _ _ _ (hbx.below (one_alloc _ _)) (lit1c _ _ _ _)).mono ?_; rintro e w1 ⟨rfl, hb1⟩; obtain ⟨hc1, hf1⟩ := bcell hb1; have hz1 := lt_size hb1 (b := w.heap.size) (by first | assumption | omega | (simp; done) | (simp; omega)); have hz2 := lt_size hb1 (b := w.heap.size + 1) (by first | assumption | omega | (simp; done) | (simp; omega)))
    obtain ⟨b1, o1, rfl, bl1, _⟩ := hc.ps.get hX
    have hBW : Below w.heap.size w w1 := (hB2.ch2 (one_alloc _ _)).ch2 hb1
    have zw := hBW.size
    have c0 : w1.cell? ⟨w.heap.size, 0, none⟩ = some (.string ware) := by simp [go_sem, *]
    have c1 : w1.cell? ⟨w.heap.size, 1, none⟩ = some (.int .i64 lim) := by simp [go_sem, *]
    have c2 : w1.cell? ⟨w.heap.size, 2, none⟩ = some (.int .i64 byr) := by simp [go_sem, *]
    have c3 : w1.cell? ⟨w.heap.size, 3, none⟩ = some (.slice (some ⟨b1, o1, none⟩) ps.length cap) := by simp [go_sem, *]
    have hbox : w1.heap[w.heap.size + 1]? = some (.cells #[.string ByteArray.empty, .int .i64 0, .int .i64 0, .slice none 0 0] 24 (0, 0)) := by
      rw [hb1.block _ (by simp), heap_allocC _ _ (by simp)]
      exact heap_alloc2_new w _ _
    have hroom : ps.length ≤ cap := hroom
    have hX : X < ps.length := hX
    have hmany : ps.length ≤ 40 := hmany
    have x1 : (X : Int) ≤ (cap : Int) := by omega
    have x2 : (X : Int) ≤ (ps.length : Int) := by omega
    have x3 : (0 : Int) ≤ (X : Int) := by omega
    have x4 : IntKind.i64.wrap ((X : Int) + 1) = (X : Int) + 1 := IntWalk.i64_in _ (by omega)
    have x5 : (X : Int) + 1 ≤ (ps.length : Int) := by omega
    have x6 : (0 : Int) ≤ (X : Int) + 1 := by omega
    have x7 : ((X : Int) + 1).toNat = X + 1 := by omega
    have x8 : (X : Int) + 1 ≤ (cap : Int) := by omega
    have x9 : (ps.length : Int) ≤ (cap : Int) := by omega
    have hT : RowAt w (some ⟨b1, o1, none⟩) cap (pcs ps) := hc.ps.row
    obtain ⟨T1, hT1⟩ : ∃ T1, pcs (ps.take X) = T1 := ⟨_, rfl⟩
    obtain ⟨T2, hT2⟩ : ∃ T2, pcs (ps.drop (X + 1)) = T2 := ⟨_, rfl⟩
    have hl1 : T1.length = X * 8 := by rw [← hT1, pcs_length, List.length_take]; congr 1; omega
    have hl2 : T2.length = (ps.length - (X + 1)) * 8 := by rw [← hT2, pcs_length, List.length_drop]
    have ho1 : ∀ u ∈ T1, u.oneCell' = true := by rw [← hT1]; exact pcs_one _
    have ho2 : ∀ u ∈ T2, u.oneCell' = true := by rw [← hT2]; exact pcs_one _
    have HT1 := Lib.hid hT1
    have HT2 := Lib.hid hT2
    have Hl1 := Lib.hid hl1
    have Hl2 := Lib.hid hl2
    have hr1 : ∀ W c', Below w.heap.size w W → RowAt W (some ⟨b1, o1, none⟩) c' T1 := fun W c' h => by
      have := rowTake (hT.below h) (X * 8) c' (fun h => by cases h)
      rwa [pcs_take (by omega), HT1.out] at this
    by_cases hcx : cap = X + 1
    · have hn1 : ps.length = X + 1 := by omega
      have Hn1 := Lib.hid hn1
      subst hcx
      clear hn1
      have hr2 : ∀ W c' o2, Below w.heap.size w W → RowAt W (some ⟨b1, o2, none⟩) c' T2 := fun W c' o2 h => by
        have := rowDrop (a2 := some ⟨b1, o2, none⟩) (c2 := c') (hT.below h) ((X + 1) * 8) (.inr ⟨by rw [pcs_length, Hn1.out]; exact Nat.le_refl _, o2, rfl⟩)
        rwa [pcs_drop (by omega), HT2.out] at this
      have y1 : ((X : Int) + 1 == ((X + 1 : Nat) : Int)) = true := by simp
      clear hT hT1 hT2 hl1 hl2 hC hbx hc1 hf1 hb1
      apply SLG.rule0 ?hm1 [w.heap.size + 1] [15, 16, 17, 18, 19, 20, 21, 22, 23, 24, 25, 26, 27, 28, 29, 30, 31, 32, 33, 5] [SLF.pq 15 [] _, SLF.pq 16 [0] _, SLF.pq 17 [] _, SLF.pq 18 [2] _, SLF.pq 19 [] _, SLF.pq 20 [4] _, SL.row 21 [] [] w.heap.size 49 8 0 [], SLF.pq 22 [] _, SLF.pq 23 [7] _, SLF.pq 24 [] _, SLF.pq 25 [8, 9] _, SL.row 26 [6, 10] [6] w.heap.size 49 8 X T1, SLF.pq 27 [] _, SLF.pq 28 [12] _, SLF.pq 29 [] _, SLF.pq 30 [14] _, SLF.pq 31 [13, 15] _, SL.row 32 [11, 16] [11] w.heap.size 49 8 (X + (0)) (T1 ++ T2), SL.rowIn 33 [1, 3, 5, 17] [17] w.heap.size 49 8 (X + (0)) (T1 ++ T2) (fun y => .agg #[.string ware, .int .i64 lim, .int .i64 byr, y]), SL.boxAtIn 4 [18, 21] [18, 21] (w.heap.size + 1) 24 w.heap.size 49 8 (X + (0)) (T1 ++ T2) (fun y => #[.string ware, .int .i64 lim, .int .i64 byr, y]), SLF.pq 5 [] _, SL.boxAt 4 [] [] (w.heap.size + 1) 24 #[.string ByteArray.empty, .int .i64 0, .int .i64 0, .slice none 0 0]] [19, 20] ?hck1 ?hkp1 (fun i => if i = 21 then [w.heap.size + 1] else []) ?hin1 ?hdj1 ?hfr1 ?ob1 ?en1
      case hm1 => kernel_rfl
      case hin1 => exact SL.one_held rfl rfl ⟨rfl, hbox, rfl⟩ hz2
      case hdj1 => exact SL.one_apart
      case hfr1 => intro us; simp only [SL.frame, SL.put']; simp; exact rfl
      case ob1 =>
        refine ⟨?_, ?_, ?_, ?_, ?_, ?_, ?_, ?_, ?_, ?_, ?_, ?_, ?_, ?_, ?_, ?_, ?_, ?_, ?_, ?_, ?_, trivial⟩
        all_goals first
          | (intro us w' Fe hG hu hd hv Kx hK
             try dsimp only
             simp [SL.Used, SL.pu, SL.row, SL.box, SL.rowIn, SL.boxIn, SL.boxAt, SL.boxAtIn, SLF.pq, Act.put, SL.aw_sub, SL.aw_use, SL.aw_eat, SL.aw_V, SL.aw_quiet] at hu hK
             have hB5 : Below w.heap.size w w' := hBW.trans (hG.belowF hBW.size (by simp))
             obtain ⟨hc5, hf5⟩ := bcell hB5
             have hs5 := hB5.size
             obtain ⟨hc6, hf6⟩ := hG.cellsF
             clear hv
             refine SLF.wpo_do (SLF.wanted_free rfl) ?hd1 ?_
             case hd1 => intro c h; cases h
             clear hd
             first
               | (go_step; exact hK _ _ _ (SL.Chg.refl _ _) (by first | exact rfl | (simp only [hu]; exact rfl)) rfl (by simp) rfl)
               | exact hK _ _ _ (SL.Chg.refl _ _) rfl rfl (by simp) rfl)
          | skip
        · refine SLG.ob_sp rfl rfl rfl fun us w' Fe hG hu hd Kx hK => ?_
          try dsimp only
          simp [SL.Used, SL.pu, SL.row, SL.box, SL.rowIn, SL.boxIn, SL.boxAt, SL.boxAtIn, SLF.pq, Act.put, SL.aw_sub, SL.aw_use, SL.aw_eat, SL.aw_V, SL.aw_quiet] at hu
          have hB5 : Below w.heap.size w w' := hBW.trans (hG.belowF hBW.size (by simp))
          obtain ⟨hc5, hf5⟩ := bcell hB5
          have hs5 := hB5.size
          obtain ⟨hc6, hf6⟩ := hG.cellsF
          refine SLF.wpo_do (SLF.wanted_free rfl) ?hd1 ?_
          case hd1 => intro c h; cases h
          go_step
          exact hK _ (.slice (some ⟨w'.heap.size, 0, none⟩) 0 0) _ _ (by simp [Act.put]; done) (.alloc _ _ _) ⟨World.ownsRow_lit w' #[] 0 hs5 (by decide) rfl, rfl⟩ (fun k hk => .inr (by simp [Value.ownBlock] at hk; subst hk; simp))
        · refine SLG.ob_sp rfl rfl rfl fun us w' Fe hG hu hd Kx hK => ?_
          try dsimp only
          simp [SL.Used, SL.pu, SL.row, SL.box, SL.rowIn, SL.boxIn, SL.boxAt, SL.boxAtIn, SLF.pq, Act.put, SL.aw_sub, SL.aw_use, SL.aw_eat, SL.aw_V, SL.aw_quiet] at hu
          have hB5 : Below w.heap.size w w' := hBW.trans (hG.belowF hBW.size (by simp))
          obtain ⟨hc5, hf5⟩ := bcell hB5
          have hs5 := hB5.size
          obtain ⟨hc6, hf6⟩ := hG.cellsF
          refine SLF.wpo_do (SLF.wanted_free rfl) ?hd1 ?_
          case hd1 => intro c h; cases h
          obtain ⟨⟨ho, e1⟩, e2, _⟩ := hu
          refine wp_app elemP _ _ rfl ho rfl e2 (hr1 _ _ hB5) Hl1.out ho1 (by unfold maxLen; omega) (by omega) hs5 ?_
          intro v' w6 ho6 hg6 hb6 _ hat
          rw [Nat.zero_add, List.nil_append] at ho6
          refine hK _ v' w6 _ (by simp [Act.put]; done) (.of_own hg6 (fun k e => by simp [SL.row, e1, e])) ⟨ho6, rfl⟩ (fun k hk => ?_)
          rcases SL.app_bounds ho ho6 hat k hk with h | h
          · exact .inl (by simpa [SL.row, e1] using h)
          · exact .inr h
        · refine SLG.ob_sp rfl rfl rfl fun us w' Fe hG hu hd Kx hK => ?_
          try dsimp only
          simp [SL.Used, SL.pu, SL.row, SL.box, SL.rowIn, SL.boxIn, SL.boxAt, SL.boxAtIn, SLF.pq, Act.put, SL.aw_sub, SL.aw_use, SL.aw_eat, SL.aw_V, SL.aw_quiet] at hu
          have hB5 : Below w.heap.size w w' := hBW.trans (hG.belowF hBW.size (by simp))
          obtain ⟨hc5, hf5⟩ := bcell hB5
          have hs5 := hB5.size
          obtain ⟨hc6, hf6⟩ := hG.cellsF
          refine SLF.wpo_do (SLF.wanted_free rfl) ?hd1 ?_
          case hd1 => intro c h; cases h
          obtain ⟨⟨ho, e1⟩, e2, _⟩ := hu
          refine wp_app elemP _ _ rfl ho rfl e2 (hr2 _ _ _ hB5) (by rw [Hl2.out]; have := Hn1.out; congr 1; omega) ho2 (by unfold maxLen; omega) (by omega) hs5 ?_
          intro v' w6 ho6 hg6 hb6 _ hat
          refine hK _ v' w6 _ (by simp [Act.put]; done) (.of_own hg6 (fun k e => by simp [SL.row, e1, e])) ⟨ho6, rfl⟩ (fun k hk => ?_)
          rcases SL.app_bounds ho ho6 hat k hk with h | h
          · exact .inl (by simpa [SL.row, e1] using h)
          · exact .inr h
        · refine SLG.ob_sp rfl rfl rfl fun us w' Fe hG hu hd Kx hK => ?_
          try dsimp only
          simp [SL.Used, SL.pu, SL.row, SL.box, SL.rowIn, SL.boxIn, SL.boxAt, SL.boxAtIn, SLF.pq, Act.put, SL.aw_sub, SL.aw_use, SL.aw_eat, SL.aw_V, SL.aw_quiet] at hu
          have hB5 : Below w.heap.size w w' := hBW.trans (hG.belowF hBW.size (by simp))
          obtain ⟨hc5, hf5⟩ := bcell hB5
          have hs5 := hB5.size
          obtain ⟨hc6, hf6⟩ := hG.cellsF
          refine SLF.wpo_do (SLF.wanted_free rfl) ?hd1 ?_
          case hd1 => intro c h; cases h
          obtain ⟨⟨e1, _⟩, ⟨e2, _⟩, ⟨e3, _⟩, ho, e4⟩ := hu
          obtain ⟨sa, sc, e5, _⟩ := owns_slice ho
          rw [e5] at ho e4
          go_step
          exact hK _ _ _ _ (by simp [Act.put]; done) (SL.Chg.refl _ _) ⟨_, rfl, ho, rfl⟩ (fun k hk => .inl (by simpa [SL.rowIn, e4] using hk))
        · refine SLG.ob_no rfl rfl rfl fun us w' Fe hG hu hd Kx hK => ?_
          try dsimp only
          simp [SL.Used, SL.pu, SL.row, SL.box, SL.rowIn, SL.boxIn, SL.boxAt, SL.boxAtIn, SLF.pq, Act.put, SL.aw_sub, SL.aw_use, SL.aw_eat, SL.aw_V, SL.aw_quiet] at hu
          have hB5 : Below w.heap.size w w' := hBW.trans (hG.belowF hBW.size (by simp))
          obtain ⟨hc5, hf5⟩ := bcell hB5
          have hs5 := hB5.size
          obtain ⟨hc6, hf6⟩ := hG.cellsF
          refine SLF.wpo_do (SLF.wanted_free rfl) ?hd1 ?_
          case hd1 => intro c h; cases h
          obtain ⟨⟨y, e33, ho, e1⟩, e4, hbl, e2⟩ := hu
          have hd1 := hd 18 21 (by simp [SL.boxAtIn]) (by simp [SL.boxAtIn]) (by simp)
          rw [e1, e2] at hd1
          have n1 : w.heap.size + 1 ∉ y.ownBlock.toList := fun h => hd1 _ h (by simp)
          obtain ⟨sa, sc, rfl, _⟩ := owns_slice ho
          obtain ⟨y0, y1, y2, y3, yf, yl⟩ := cell4w hbl
          go_step
          refine hK _ _ (SLG.chg_set4 _ (by simp [SL.boxAtIn, e2]) ..) ⟨_, e4, SLG.heap_set4 hbl .., SLG.row_set4 ho n1 .., rfl⟩ ?_
          intro k hk
          left
          simp [SL.boxAtIn, e1, e2] at hk ⊢
          grind
      case hck1 => kernel_rfl
      case hkp1 => kernel_rfl
      intro us w5 Fs hG hu hbd hd
      simp [SL.Used, SL.boxAtIn, SLF.pq] at hu
      obtain ⟨⟨e4, y, hbl, ho, _⟩, e5, _⟩ := hu
      have hB5 : Below w.heap.size w w5 := hBW.trans (hG.belowF hBW.size (by simp))
      have hlen : X + (0) = (ps.eraseIdx X).length := by have := Hn1.out; rw [List.length_eraseIdx, if_pos hX]; omega
      first | rw [hlen] at ho | (have hl2 : X = (ps.eraseIdx X).length := hlen; rw [hl2] at ho; clear hl2)
      obtain ⟨sa, sc, rfl, _⟩ := owns_slice ho
      obtain ⟨y0, y1, y2, y3, yf, yl⟩ := cell4w hbl
      have hps : T1 ++ T2 = pcs (ps.eraseIdx X) := by rw [← HT1.out, ← HT2.out, ← pcs_append, List.eraseIdx_eq_take_drop_succ]
      rw [hps] at ho
      have hRR := HR.out ⟨ware, lim, byr, sa, sc, ps.eraseIdx X⟩ rfl rfl rfl rfl
      have hPt : CsAt w5 ⟨ware, lim, byr, sa, sc, ps.eraseIdx X⟩ := ⟨hc.ware, rfl, by rw [← hlen]; omega, RowAt.of_owns ho, fun p hp => (hc.ps.each p (List.mem_of_mem_eraseIdx hp)).below hB5⟩
      have hPP := hP.out _ _ hRR _ rfl hB5 hPt
      have HPP := Lib.hid hPP
      clear hPP hPt hRR hps hlen hbd hd hG hr1 hr2 ho1 ho2 HT1 HT2 hP HR
      go_wp2_with fail
      refine bodyPost_ret (v := .tuple #[.agg #[.string ware, .int .i64 lim, .int .i64 byr, .slice sa (ps.eraseIdx X).length sc], .int .i64 0]) (by simp [results, Tryz.results55, go_sem, *]) rfl HPP.out
    · have hr2 : ∀ W c', Below w.heap.size w W → RowAt W (some ⟨b1, o1 + (X + 1) * 8, none⟩) c' T2 := fun W c' h => by
        have := rowDrop (a2 := some ⟨b1, o1 + (X + 1) * 8, none⟩) (c2 := c') (hT.below h) ((X + 1) * 8) (.inl rfl)
        rwa [pcs_drop (by omega), HT2.out] at this
      have y1 : ((X : Int) + 1 == (cap : Int)) = false := by simp; omega
      have y2 : (X + 1 == cap) = false := by simp; omega
      clear hT hT1 hT2 hl1 hl2 hC hbx hc1 hf1 hb1
      apply SLG.rule0 ?hm2 [w.heap.size + 1] [15, 16, 17, 18, 19, 20, 21, 22, 23, 24, 25, 26, 27, 28, 29, 30, 31, 32, 33, 5] [SLF.pq 15 [] _, SLF.pq 16 [0] _, SLF.pq 17 [] _, SLF.pq 18 [2] _, SLF.pq 19 [] _, SLF.pq 20 [4] _, SL.row 21 [] [] w.heap.size 49 8 0 [], SLF.pq 22 [] _, SLF.pq 23 [7] _, SLF.pq 24 [] _, SLF.pq 25 [8, 9] _, SL.row 26 [6, 10] [6] w.heap.size 49 8 X T1, SLF.pq 27 [] _, SLF.pq 28 [12] _, SLF.pq 29 [] _, SLF.pq 30 [14] _, SLF.pq 31 [13, 15] _, SL.row 32 [11, 16] [11] w.heap.size 49 8 (X + (ps.length - (X + 1))) (T1 ++ T2), SL.rowIn 33 [1, 3, 5, 17] [17] w.heap.size 49 8 (X + (ps.length - (X + 1))) (T1 ++ T2) (fun y => .agg #[.string ware, .int .i64 lim, .int .i64 byr, y]), SL.boxAtIn 4 [18, 21] [18, 21] (w.heap.size + 1) 24 w.heap.size 49 8 (X + (ps.length - (X + 1))) (T1 ++ T2) (fun y => #[.string ware, .int .i64 lim, .int .i64 byr, y]), SLF.pq 5 [] _, SL.boxAt 4 [] [] (w.heap.size + 1) 24 #[.string ByteArray.empty, .int .i64 0, .int .i64 0, .slice none 0 0]] [19, 20] ?hck2 ?hkp2 (fun i => if i = 21 then [w.heap.size + 1] else []) ?hin2 ?hdj2 ?hfr2 ?ob2 ?en2
      case hm2 => kernel_rfl
      case hin2 => exact SL.one_held rfl rfl ⟨rfl, hbox, rfl⟩ hz2
      case hdj2 => exact SL.one_apart
      case hfr2 => intro us; simp only [SL.frame, SL.put']; simp; exact rfl
      case ob2 =>
        refine ⟨?_, ?_, ?_, ?_, ?_, ?_, ?_, ?_, ?_, ?_, ?_, ?_, ?_, ?_, ?_, ?_, ?_, ?_, ?_, ?_, ?_, trivial⟩
        all_goals first
          | (intro us w' Fe hG hu hd hv Kx hK
             try dsimp only
             simp [SL.Used, SL.pu, SL.row, SL.box, SL.rowIn, SL.boxIn, SL.boxAt, SL.boxAtIn, SLF.pq, Act.put, SL.aw_sub, SL.aw_use, SL.aw_eat, SL.aw_V, SL.aw_quiet] at hu hK
             have hB5 : Below w.heap.size w w' := hBW.trans (hG.belowF hBW.size (by simp))
             obtain ⟨hc5, hf5⟩ := bcell hB5
             have hs5 := hB5.size
             obtain ⟨hc6, hf6⟩ := hG.cellsF
             clear hv
             refine SLF.wpo_do (SLF.wanted_free rfl) ?hd2 ?_
             case hd2 => intro c h; cases h
             clear hd
             first
               | (go_step; exact hK _ _ _ (SL.Chg.refl _ _) (by first | exact rfl | (simp only [hu]; exact rfl)) rfl (by simp) rfl)
               | exact hK _ _ _ (SL.Chg.refl _ _) rfl rfl (by simp) rfl)
          | skip
        · refine SLG.ob_sp rfl rfl rfl fun us w' Fe hG hu hd Kx hK => ?_
          try dsimp only
          simp [SL.Used, SL.pu, SL.row, SL.box, SL.rowIn, SL.boxIn, SL.boxAt, SL.boxAtIn, SLF.pq, Act.put, SL.aw_sub, SL.aw_use, SL.aw_eat, SL.aw_V, SL.aw_quiet] at hu
          have hB5 : Below w.heap.size w w' := hBW.trans (hG.belowF hBW.size (by simp))
          obtain ⟨hc5, hf5⟩ := bcell hB5
          have hs5 := hB5.size
          obtain ⟨hc6, hf6⟩ := hG.cellsF
          refine SLF.wpo_do (SLF.wanted_free rfl) ?hd2 ?_
          case hd2 => intro c h; cases h
          go_step
          exact hK _ (.slice (some ⟨w'.heap.size, 0, none⟩) 0 0) _ _ (by simp [Act.put]; done) (.alloc _ _ _) ⟨World.ownsRow_lit w' #[] 0 hs5 (by decide) rfl, rfl⟩ (fun k hk => .inr (by simp [Value.ownBlock] at hk; subst hk; simp))
        · refine SLG.ob_sp rfl rfl rfl fun us w' Fe hG hu hd Kx hK => ?_
          try dsimp only
          simp [SL.Used, SL.pu, SL.row, SL.box, SL.rowIn, SL.boxIn, SL.boxAt, SL.boxAtIn, SLF.pq, Act.put, SL.aw_sub, SL.aw_use, SL.aw_eat, SL.aw_V, SL.aw_quiet] at hu
          have hB5 : Below w.heap.size w w' := hBW.trans (hG.belowF hBW.size (by simp))
          obtain ⟨hc5, hf5⟩ := bcell hB5
          have hs5 := hB5.size
          obtain ⟨hc6, hf6⟩ := hG.cellsF
          refine SLF.wpo_do (SLF.wanted_free rfl) ?hd2 ?_
          case hd2 => intro c h; cases h
          obtain ⟨⟨ho, e1⟩, e2, _⟩ := hu
          refine wp_app elemP _ _ rfl ho rfl e2 (hr1 _ _ hB5) Hl1.out ho1 (by unfold maxLen; omega) (by omega) hs5 ?_
          intro v' w6 ho6 hg6 hb6 _ hat
          rw [Nat.zero_add, List.nil_append] at ho6
          refine hK _ v' w6 _ (by simp [Act.put]; done) (.of_own hg6 (fun k e => by simp [SL.row, e1, e])) ⟨ho6, rfl⟩ (fun k hk => ?_)
          rcases SL.app_bounds ho ho6 hat k hk with h | h
          · exact .inl (by simpa [SL.row, e1] using h)
          · exact .inr h
        · refine SLG.ob_sp rfl rfl rfl fun us w' Fe hG hu hd Kx hK => ?_
          try dsimp only
          simp [SL.Used, SL.pu, SL.row, SL.box, SL.rowIn, SL.boxIn, SL.boxAt, SL.boxAtIn, SLF.pq, Act.put, SL.aw_sub, SL.aw_use, SL.aw_eat, SL.aw_V, SL.aw_quiet] at hu
          have hB5 : Below w.heap.size w w' := hBW.trans (hG.belowF hBW.size (by simp))
          obtain ⟨hc5, hf5⟩ := bcell hB5
          have hs5 := hB5.size
          obtain ⟨hc6, hf6⟩ := hG.cellsF
          refine SLF.wpo_do (SLF.wanted_free rfl) ?hd2 ?_
          case hd2 => intro c h; cases h
          obtain ⟨⟨ho, e1⟩, e2, _⟩ := hu
          refine wp_app elemP _ _ rfl ho rfl e2 (hr2 _ _  hB5) Hl2.out ho2 (by unfold maxLen; omega) (by omega) hs5 ?_
          intro v' w6 ho6 hg6 hb6 _ hat
          refine hK _ v' w6 _ (by simp [Act.put]; done) (.of_own hg6 (fun k e => by simp [SL.row, e1, e])) ⟨ho6, rfl⟩ (fun k hk => ?_)
          rcases SL.app_bounds ho ho6 hat k hk with h | h
          · exact .inl (by simpa [SL.row, e1] using h)
          · exact .inr h
        · refine SLG.ob_sp rfl rfl rfl fun us w' Fe hG hu hd Kx hK => ?_
          try dsimp only
          simp [SL.Used, SL.pu, SL.row, SL.box, SL.rowIn, SL.boxIn, SL.boxAt, SL.boxAtIn, SLF.pq, Act.put, SL.aw_sub, SL.aw_use, SL.aw_eat, SL.aw_V, SL.aw_quiet] at hu
          have hB5 : Below w.heap.size w w' := hBW.trans (hG.belowF hBW.size (by simp))
          obtain ⟨hc5, hf5⟩ := bcell hB5
          have hs5 := hB5.size
          obtain ⟨hc6, hf6⟩ := hG.cellsF
          refine SLF.wpo_do (SLF.wanted_free rfl) ?hd2 ?_
          case hd2 => intro c h; cases h
          obtain ⟨⟨e1, _⟩, ⟨e2, _⟩, ⟨e3, _⟩, ho, e4⟩ := hu
          obtain ⟨sa, sc, e5, _⟩ := owns_slice ho
          rw [e5] at ho e4
          go_step
          exact hK _ _ _ _ (by simp [Act.put]; done) (SL.Chg.refl _ _) ⟨_, rfl, ho, rfl⟩ (fun k hk => .inl (by simpa [SL.rowIn, e4] using hk))
        · refine SLG.ob_no rfl rfl rfl fun us w' Fe hG hu hd Kx hK => ?_
          try dsimp only
          simp [SL.Used, SL.pu, SL.row, SL.box, SL.rowIn, SL.boxIn, SL.boxAt, SL.boxAtIn, SLF.pq, Act.put, SL.aw_sub, SL.aw_use, SL.aw_eat, SL.aw_V, SL.aw_quiet] at hu
          have hB5 : Below w.heap.size w w' := hBW.trans (hG.belowF hBW.size (by simp))
          obtain ⟨hc5, hf5⟩ := bcell hB5
          have hs5 := hB5.size
          obtain ⟨hc6, hf6⟩ := hG.cellsF
          refine SLF.wpo_do (SLF.wanted_free rfl) ?hd2 ?_
          case hd2 => intro c h; cases h
          obtain ⟨⟨y, e33, ho, e1⟩, e4, hbl, e2⟩ := hu
          have hd1 := hd 18 21 (by simp [SL.boxAtIn]) (by simp [SL.boxAtIn]) (by simp)
          rw [e1, e2] at hd1
          have n1 : w.heap.size + 1 ∉ y.ownBlock.toList := fun h => hd1 _ h (by simp)
          obtain ⟨sa, sc, rfl, _⟩ := owns_slice ho
          obtain ⟨y0, y1, y2, y3, yf, yl⟩ := cell4w hbl
          go_step
          refine hK _ _ (SLG.chg_set4 _ (by simp [SL.boxAtIn, e2]) ..) ⟨_, e4, SLG.heap_set4 hbl .., SLG.row_set4 ho n1 .., rfl⟩ ?_
          intro k hk
          left
          simp [SL.boxAtIn, e1, e2] at hk ⊢
          grind
      case hck2 => kernel_rfl
      case hkp2 => kernel_rfl
      intro us w5 Fs hG hu hbd hd
      simp [SL.Used, SL.boxAtIn, SLF.pq] at hu
      obtain ⟨⟨e4, y, hbl, ho, _⟩, e5, _⟩ := hu
      have hB5 : Below w.heap.size w w5 := hBW.trans (hG.belowF hBW.size (by simp))
      have hlen : X + (ps.length - (X + 1)) = (ps.eraseIdx X).length := by have := hX; rw [List.length_eraseIdx, if_pos hX]; omega
      first | rw [hlen] at ho | (have hl2 : X = (ps.eraseIdx X).length := hlen; rw [hl2] at ho; clear hl2)
      obtain ⟨sa, sc, rfl, _⟩ := owns_slice ho
      obtain ⟨y0, y1, y2, y3, yf, yl⟩ := cell4w hbl
      have hps : T1 ++ T2 = pcs (ps.eraseIdx X) := by rw [← HT1.out, ← HT2.out, ← pcs_append, List.eraseIdx_eq_take_drop_succ]
      rw [hps] at ho
      have hRR := HR.out ⟨ware, lim, byr, sa, sc, ps.eraseIdx X⟩ rfl rfl rfl rfl
      have hPt : CsAt w5 ⟨ware, lim, byr, sa, sc, ps.eraseIdx X⟩ := ⟨hc.ware, rfl, by rw [← hlen]; omega, RowAt.of_owns ho, fun p hp => (hc.ps.each p (List.mem_of_mem_eraseIdx hp)).below hB5⟩
      have hPP := hP.out _ _ hRR _ rfl hB5 hPt
      have HPP := Lib.hid hPP
      clear hPP hPt hRR hps hlen hbd hd hG hr1 hr2 ho1 ho2 HT1 HT2 hP HR
      go_wp2_with fail
      refine bodyPost_ret (v := .tuple #[.agg #[.string ware, .int .i64 lim, .int .i64 byr, .slice sa (ps.eraseIdx X).length sc], .int .i64 0]) (by simp [results, Tryz.results55, go_sem, *]) rfl HPP.out
  · have h2 : (E != 0) = true := by simpa using h0
    have HR := Lib.hid (hR.out.1 h0)
    obtain ⟨ware, lim, byr, a, cap, ps⟩ := c
    simp only [Cs.v] at *
    have hB2 : Below w.heap.size w ((w.alloc (Obj.cells #[.string ware, .int .i64 lim, .int .i64 byr, .slice a ps.length cap] 24)).alloc (Obj.cells #[.string ByteArray.empty, .int .i64 0, .int .i64 0, .slice none 0 0] 24)) := by ((repeat (first | assumption | exact Below.refl _ _ | refine Below.alloc ?_ ?_ _ | refine Below.setCell ?_ ?_ _ | refine Below.drew ?_ | refine belowN ?_ | refine Below.up ?_ (by assumption) ?_)) <;> (first | assumption | omega | (simp; done) | (simp; omega)))
    have hbx := hc.below hB2
    clear h0 hz hR
    go_enter Tryz.func55, Tryz.ntmps55
    go_wp2_with (go_at_call 96; refine (hC _ _ _ _ (hbx.below (one_alloc _ _)) (lit1c _ _ _ _)).mono ?_; rintro e w1 ⟨rfl, hb1⟩; obtain ⟨hc1, hf1⟩ := bcell hb1; have hz2 := lt_size hb1 (b := w.heap.size + 1) (by first | assumption | omega | (simp; done) | (simp; omega)))
    have hBE := (hB2.ch2 (one_alloc _ _)).ch2 hb1
    refine bodyPost_ret (v := .tuple #[.agg #[.string ByteArray.empty, .int .i64 0, .int .i64 0, .slice none 0 0], .int .i64 E]) (by simp [results, Tryz.results55, go_sem, *]; rfl) rfl (hP.out _ Cs.zero HR.out _ rfl ?_ (Cs.zero_at _))
    (repeat (first | (with_reducible exact hBE) | ((with_reducible refine Below.setCell ?_ ?_ _); rotate_left; focus (first | omega | (simp; done) | (simp; omega))) | ((with_reducible refine Below.alloc ?_ ?_ _); rotate_left; focus (first | omega | (simp; done) | (simp; omega)))))
end Go.Proofs.YtodkbfbbpfghiaaGreat
namespace Go.Proofs.YtodkbfbbpfghiaaGreat
open Go
theorem pw_sort (l : List Int) : (l.mergeSort fun x y => decide (x ≤ y)).Pairwise (· ≤ ·) := by
  have h := List.pairwise_mergeSort (le := fun x y : Int => decide (x ≤ y)) (fun a b c h1 h2 => by simp at *; omega) (fun a b => by simp; omega) l
  exact h.imp fun {a b} h => by simpa using h
theorem perm_sort (l : List Int) : (l.mergeSort fun x y => decide (x ≤ y)).Perm l := List.mergeSort_perm l _
theorem asc_ext {a b : List Int} (ha : Asc a) (hb : Asc b) (h : ∀ x, x ∈ a ↔ x ∈ b) : a = b := by
  have hp : a.Perm b := (List.perm_ext_iff_of_nodup ha.nodup hb.nodup).2 h
  exact hp.eq_of_pairwise (le := (· ≤ ·)) (fun x y _ _ h1 h2 => by omega) (ha.imp fun {a b} (h : a < b) => by omega) (hb.imp fun {a b} (h : a < b) => by omega)
theorem comp_go (d : Array Int) (hs : ∀ i j, i ≤ j → j < d.size → d[i]! ≤ d[j]!) : ∀ m, m ≤ d.size → Asc (Lib.compactUpTo d m) ∧ ∀ x, x ∈ Lib.compactUpTo d m ↔ ∃ j, j < m ∧ d[j]! = x
  | 0, _ => by simp [Lib.compactUpTo, Asc]
  | m + 1, hm => by
    obtain ⟨h1, h2⟩ := comp_go d hs m (by omega)
    rw [Lib.compactUpTo_succ]
    have hk : Lib.keeps d m = decide (m = 0 ∨ d[m]! ≠ d[m - 1]!) := rfl
    cases hc : Lib.keeps d m
    · rw [hk] at hc
      simp only [decide_eq_false_iff_not, not_or, Classical.not_not] at hc
      simp only [Bool.false_eq_true, if_false, List.append_nil]
      refine ⟨h1, fun x => ?_⟩
      rw [h2]
      constructor
      · rintro ⟨j, hj, e⟩; exact ⟨j, by omega, e⟩
      · rintro ⟨j, hj, e⟩
        by_cases hjm : j = m
        · subst hjm; exact ⟨j - 1, by omega, by rw [← hc.2]; exact e⟩
        · exact ⟨j, by omega, e⟩
    · rw [hk, decide_eq_true_eq] at hc
      simp only [if_true]
      refine ⟨List.pairwise_append.2 ⟨h1, by simp, fun x hx y hy => ?_⟩, fun x => ?_⟩
      · simp only [List.mem_singleton] at hy
        subst hy
        obtain ⟨j, hj, rfl⟩ := (h2 x).1 hx
        have a1 := hs j (m - 1) (by omega) (by omega)
        have a2 := hs (m - 1) m (by omega) (by omega)
        rcases hc with h | h
        · omega
        · omega
      · rw [List.mem_append, h2]
        constructor
        · rintro (⟨j, hj, e⟩ | h)
          · exact ⟨j, by omega, e⟩
          · simp at h; exact ⟨m, by omega, h.symm⟩
        · rintro ⟨j, hj, e⟩
          by_cases hjm : j = m
          · subst hjm; right; simp [e]
          · left; exact ⟨j, by omega, e⟩
theorem compact_sorted (l : List Int) : Lib.compact (l.mergeSort fun x y => decide (x ≤ y)) = ascOf l := by
  have hp := pw_sort l
  have hm := perm_sort l
  generalize (l.mergeSort fun x y => decide (x ≤ y)) = q at *
  have hg := comp_go q.toArray (fun i j hij hj => by
    have hj' : j < q.length := by simpa using hj
    have := pw_get hp hij hj'
    simpa [List.getD_eq_getElem?_getD, hj', show i < q.length by omega] using this) q.length (by simp)
  unfold Lib.compact
  refine asc_ext hg.1 (ascOf_asc _) fun x => ?_
  rw [hg.2, mem_ascOf, ← hm.mem_iff]
  constructor
  · rintro ⟨j, hj, e⟩
    rw [← e]
    simp [hj]
  · intro h
    obtain ⟨j, hj, e⟩ := List.getElem_of_mem h
    exact ⟨j, hj, by simp [hj, e]⟩
theorem sort_len (l : List Int) : (l.mergeSort fun x y => decide (x ≤ y)).length = l.length := (perm_sort l).length_eq
end Go.Proofs.YtodkbfbbpfghiaaGreat
namespace Go.Proofs.YtodkbfbbpfghiaaGreat
open Go.RowKit Go.Shelf
set_option maxHeartbeats 4000000
set_option maxRecDepth 100000
theorem wrising_any (a : Option Addr) (n cap : Nat) (xs : List Int) (lo hi : Int) (w : World) (hx : LAt w a n cap xs) :
    Calls Tryz.prog 115 #[.slice a n cap, .int .i64 lo, .int .i64 hi] w fun e w' => e = .returned (.bool (risB lo hi xs)) ∧ Below w.heap.size w w' := by
  have hl := hx.small
  obtain rfl := hx.len
  go_enter Tryz.func115, Tryz.ntmps115
  go_wp2_with fail
  go_loopw [11] (fun i wr => ∃ k : Nat, k ≤ xs.length ∧ i = .int .i64 k ∧ Below w.heap.size w wr ∧ risB lo hi (xs.take k) = true) (fun i _ => xs.length - (RowKit.intOf i).toNat)
  case atStart => exact ⟨0, Nat.zero_le _, rfl, Below.refl _ _, rfl⟩
  case round =>
    obtain ⟨k, hk, rfl, hB, hall⟩ := hrel
    have Hall := Lib.hid hall
    clear hall
    by_cases hlt : k < xs.length
    · obtain ⟨b, o, rfl, _, d0⟩ := (hx.below hB).get hlt
      have hs := ris_snoc (lo := lo) (hi := hi) hlt
      rw [Hall.out] at hs
      have d1 : ∀ (_ : 0 < k), ∃ y, wr.cell? ⟨b, o + (k - 1), none⟩ = some (.int .i64 y) ∧ xs.getD (k - 1) 0 = y := fun h0 => by
        obtain ⟨b', o', e, _, d⟩ := (hx.below hB).get (i := k - 1) (by omega)
        simp at e
        obtain ⟨rfl, rfl⟩ := e
        exact ⟨_, d, rfl⟩
      have hnn : (0 : Int) ≤ k := by omega
      have i1 : (k : Int) < (xs.length : Int) := by omega
      obtain ⟨x, hxe⟩ : ∃ x, xs.getD k 0 = x := ⟨_, rfl⟩
      rw [hxe] at d0 hs
      have hW := fun w2 => wwithin_any x lo hi w2
      have Hp := @ris_pre lo hi xs (k + 1)
      cases h1 : withinB x lo hi
      · have Hs : Hid _ := Lib.hid hs
        simp only [h1] at hW
        have Hf := Lib.hid (Hp (by rw [Hs.out, h1]; rfl))
        clear hs h1 hxe d1 Hs
        go_wp2_with (go_at_call 100; (with_reducible refine (hW _).mono ?_); rintro e w1 ⟨rfl, rfl⟩)
        go_ret
        exact ⟨ret_bool Hf.out.symm, hB⟩
      · simp only [h1] at hW
        rw [h1] at hs
        rcases Nat.eq_zero_or_pos k with e | e
        · subst e
          rw [Nat.add_zero] at d0
          have Hs := Lib.hid hs
          clear hs h1 hxe d1
          go_wp2_with (go_at_call 100; (with_reducible refine (hW _).mono ?_); rintro e w1 ⟨rfl, rfl⟩)
          go_roundw
          case rel => exact ⟨1, by omega, by go_num, hB, by rw [Hs.out]; rfl⟩
          case measure => simp [RowKit.intOf]; omega
        · obtain ⟨y, d1, hye⟩ := d1 e
          rw [hye] at hs
          have hk0 : (k == 0) = false := by simp; omega
          rw [hk0] at hs
          have hgt : decide ((0 : Int) < k) = true := by simp; omega
          have e1 : (k : Int) - 1 = ((k - 1 : Nat) : Int) := by omega
          have i2 : (k : Int) - 1 < (xs.length : Int) := by omega
          have i3 : (0 : Int) ≤ (k : Int) - 1 := by omega
          have e2 : ((k : Int) - 1).toNat = k - 1 := by omega
          cases h3 : decide (y < x)
          · have h4 : decide (x ≤ y) = true := by simp at h3 ⊢; omega
            have Hf := Lib.hid (Hp (by rw [hs, h3]; rfl))
            clear hs h1 hxe hye hk0 h3
            go_wp2_with (go_at_call 100; (with_reducible refine (hW _).mono ?_); rintro e w1 ⟨rfl, rfl⟩)
            go_ret
            exact ⟨ret_bool Hf.out.symm, hB⟩
          · have h4 : decide (x ≤ y) = false := by simp at h3 ⊢; omega
            rw [h3] at hs
            have Hs := Lib.hid hs
            clear hs h1 hxe hye hk0 h3
            go_wp2_with (go_at_call 100; (with_reducible refine (hW _).mono ?_); rintro e w1 ⟨rfl, rfl⟩)
            go_roundw
            case rel => exact ⟨k + 1, by omega, by go_num, hB, by rw [Hs.out]; rfl⟩
            case measure => simp [RowKit.intOf]; omega
    · rw [List.take_of_length_le (by omega)] at Hall
      go_wp2_with fail
      go_ret
      exact ⟨ret_bool Hall.out.symm, hB⟩
theorem wright_any (p : Pt) (w : World) (hp : PtAt w p) :
    Calls Tryz.prog 102 #[p.v] w fun e w' => e = .returned (.bool (ptB p)) ∧ Below w.heap.size w w' := by
  obtain ⟨sa, sc, sh, lo, hi, lob, hib, ft, fby, ra, rc, re⟩ := p
  obtain ⟨h1, h2⟩ := hp
  simp only at h1 h2
  have s1 := h1.small
  have s2 := h2.small
  simp only [Pt.v]
  have he : ptB ⟨sa, sc, sh, lo, hi, lob, hib, ft, fby, ra, rc, re⟩ = (decide (1 ≤ sh.length) && decide (sh.length ≤ 40) && risB 1 1000000 sh && decide (0 ≤ lo) && decide (lo ≤ hi) && decide (hi ≤ 1000) &&
    decide (re.length ≤ 200) && risB 1 1000000 re && toldB lob (lo == 0) && toldB hib (hi == 1000) && toldB fby (!ft)) := rfl
  generalize ptB ⟨sa, sc, sh, lo, hi, lob, hib, ft, fby, ra, rc, re⟩ = T at *
  have hlen : (decide (1 ≤ sh.length) && decide (sh.length ≤ 40)) = withinB sh.length 1 40 := by unfold withinB; rw [Bool.eq_iff_iff]; simp; omega
  rw [hlen] at he
  obtain ⟨W0, hW0⟩ : ∃ W0, withinB (sh.length : Int) 1 40 = W0 := ⟨_, rfl⟩
  obtain ⟨R1, hR1⟩ : ∃ R1, risB 1 1000000 sh = R1 := ⟨_, rfl⟩
  obtain ⟨R2, hR2⟩ : ∃ R2, risB 1 1000000 re = R2 := ⟨_, rfl⟩
  obtain ⟨T1, hT1⟩ : ∃ T1, toldB lob (lo == 0) = T1 := ⟨_, rfl⟩
  obtain ⟨T2, hT2⟩ : ∃ T2, toldB hib (hi == 1000) = T2 := ⟨_, rfl⟩
  obtain ⟨T3, hT3⟩ : ∃ T3, toldB fby (!ft) = T3 := ⟨_, rfl⟩
  rw [hR1, hR2, hT1, hT2, hT3, hW0] at he
  have He := Lib.hid he
  have HW0 := Lib.hid hW0
  have HR1 := Lib.hid hR1
  have HR2 := Lib.hid hR2
  have HT1 := Lib.hid hT1
  have HT2 := Lib.hid hT2
  have HT3 := Lib.hid hT3
  clear he hR1 hR2 hT1 hT2 hT3 hW0 hlen
  go_enter Tryz.func102, Tryz.ntmps102
  go_wp2_with (first
    | (go_at_call 100; (with_reducible refine (wwithin_any _ _ _ _).mono ?_); rintro e w0 ⟨rfl, rfl⟩; rw [HW0.out])
    | (go_at_call 115; refine (wrising_any _ _ _ _ _ _ _ (by first | exact h1.below (by ((repeat (first | assumption | exact Below.refl _ _ | refine Below.alloc ?_ ?_ _ | refine Below.setCell ?_ ?_ _ | refine Below.drew ?_ | refine belowN ?_ | refine Below.up ?_ (by assumption) ?_)) <;> (first | assumption | omega | (simp; done) | (simp; omega)))) | exact h2.below (by ((repeat (first | assumption | exact Below.refl _ _ | refine Below.alloc ?_ ?_ _ | refine Below.setCell ?_ ?_ _ | refine Below.drew ?_ | refine belowN ?_ | refine Below.up ?_ (by assumption) ?_)) <;> (first | assumption | omega | (simp; done) | (simp; omega)))))).mono ?_; rintro e w1 ⟨rfl, hb1⟩; (first | rw [HR1.out] | rw [HR2.out]); obtain ⟨hc1, hf1⟩ := bcell hb1; have z1 := lt_size hb1 (b := w.heap.size) (by first | assumption | omega | (simp; done) | (simp; omega)); have z2 := lt_size hb1 (b := w.heap.size + 1) (by first | assumption | omega | (simp; done) | (simp; omega)))
    | (go_at_call 101; refine (wtold_any _ _ _).mono ?_; rintro e w3 ⟨rfl, rfl⟩; (first | rw [HT1.out] | rw [HT2.out] | rw [HT3.out])))
  all_goals
    clear HR1 HR2 HT1 HT2 HT3 HW0
    go_ret
    refine ⟨ret_bool ?_, by ((repeat (first | assumption | exact Below.refl _ _ | refine Below.alloc ?_ ?_ _ | refine Below.setCell ?_ ?_ _ | refine Below.drew ?_ | refine belowN ?_ | refine Below.up ?_ (by assumption) ?_)) <;> (first | assumption | omega | (simp; done) | (simp; omega)))⟩
    rw [He.out]
    clear He
    first
      | (rw [Bool.eq_iff_iff]; simp only [Bool.and_eq_true, decide_eq_true_eq]; grind)
      | (trace_state; fail)
theorem any_take {α : Type} {f : α → Bool} {l : List α} {k : Nat} (hk : k < l.length) : (l.take (k + 1)).any f = ((l.take k).any f || f l[k]) := by
  rw [List.take_succ_eq_append_getElem hk, List.any_append]; simp
theorem any_hit {α : Type} {f : α → Bool} {l : List α} {k : Nat} (hk : k < l.length) (h : f l[k] = true) : l.any f = true := List.any_eq_true.2 ⟨_, List.getElem_mem hk, h⟩
/-- Where IndexFunc stops: at one with it, or nowhere. -/
def IdxPost (w : World) (any : Bool) (e : Ending) (w' : World) : Prop := ∃ i : Int, e = .returned (.int .i64 i) ∧ decide (0 ≤ i) = any ∧ Below w.heap.size w w'
theorem getI {xs : List Int} {k : Nat} (h : k < xs.length) : xs.getD k 0 = xs[k] := by simp [List.getD_eq_getElem?_getD, List.getElem?_eq_getElem h]
/-- A slice of bytes. -/
structure BysAt (w : World) (a : Option Addr) (n cap : Nat) (xs : List UInt8) : Prop where
  len : n = xs.length
  small : xs.length ≤ 140737488351232
  row : RowAt w a cap (xs.map fun b => Value.int .u8 b.toNat)
theorem BysAt.below {w w' : World} {a : Option Addr} {n cap : Nat} {xs : List UInt8} (h : BysAt w a n cap xs) (hb : Below w.heap.size w w') : BysAt w' a n cap xs := ⟨h.len, h.small, h.row.below hb⟩
theorem BysAt.get {w : World} {a : Option Addr} {n cap : Nat} {xs : List UInt8} (h : BysAt w a n cap xs) {i : Nat} (hi : i < xs.length) : ∃ b off, a = some ⟨b, off, none⟩ ∧ b < w.heap.size ∧
    w.cell? ⟨b, off + i, none⟩ = some (.int .u8 (xs.getD i 0).toNat) := h.row.cell (by simp [List.getD_eq_getElem?_getD, List.getElem?_eq_getElem hi])
theorem getB {xs : List UInt8} {k : Nat} (h : k < xs.length) : xs.getD k 0 = xs[k] := by simp [List.getD_eq_getElem?_getD, List.getElem?_eq_getElem h]
/-- A list of ints: where it lies, and what it holds. -/
structure Ls where
  a : Option Addr
  cap : Nat
  l : List Int
instance : Inhabited Ls := ⟨⟨none, 0, []⟩⟩
def Ls.v (x : Ls) : Value := .slice x.a x.l.length x.cap
/-- A slice of lists. -/
structure LssAt (w : World) (a : Option Addr) (n cap : Nat) (xs : List Ls) : Prop where
  len : n = xs.length
  small : xs.length ≤ 140737488351232
  row : RowAt w a cap (xs.map Ls.v)
  each : ∀ x ∈ xs, IntsAt w x.a x.l.length x.cap x.l
theorem LssAt.below {w w' : World} {a : Option Addr} {n cap : Nat} {xs : List Ls} (h : LssAt w a n cap xs) (hb : Below w.heap.size w w') : LssAt w' a n cap xs := ⟨h.len, h.small, h.row.below hb, fun x hx => (h.each x hx).below hb⟩
theorem LssAt.get {w : World} {a : Option Addr} {n cap : Nat} {xs : List Ls} (h : LssAt w a n cap xs) {i : Nat} (hi : i < xs.length) : ∃ b off, a = some ⟨b, off, none⟩ ∧ b < w.heap.size ∧
    w.cell? ⟨b, off + i, none⟩ = some (.slice (xs.getD i default).a (xs.getD i default).l.length (xs.getD i default).cap) := h.row.cell (by simp [List.getD_eq_getElem?_getD, List.getElem?_eq_getElem hi]; rfl)
theorem getL {xs : List Ls} {k : Nat} (h : k < xs.length) : xs.getD k default = xs[k] := by simp [List.getD_eq_getElem?_getD, List.getElem?_eq_getElem h]
theorem idxF_any (k : Nat) (caps : Array Value) (f : Int → Bool) (a : Option Addr) (n cap : Nat) (xs : List Int) (w : World) (hx : IntsAt w a n cap xs) (hent : ∀ args w, (callFunc k args).run Tryz.prog w = .ok (.enter k args) w)
    (hf : ∀ x, x ∈ xs → ∀ w1, Below w.heap.size w w1 → Calls Tryz.prog k (#[.int .i64 x] ++ caps) w1 fun e w' => e = .returned (.bool (f x)) ∧ Below w1.heap.size w1 w') :
    Calls Tryz.prog 145 #[.slice a n cap, .func (.func k) #[] caps] w (IdxPost w (xs.any f)) := by
  have hl := hx.small
  obtain rfl := hx.len
  go_enter Tryz.func145, Tryz.ntmps145
  go_wp2_with fail
  go_loopw [8] (fun i wr => ∃ j : Nat, j ≤ xs.length ∧ i = .int .i64 j ∧ Below w.heap.size w wr ∧ (xs.take j).any f = false) (fun i _ => xs.length - (RowKit.intOf i).toNat)
  case atStart => exact ⟨0, Nat.zero_le _, rfl, Below.refl _ _, rfl⟩
  case round =>
    obtain ⟨j, hj, rfl, hB, hall⟩ := hrel
    have Hall := Lib.hid hall
    clear hall
    have hnn : (0 : Int) ≤ j := by omega
    by_cases hlt : j < xs.length
    · obtain ⟨b, o, rfl, _, d0⟩ := (hx.below hB).get hlt
      have i1 : (j : Int) < (xs.length : Int) := by omega
      have Hat := Lib.hid (any_take (f := f) hlt)
      have Hhit := Lib.hid (any_hit (f := f) hlt)
      have hfx := hf _ (List.getElem_mem hlt) wr hB
      rw [getI hlt] at d0
      generalize xs[j] = x at *
      cases hfv : f x
      · rw [hfv] at hfx
        have Hfv := Lib.hid hfv
        clear hfv
        go_wp2_with fail
        refine hfx.mono ?_
        rintro e w2 ⟨rfl, hb2⟩
        go_wp2_with fail
        go_roundw
        case rel => exact ⟨j + 1, by omega, by go_num, hB.ch2 hb2, by rw [Hat.out, Hall.out, Hfv.out]; rfl⟩
        case measure => simp [RowKit.intOf]; omega
      · rw [hfv] at hfx
        have Hfv := Lib.hid (Hhit.out hfv)
        clear hfv
        go_wp2_with fail
        refine hfx.mono ?_
        rintro e w2 ⟨rfl, hb2⟩
        go_wp2_with fail
        go_ret
        exact ⟨_, rfl, by rw [Hfv.out]; simp, hB.ch2 hb2⟩
    · rw [List.take_of_length_le (by omega)] at Hall
      go_wp2_with fail
      go_ret
      exact ⟨_, rfl, by rw [Hall.out]; rfl, hB⟩
theorem conF_any (k : Nat) (caps : Array Value) (f : Int → Bool) (a : Option Addr) (n cap : Nat) (xs : List Int) (w : World) (hx : IntsAt w a n cap xs) (hent : ∀ args w, (callFunc k args).run Tryz.prog w = .ok (.enter k args) w)
    (hf : ∀ x, x ∈ xs → ∀ w1, Below w.heap.size w w1 → Calls Tryz.prog k (#[.int .i64 x] ++ caps) w1 fun e w' => e = .returned (.bool (f x)) ∧ Below w1.heap.size w1 w') :
    Calls Tryz.prog 116 #[.slice a n cap, .func (.func k) #[] caps] w fun e w' => e = .returned (.bool (xs.any f)) ∧ Below w.heap.size w w' := by
  have hI := idxF_any k caps f a n cap xs w hx hent hf
  generalize xs.any f = T at *
  clear hf
  go_enter Tryz.func116, Tryz.ntmps116
  go_wp2_with (go_at_call 145; (with_reducible refine hI.mono ?_); rintro e w1 ⟨i, rfl, hi, hb1⟩; have Hi := Lib.hid hi; clear hi)
  go_ret
  exact ⟨ret_bool Hi.out, hb1⟩
theorem idxB_any (k : Nat) (caps : Array Value) (f : UInt8 → Bool) (a : Option Addr) (n cap : Nat) (xs : List UInt8) (w : World) (hx : BysAt w a n cap xs) (hent : ∀ args w, (callFunc k args).run Tryz.prog w = .ok (.enter k args) w)
    (hf : ∀ x, x ∈ xs → ∀ w1, Below w.heap.size w w1 → Calls Tryz.prog k (#[.int .u8 x.toNat] ++ caps) w1 fun e w' => e = .returned (.bool (f x)) ∧ Below w1.heap.size w1 w') :
    Calls Tryz.prog 160 #[.slice a n cap, .func (.func k) #[] caps] w (IdxPost w (xs.any f)) := by
  have hl := hx.small
  obtain rfl := hx.len
  go_enter Tryz.func160, Tryz.ntmps160
  go_wp2_with fail
  go_loopw [8] (fun i wr => ∃ j : Nat, j ≤ xs.length ∧ i = .int .i64 j ∧ Below w.heap.size w wr ∧ (xs.take j).any f = false) (fun i _ => xs.length - (RowKit.intOf i).toNat)
  case atStart => exact ⟨0, Nat.zero_le _, rfl, Below.refl _ _, rfl⟩
  case round =>
    obtain ⟨j, hj, rfl, hB, hall⟩ := hrel
    have Hall := Lib.hid hall
    clear hall
    have hnn : (0 : Int) ≤ j := by omega
    by_cases hlt : j < xs.length
    · obtain ⟨b, o, rfl, _, d0⟩ := (hx.below hB).get hlt
      have i1 : (j : Int) < (xs.length : Int) := by omega
      have Hat := Lib.hid (any_take (f := f) hlt)
      have Hhit := Lib.hid (any_hit (f := f) hlt)
      have hfx := hf _ (List.getElem_mem hlt) wr hB
      rw [getB hlt] at d0
      generalize xs[j] = x at *
      cases hfv : f x
      · rw [hfv] at hfx
        have Hfv := Lib.hid hfv
        clear hfv
        go_wp2_with fail
        refine hfx.mono ?_
        rintro e w2 ⟨rfl, hb2⟩
        go_wp2_with fail
        go_roundw
        case rel => exact ⟨j + 1, by omega, by go_num, hB.ch2 hb2, by rw [Hat.out, Hall.out, Hfv.out]; rfl⟩
        case measure => simp [RowKit.intOf]; omega
      · rw [hfv] at hfx
        have Hfv := Lib.hid (Hhit.out hfv)
        clear hfv
        go_wp2_with fail
        refine hfx.mono ?_
        rintro e w2 ⟨rfl, hb2⟩
        go_wp2_with fail
        go_ret
        exact ⟨_, rfl, by rw [Hfv.out]; simp, hB.ch2 hb2⟩
    · rw [List.take_of_length_le (by omega)] at Hall
      go_wp2_with fail
      go_ret
      exact ⟨_, rfl, by rw [Hall.out]; rfl, hB⟩
theorem conB_any (k : Nat) (caps : Array Value) (f : UInt8 → Bool) (a : Option Addr) (n cap : Nat) (xs : List UInt8) (w : World) (hx : BysAt w a n cap xs) (hent : ∀ args w, (callFunc k args).run Tryz.prog w = .ok (.enter k args) w)
    (hf : ∀ x, x ∈ xs → ∀ w1, Below w.heap.size w w1 → Calls Tryz.prog k (#[.int .u8 x.toNat] ++ caps) w1 fun e w' => e = .returned (.bool (f x)) ∧ Below w1.heap.size w1 w') :
    Calls Tryz.prog 135 #[.slice a n cap, .func (.func k) #[] caps] w fun e w' => e = .returned (.bool (xs.any f)) ∧ Below w.heap.size w w' := by
  have hI := idxB_any k caps f a n cap xs w hx hent hf
  generalize xs.any f = T at *
  clear hf
  go_enter Tryz.func135, Tryz.ntmps135
  go_wp2_with (go_at_call 160; (with_reducible refine hI.mono ?_); rintro e w1 ⟨i, rfl, hi, hb1⟩; have Hi := Lib.hid hi; clear hi)
  go_ret
  exact ⟨ret_bool Hi.out, hb1⟩
theorem idxS_any (k : Nat) (caps : Array Value) (f : Ls → Bool) (a : Option Addr) (n cap : Nat) (xs : List Ls) (w : World) (hx : LssAt w a n cap xs) (hent : ∀ args w, (callFunc k args).run Tryz.prog w = .ok (.enter k args) w)
    (hf : ∀ x, x ∈ xs → ∀ w1, Below w.heap.size w w1 → Calls Tryz.prog k (#[.slice x.a x.l.length x.cap] ++ caps) w1 fun e w' => e = .returned (.bool (f x)) ∧ Below w1.heap.size w1 w') :
    Calls Tryz.prog 148 #[.slice a n cap, .func (.func k) #[] caps] w (IdxPost w (xs.any f)) := by
  have hl := hx.small
  obtain rfl := hx.len
  go_enter Tryz.func148, Tryz.ntmps148
  go_wp2_with fail
  go_loopw [8] (fun i wr => ∃ j : Nat, j ≤ xs.length ∧ i = .int .i64 j ∧ Below w.heap.size w wr ∧ (xs.take j).any f = false) (fun i _ => xs.length - (RowKit.intOf i).toNat)
  case atStart => exact ⟨0, Nat.zero_le _, rfl, Below.refl _ _, rfl⟩
  case round =>
    obtain ⟨j, hj, rfl, hB, hall⟩ := hrel
    have Hall := Lib.hid hall
    clear hall
    have hnn : (0 : Int) ≤ j := by omega
    by_cases hlt : j < xs.length
    · obtain ⟨b, o, rfl, _, d0⟩ := (hx.below hB).get hlt
      have i1 : (j : Int) < (xs.length : Int) := by omega
      have Hat := Lib.hid (any_take (f := f) hlt)
      have Hhit := Lib.hid (any_hit (f := f) hlt)
      have hfx := hf _ (List.getElem_mem hlt) wr hB
      rw [getL hlt] at d0
      generalize xs[j] = x at *
      cases hfv : f x
      · rw [hfv] at hfx
        have Hfv := Lib.hid hfv
        clear hfv
        go_wp2_with fail
        refine hfx.mono ?_
        rintro e w2 ⟨rfl, hb2⟩
        go_wp2_with fail
        go_roundw
        case rel => exact ⟨j + 1, by omega, by go_num, hB.ch2 hb2, by rw [Hat.out, Hall.out, Hfv.out]; rfl⟩
        case measure => simp [RowKit.intOf]; omega
      · rw [hfv] at hfx
        have Hfv := Lib.hid (Hhit.out hfv)
        clear hfv
        go_wp2_with fail
        refine hfx.mono ?_
        rintro e w2 ⟨rfl, hb2⟩
        go_wp2_with fail
        go_ret
        exact ⟨_, rfl, by rw [Hfv.out]; simp, hB.ch2 hb2⟩
    · rw [List.take_of_length_le (by omega)] at Hall
      go_wp2_with fail
      go_ret
      exact ⟨_, rfl, by rw [Hall.out]; rfl, hB⟩
theorem conS_any (k : Nat) (caps : Array Value) (f : Ls → Bool) (a : Option Addr) (n cap : Nat) (xs : List Ls) (w : World) (hx : LssAt w a n cap xs) (hent : ∀ args w, (callFunc k args).run Tryz.prog w = .ok (.enter k args) w)
    (hf : ∀ x, x ∈ xs → ∀ w1, Below w.heap.size w w1 → Calls Tryz.prog k (#[.slice x.a x.l.length x.cap] ++ caps) w1 fun e w' => e = .returned (.bool (f x)) ∧ Below w1.heap.size w1 w') :
    Calls Tryz.prog 120 #[.slice a n cap, .func (.func k) #[] caps] w fun e w' => e = .returned (.bool (xs.any f)) ∧ Below w.heap.size w w' := by
  have hI := idxS_any k caps f a n cap xs w hx hent hf
  generalize xs.any f = T at *
  clear hf
  go_enter Tryz.func120, Tryz.ntmps120
  go_wp2_with (go_at_call 148; (with_reducible refine hI.mono ?_); rintro e w1 ⟨i, rfl, hi, hb1⟩; have Hi := Lib.hid hi; clear hi)
  go_ret
  exact ⟨ret_bool Hi.out, hb1⟩
end Go.Proofs.YtodkbfbbpfghiaaGreat
