/-
  Lemmas and walks for the laws on roads and boards: what each function of the program answers, for every input.
-/
import Derived.Test.YtelkcohhagblaaaGreatSc11
set_option linter.unusedSimpArgs false
set_option linter.unusedVariables false
set_option linter.unnecessarySimpa false
namespace Go.Proofs.YtelkcohhagblaaaGreat
open Go.RowKit Go.Shelf Go.Maps
set_option maxHeartbeats 8000000
set_option maxRecDepth 100000
attribute [local go_sem] Oper.semAt_some
theorem of_start2 {w w2 : World} {cs : Array Value} {y : Itm} {a : Option Addr} {n cap : Nat} (hb2 : Below ((w.alloc (Obj.cells cs 24)).alloc (Obj.cells #[.int .i64 0] 28)).heap.size ((w.alloc (Obj.cells cs 24)).alloc (Obj.cells #[.int .i64 0] 28)) w2) :
 OfI w (w.heap.size + 1) w2.heap.size (w2.heap.size + 1) (w2.heap.size + 1 + 1) 0 y 0 (.slice a n cap) (((w2.alloc (Obj.cells y.cs.toArray 24)).alloc (Obj.cells #[.int .i64 0] 3)).alloc (Obj.cells #[.slice a n cap] 22)) := by
 obtain ⟨q1, q2⟩ := of_err hb2
 have hO := World.alloc_heap_new (w2.alloc (Obj.cells y.cs.toArray 24)) (Obj.cells #[.int .i64 0] 3)
 rw [World.size_alloc] at hO
 have hB := World.alloc_heap_new ((w2.alloc (Obj.cells y.cs.toArray 24)).alloc (Obj.cells #[.int .i64 0] 3)) (Obj.cells #[.slice a n cap] 22)
 rw [World.size_alloc, World.size_alloc] at hB
 exact ⟨alKeep (alKeep (alKeep q1)), alKeep (alKeep (World.alloc_heap_new w2 _)), fun _ => alKeep hO, hB, ((q2.ch2 (one_alloc _ _)).ch2 (one_alloc _ _)).ch2 (one_alloc _ _)⟩
theorem filter_snoc (pre : List Itm) (x : Itm) (id : Int) : (((pre ++ [x]).filter fun z => z.sh == id).length : Int) = ((pre.filter fun z => z.sh == id).length : Int) + if x.sh = id then 1 else 0 := by
 rw [List.filter_append, List.length_append]
 by_cases h : x.sh = id <;> simp [h]
theorem sofM (id kn kd : Int) (wa : ByteArray) (pit ly co : Int) (ft : Bool) (sh fr tw lo hi : Int) (st : ByteArray) (li vo : Int) (hk : kd = 2 ∨ kd = 3 ∨ kd = 4 ∨ kd = 5) (a : Option Addr) (n cap : Nat) (l : List Itm) (w : World) (h : ItmsAt w a n cap l) (hl : l.length ≤ 1000) :
 Calls Tryz.prog 137 #[.slice a n cap, Itm.v ⟨id, kn, kd, wa, pit, ly, co, ft, sh, fr, tw, lo, hi, st, li, vo⟩] w (EPost w (ofE l ⟨id, kn, kd, wa, pit, ly, co, ft, sh, fr, tw, lo, hi, st, li, vo⟩)) := by
 obtain rfl := h.len
 have hNm := fun w1 (h : ItmsAt w1 a l.length cap l) => snamed_any a l.length cap l sh w1 h hl
 unfold FindPost at hNm
 have hE : ofE l ⟨id, kn, kd, wa, pit, ly, co, ft, sh, fr, tw, lo, hi, st, li, vo⟩ = match findI l sh with
  | none => 5
  | some y => if y.kd ≠ 1 then 5 else if kd = 2 ∧ y.co < tw ∨ kd = 3 ∧ y.co ≤ tw then 1 else if 150 ≤ ((standL l).filter fun z => z.sh == y.id).length then 2 else 0 := by
  unfold ofE ownN
  rw [if_neg (by simp only; omega), if_pos (by unfold measB; simp; omega)]
  simp only
  cases findI l sh <;> rfl
 have HP := Lib.hid (show ∀ v w', Below w.heap.size w w' → ofE l ⟨id, kn, kd, wa, pit, ly, co, ft, sh, fr, tw, lo, hi, st, li, vo⟩ = v → EPost w (ofE l ⟨id, kn, kd, wa, pit, ly, co, ft, sh, fr, tw, lo, hi, st, li, vo⟩) (.returned (.int .i64 v)) w' from fun v w' h1 h2 => ⟨by rw [h2], h1⟩)
 generalize EPost w (ofE l ⟨id, kn, kd, wa, pit, ly, co, ft, sh, fr, tw, lo, hi, st, li, vo⟩) = Post at *
 rw [hE] at HP
 clear hE
 generalize findI l sh = o at *
 have HS := Lib.hid (fun BL => sstands1 a l.length cap l BL hl)
 have HL : Hid ((standL l).length ≤ 1000) := Lib.hid (Nat.le_trans (List.length_filter_le _ _) hl)
 generalize standL l = L at *
 cases o with
 | none =>
   simp only [Option.getD, Option.isSome, Itm.zero] at hNm HP
   simp only [Itm.v, Itm.cs] at hNm ⊢
   rcases hk with rfl | rfl | rfl | rfl
   ·as_aux_lemma =>
    refine (callsIn_wide (n := 0)).1 (callsIn_of_wp_marks Tryz.func137 rfl trivial ?_)
    simp only [Tryz.ntmps137, List.size_toArray, List.length_cons, List.length_nil, Nat.reduceAdd, Nat.reduceSub, Array.replicate_succ, Array.replicate_zero, List.push_toArray, List.append_toArray, List.nil_append, List.cons_append]
    refine wpIn_wide.2 ?_
    go_wp2_with (first
     | (go_at_call 166; (with_reducible refine (hNm _ (h.below (by ((repeat (first | assumption | exact Below.refl _ _ | refine Below.alloc ?_ ?_ _ | refine Below.setCell ?_ ?_ _ | refine Below.drew ?_ | refine belowN ?_ | refine Below.up ?_ (by assumption) ?_)) <;> (first | assumption | omega | (simp; done) | (simp; omega)))))).mono ?_); rintro e w2 ⟨rfl, hb2⟩; obtain ⟨hc2, hf2⟩ := bcell hb2; have hzE := lt_size hb2 (b := w.heap.size + 1) (by first | assumption | omega | (simp; done) | (simp; omega)); have hzX := lt_size hb2 (b := w.heap.size) (by first | assumption | omega | (simp; done) | (simp; omega)))
     | (go_at_call 109; refine (sstands _ _ _ _).mono ?_; rintro e w1 ⟨rfl, rfl⟩))
    obtain ⟨q1, q2⟩ := of_err hb2
    exact of_leaves (B := w2.heap.size + 1 + 1) rfl (by omega) (by omega) ⟨by simp, by simp⟩ (alKeep (one_set q1 _)) ((q2.setCell (show w.heap.size ≤ w.heap.size + 1 by omega) _).ch2 (one_alloc _ _)) (fun W' hb => HP.out 5 W' hb rfl)
   ·as_aux_lemma =>
    refine (callsIn_wide (n := 0)).1 (callsIn_of_wp_marks Tryz.func137 rfl trivial ?_)
    simp only [Tryz.ntmps137, List.size_toArray, List.length_cons, List.length_nil, Nat.reduceAdd, Nat.reduceSub, Array.replicate_succ, Array.replicate_zero, List.push_toArray, List.append_toArray, List.nil_append, List.cons_append]
    refine wpIn_wide.2 ?_
    go_wp2_with (first
     | (go_at_call 166; (with_reducible refine (hNm _ (h.below (by ((repeat (first | assumption | exact Below.refl _ _ | refine Below.alloc ?_ ?_ _ | refine Below.setCell ?_ ?_ _ | refine Below.drew ?_ | refine belowN ?_ | refine Below.up ?_ (by assumption) ?_)) <;> (first | assumption | omega | (simp; done) | (simp; omega)))))).mono ?_); rintro e w2 ⟨rfl, hb2⟩; obtain ⟨hc2, hf2⟩ := bcell hb2; have hzE := lt_size hb2 (b := w.heap.size + 1) (by first | assumption | omega | (simp; done) | (simp; omega)); have hzX := lt_size hb2 (b := w.heap.size) (by first | assumption | omega | (simp; done) | (simp; omega)))
     | (go_at_call 109; refine (sstands _ _ _ _).mono ?_; rintro e w1 ⟨rfl, rfl⟩))
    obtain ⟨q1, q2⟩ := of_err hb2
    exact of_leaves (B := w2.heap.size + 1 + 1) rfl (by omega) (by omega) ⟨by simp, by simp⟩ (alKeep (one_set q1 _)) ((q2.setCell (show w.heap.size ≤ w.heap.size + 1 by omega) _).ch2 (one_alloc _ _)) (fun W' hb => HP.out 5 W' hb rfl)
   ·as_aux_lemma =>
    refine (callsIn_wide (n := 0)).1 (callsIn_of_wp_marks Tryz.func137 rfl trivial ?_)
    simp only [Tryz.ntmps137, List.size_toArray, List.length_cons, List.length_nil, Nat.reduceAdd, Nat.reduceSub, Array.replicate_succ, Array.replicate_zero, List.push_toArray, List.append_toArray, List.nil_append, List.cons_append]
    refine wpIn_wide.2 ?_
    go_wp2_with (first
     | (go_at_call 166; (with_reducible refine (hNm _ (h.below (by ((repeat (first | assumption | exact Below.refl _ _ | refine Below.alloc ?_ ?_ _ | refine Below.setCell ?_ ?_ _ | refine Below.drew ?_ | refine belowN ?_ | refine Below.up ?_ (by assumption) ?_)) <;> (first | assumption | omega | (simp; done) | (simp; omega)))))).mono ?_); rintro e w2 ⟨rfl, hb2⟩; obtain ⟨hc2, hf2⟩ := bcell hb2; have hzE := lt_size hb2 (b := w.heap.size + 1) (by first | assumption | omega | (simp; done) | (simp; omega)); have hzX := lt_size hb2 (b := w.heap.size) (by first | assumption | omega | (simp; done) | (simp; omega)))
     | (go_at_call 109; refine (sstands _ _ _ _).mono ?_; rintro e w1 ⟨rfl, rfl⟩))
    obtain ⟨q1, q2⟩ := of_err hb2
    exact of_leaves (B := w2.heap.size + 1 + 1) rfl (by omega) (by omega) ⟨by simp, by simp⟩ (alKeep (one_set q1 _)) ((q2.setCell (show w.heap.size ≤ w.heap.size + 1 by omega) _).ch2 (one_alloc _ _)) (fun W' hb => HP.out 5 W' hb rfl)
   ·as_aux_lemma =>
    refine (callsIn_wide (n := 0)).1 (callsIn_of_wp_marks Tryz.func137 rfl trivial ?_)
    simp only [Tryz.ntmps137, List.size_toArray, List.length_cons, List.length_nil, Nat.reduceAdd, Nat.reduceSub, Array.replicate_succ, Array.replicate_zero, List.push_toArray, List.append_toArray, List.nil_append, List.cons_append]
    refine wpIn_wide.2 ?_
    go_wp2_with (first
     | (go_at_call 166; (with_reducible refine (hNm _ (h.below (by ((repeat (first | assumption | exact Below.refl _ _ | refine Below.alloc ?_ ?_ _ | refine Below.setCell ?_ ?_ _ | refine Below.drew ?_ | refine belowN ?_ | refine Below.up ?_ (by assumption) ?_)) <;> (first | assumption | omega | (simp; done) | (simp; omega)))))).mono ?_); rintro e w2 ⟨rfl, hb2⟩; obtain ⟨hc2, hf2⟩ := bcell hb2; have hzE := lt_size hb2 (b := w.heap.size + 1) (by first | assumption | omega | (simp; done) | (simp; omega)); have hzX := lt_size hb2 (b := w.heap.size) (by first | assumption | omega | (simp; done) | (simp; omega)))
     | (go_at_call 109; refine (sstands _ _ _ _).mono ?_; rintro e w1 ⟨rfl, rfl⟩))
    obtain ⟨q1, q2⟩ := of_err hb2
    exact of_leaves (B := w2.heap.size + 1 + 1) rfl (by omega) (by omega) ⟨by simp, by simp⟩ (alKeep (one_set q1 _)) ((q2.setCell (show w.heap.size ≤ w.heap.size + 1 by omega) _).ch2 (one_alloc _ _)) (fun W' hb => HP.out 5 W' hb rfl)
 | some y =>
   simp only [Option.getD, Option.isSome] at hNm HP
   simp only [Itm.v, Itm.cs] at hNm ⊢
   by_cases hy : y.kd = 1
   ·rw [if_neg (by simp [hy])] at HP
    have ey : (y.kd == 1) = true := by simpa using hy
    have ey2 : (y.kd != 1) = false := by simpa using hy
    clear hy
    rcases hk with rfl | rfl | rfl | rfl
    ·by_cases hc : y.co < tw
     ·as_aux_lemma =>
      rw [if_pos (by simp [hc])] at HP
      have ec : decide (y.co < tw) = true := by simpa using hc
      clear hc
      refine (callsIn_wide (n := 0)).1 (callsIn_of_wp_marks Tryz.func137 rfl trivial ?_)
      simp only [Tryz.ntmps137, List.size_toArray, List.length_cons, List.length_nil, Nat.reduceAdd, Nat.reduceSub, Array.replicate_succ, Array.replicate_zero, List.push_toArray, List.append_toArray, List.nil_append, List.cons_append]
      refine wpIn_wide.2 ?_
      go_wp2_with (first
       | (go_at_call 166; (with_reducible refine (hNm _ (h.below (by ((repeat (first | assumption | exact Below.refl _ _ | refine Below.alloc ?_ ?_ _ | refine Below.setCell ?_ ?_ _ | refine Below.drew ?_ | refine belowN ?_ | refine Below.up ?_ (by assumption) ?_)) <;> (first | assumption | omega | (simp; done) | (simp; omega)))))).mono ?_); rintro e w2 ⟨rfl, hb2⟩; obtain ⟨hc2, hf2⟩ := bcell hb2; have hzE := lt_size hb2 (b := w.heap.size + 1) (by first | assumption | omega | (simp; done) | (simp; omega)); have hzX := lt_size hb2 (b := w.heap.size) (by first | assumption | omega | (simp; done) | (simp; omega)))
       | (go_at_call 109; refine (sstands _ _ _ _).mono ?_; rintro e w1 ⟨rfl, rfl⟩))
      obtain ⟨q1, q2⟩ := of_err hb2
      exact of_leaves (B := w2.heap.size + 1 + 1) rfl (by omega) (by omega) ⟨by simp, by simp⟩ (alKeep (one_set q1 _)) ((q2.setCell (show w.heap.size ≤ w.heap.size + 1 by omega) _).ch2 (one_alloc _ _)) (fun W' hb => HP.out 1 W' hb rfl)
     ·as_aux_lemma =>
      rw [if_neg (by simp; omega)] at HP
      have ec : decide (y.co < tw) = false := by simpa using hc
      clear hc
      refine (callsIn_wide (n := 0)).1 (callsIn_of_wp_marks Tryz.func137 rfl trivial ?_)
      simp only [Tryz.ntmps137, List.size_toArray, List.length_cons, List.length_nil, Nat.reduceAdd, Nat.reduceSub, Array.replicate_succ, Array.replicate_zero, List.push_toArray, List.append_toArray, List.nil_append, List.cons_append]
      refine wpIn_wide.2 ?_
      go_wp2_with (first
       | (go_at_call 166; (with_reducible refine (hNm _ (h.below (by ((repeat (first | assumption | exact Below.refl _ _ | refine Below.alloc ?_ ?_ _ | refine Below.setCell ?_ ?_ _ | refine Below.drew ?_ | refine belowN ?_ | refine Below.up ?_ (by assumption) ?_)) <;> (first | assumption | omega | (simp; done) | (simp; omega)))))).mono ?_); rintro e w2 ⟨rfl, hb2⟩; obtain ⟨hc2, hf2⟩ := bcell hb2; have hzE := lt_size hb2 (b := w.heap.size + 1) (by first | assumption | omega | (simp; done) | (simp; omega)); have hzX := lt_size hb2 (b := w.heap.size) (by first | assumption | omega | (simp; done) | (simp; omega)))
       | (go_at_call 109; refine (sstands _ _ _ _).mono ?_; rintro e w1 ⟨rfl, rfl⟩))
      have hO := of_start2 (y := y) (a := a) (n := l.length) (cap := cap) hb2
      simp only [Itm.cs] at hO
      have hw2 : w.heap.size + 1 < w2.heap.size := hzE
      have hbw : Below w.heap.size w w2 := ((one_alloc w _).ch2 (one_alloc _ _)).ch2 hb2
      clear hc2 hf2 hb2 hzE hzX hNm
      generalize hW0 : (((w2.alloc (Obj.cells #[.int .i64 y.id, .int .i64 y.kn, .int .u8 y.kd, .string y.wa, .int .i64 y.pit, .int .i64 y.ly, .int .i64 y.co, .bool y.ft, .int .i64 y.sh, .int .i64 y.fr, .int .i64 y.tw, .int .i64 y.lo, .int .i64 y.hi, .string y.st, .int .i64 y.li, .int .i64 y.vo] 24)).alloc (Obj.cells #[.int .i64 0] 3)).alloc (Obj.cells #[.slice a l.length cap] 22)) = W0 at *
      have hz0 : W0.heap.size = w2.heap.size + 1 + 1 + 1 := by rw [← hW0]; simp
      clear hW0
      generalize w2.heap.size = M at *
      have hC : ∀ e q W, OfI w (w.heap.size + 1) M (M + 1) (M + 1 + 1) e y q (.slice a l.length cap) W → W.cell? ⟨M + 1 + 1, 0, none⟩ = some (.slice a l.length cap) ∧ ItmsAt W a l.length cap l := fun e q W hN => ⟨by have := (SL.cells_of hN.cB).1 0; simpa using this, h.below hN.below⟩
      have gro : ∀ e q W W' row, OfI w (w.heap.size + 1) M (M + 1) (M + 1 + 1) e y q (.slice a l.length cap) W → W.grownBy W' row → (∀ r, row = some r → W0.heap.size ≤ r ∧ ∃ o : Obj, W.heap[r]? = some o ∧ o.isCells = false) → OfI w (w.heap.size + 1) M (M + 1) (M + 1 + 1) e y q (.slice a l.length cap) W' := fun e q W W' row hN hg hr =>
       hN.grown (KeepC_w.of_grown hg fun r e => (hr r e).2) (hN.below.grown hg hN.below.size fun r e => by have := (hr r e).1; omega)
      refine range_iter' (gf := 172) (lb := #[.pointer (some ⟨M + 1 + 1, 0, none⟩)]) (by simp [go_sem]) (enters_of Tryz.func172 (by kernel_rfl) rfl) (HS.out (M + 1 + 1))
       (fun pre W => OfI w (w.heap.size + 1) M (M + 1) (M + 1 + 1) 0 y (pre.filter fun z => z.sh == y.id).length (.slice a l.length cap) W ∧ pre.length ≤ 1000)
       (fun _ _ _ => False)
       ?_ ?_ ?_ ⟨hO, by simp⟩ [11, 81] (fun x us W => ∃ b, us 11 = .pointer (some ⟨b, 0, none⟩) ∧ W.heap[b]? = some (.cells x.cs.toArray 24 (0, 0)) ∧ W0.heap.size ≤ b) ?_ ?_ ?_ ?_ ?_
      ·rintro pre W1 W2 row ⟨h1, h2⟩ hg hr
       exact ⟨gro _ _ _ _ _ h1 hg hr, h2⟩
      ·rintro c s W1 W2 row h0 hg hr
       exact h0
      ·rintro s W ⟨h1, h2⟩
       exact hC _ _ _ h1
      ·rintro x us u W1 W2 row ⟨b, h1, h2, h3⟩ hg hr
       exact ⟨b, h1, (KeepC_w.of_grown hg fun r e => (hr r e).2).cells _ _ _ _ h2, h3⟩
      ·rintro lid pre x post W1 K he ⟨hN, hp⟩ hK
       have hw : W0.heap.size ≤ W1.heap.size := by
        have := (Array.getElem?_eq_some_iff.1 hN.cB).1
        omega
       have hK2 := hK
       have Hp := Lib.hid hp
       clear hK hp
       simp only [Itm.v, Itm.cs]
       have HK := Lib.hid hK2
       clear hK2
       gi_wp2_with fail
       refine HK.out _ _ ?_ ?_ ?_ ?_ ?_
       ·exact keeps_of_chg_w (E := []) (.of_below (one_alloc _ _)) (by simp)
       ·exact ⟨hN.grown ⟨by simp, fun _ _ _ _ h => alKeep h⟩ (hN.below.ch2 (one_alloc _ _)), Hp.out⟩
       ·rfl
       ·rfl
       ·exact ⟨W1.heap.size, rfl, World.alloc_heap_new _ _, hw⟩
      ·rintro lid pre x post us W1 hl' he ⟨hN, hp⟩ ⟨b, h6, hb, hbz⟩
       as_aux_lemma =>
       simp only [frame'_w, SL.put', List.toList_toArray, List.contains_cons, List.contains_nil, Nat.reduceAdd, Nat.reduceBEq, Bool.or_false, Bool.or_true, Bool.false_or, Bool.true_or, if_true, Bool.false_eq_true, if_false, h6]
       have hpl : (pre ++ [x]).length ≤ 1000 := by
        have h1 := congrArg List.length he
        have h2 := HL.out
        simp at h1 ⊢
        omega
       have Hpl := Lib.hid hpl
       have Hfs := Lib.hid (filter_snoc pre x y.id)
       have hq : (pre.filter fun z => z.sh == y.id).length ≤ 1000 := Nat.le_trans (List.length_filter_le _ _) hp
       generalize (pre.filter fun z => z.sh == y.id).length = q at *
       have HN := Lib.hid hN
       simp only [Itm.cs] at hb
       obtain ⟨⟨d0, d1, d2, d3, d4, d5, d6, d7, d8, d9, d10, d11, d12, d13, d14, d15⟩, hfz, hbl⟩ := ItmCells.of_heap hb
       have k1 := hN.cO (by omega)
       have k2 := hN.cY
       have z1 := (Array.getElem?_eq_some_iff.1 k1).1
       have z2 := (Array.getElem?_eq_some_iff.1 k2).1
       simp only [Itm.cs] at k2
       obtain ⟨⟨y0, y1, y2, y3, y4, y5, y6, y7, y8, y9, y10, y11, y12, y13, y14, y15⟩, yfz, _⟩ := ItmCells.of_heap (x := y) k2
       have g0 := (SL.cells_of k1).1 0
       have gz := (SL.cells_of k1).2
       simp at g0
       have HZ := Lib.hid hz0
       have HM := Lib.hid hw2
       clear hp hpl hN hb k1 k2 gro hC hO hz0 he HP HS hl' hbz hfz h hl hbw hw2
       refine wpIn_block ?_
       by_cases hx : x.sh = y.id
       ·have e2 : (x.sh == y.id) = true := by simpa using hx
        rw [if_pos hx] at Hfs
        clear hx
        gi_wp2_with fail
        have hz := HZ.out
        have hm := HM.out
        exact ⟨keeps_of_chg_w (E := [M + 1]) (.setCell _ (by simp) _) (by simp; omega), by rw [Hfs.out]; exact HN.out.num (by omega) (by omega) (by omega) (by omega) _, Hpl.out⟩
       ·have e2 : (x.sh == y.id) = false := by simpa using hx
        rw [if_neg hx, Int.add_zero] at Hfs
        clear hx
        gi_wp2_with fail
        exact ⟨keeps_of_chg_w (E := []) (.refl _ _) (by simp), by rw [Hfs.out]; exact HN.out, Hpl.out⟩
      ·rintro D W2 hD ⟨hN, hp⟩ hdef
       as_aux_lemma =>
       have HN := Lib.hid hN
       have HQ := HP
       generalize hq : (L.filter fun z => z.sh == y.id).length = q at *
       have Hq := Lib.hid hq
       have k1 := hN.cE
       have z1 := (Array.getElem?_eq_some_iff.1 k1).1
       have g0 := (SL.cells_of k1).1 0
       have gz := (SL.cells_of k1).2
       simp at g0
       have k2 := hN.cO (by omega)
       have z2 := (Array.getElem?_eq_some_iff.1 k2).1
       have y0 := (SL.cells_of k2).1 0
       simp at y0
       have HZ := Lib.hid hz0
       have HM := Lib.hid hw2
       clear hp hN k1 k2 gro hC hz0 hw2 hO h hl HS HP hq hbw
       by_cases hc : 150 ≤ q
       ·have e1 : decide ((150 : Int) ≤ (q : Int)) = true := by simp; omega
        have Hc := Lib.hid hc
        clear hc
        go_wp2_with fail
        have hz := HZ.out
        have hm := HM.out
        have q1 := HN.out.err (by omega) (by omega) (by omega) 2
        exact of_leaves (B := W0.heap.size) rfl (by omega) (by omega) ⟨by simp; exact ⟨hD, (Below.heap_setCell _ _ _ _ (by show D ≠ w.heap.size + 1; omega)).trans hdef⟩, by simp⟩ q1.cE q1.below (fun W' hb => HQ.out 2 W' hb (by rw [if_pos Hc.out]))
       ·have e1 : decide ((150 : Int) ≤ (q : Int)) = false := by simp; omega
        have Hc := Lib.hid hc
        clear hc
        go_wp2_with fail
        have hz := HZ.out
        have hm := HM.out
        have q1 := HN.out.err (by omega) (by omega) (by omega) 0
        exact of_leaves (B := W0.heap.size) rfl (by omega) (by omega) ⟨by simp; exact ⟨hD, (Below.heap_setCell _ _ _ _ (by show D ≠ w.heap.size + 1; omega)).trans hdef⟩, by simp⟩ q1.cE q1.below (fun W' hb => HQ.out 0 W' hb (by rw [if_neg Hc.out]))
      ·rintro D c pre x post W2 hD he h0 hdef
       exact h0.elim
    ·by_cases hc : y.co ≤ tw
     ·as_aux_lemma =>
      rw [if_pos (by simp [hc])] at HP
      have ec : decide (y.co ≤ tw) = true := by simpa using hc
      clear hc
      refine (callsIn_wide (n := 0)).1 (callsIn_of_wp_marks Tryz.func137 rfl trivial ?_)
      simp only [Tryz.ntmps137, List.size_toArray, List.length_cons, List.length_nil, Nat.reduceAdd, Nat.reduceSub, Array.replicate_succ, Array.replicate_zero, List.push_toArray, List.append_toArray, List.nil_append, List.cons_append]
      refine wpIn_wide.2 ?_
      go_wp2_with (first
       | (go_at_call 166; (with_reducible refine (hNm _ (h.below (by ((repeat (first | assumption | exact Below.refl _ _ | refine Below.alloc ?_ ?_ _ | refine Below.setCell ?_ ?_ _ | refine Below.drew ?_ | refine belowN ?_ | refine Below.up ?_ (by assumption) ?_)) <;> (first | assumption | omega | (simp; done) | (simp; omega)))))).mono ?_); rintro e w2 ⟨rfl, hb2⟩; obtain ⟨hc2, hf2⟩ := bcell hb2; have hzE := lt_size hb2 (b := w.heap.size + 1) (by first | assumption | omega | (simp; done) | (simp; omega)); have hzX := lt_size hb2 (b := w.heap.size) (by first | assumption | omega | (simp; done) | (simp; omega)))
       | (go_at_call 109; refine (sstands _ _ _ _).mono ?_; rintro e w1 ⟨rfl, rfl⟩))
      obtain ⟨q1, q2⟩ := of_err hb2
      exact of_leaves (B := w2.heap.size + 1 + 1) rfl (by omega) (by omega) ⟨by simp, by simp⟩ (alKeep (one_set q1 _)) ((q2.setCell (show w.heap.size ≤ w.heap.size + 1 by omega) _).ch2 (one_alloc _ _)) (fun W' hb => HP.out 1 W' hb rfl)
     ·as_aux_lemma =>
      rw [if_neg (by simp; omega)] at HP
      have ec : decide (y.co ≤ tw) = false := by simpa using hc
      clear hc
      refine (callsIn_wide (n := 0)).1 (callsIn_of_wp_marks Tryz.func137 rfl trivial ?_)
      simp only [Tryz.ntmps137, List.size_toArray, List.length_cons, List.length_nil, Nat.reduceAdd, Nat.reduceSub, Array.replicate_succ, Array.replicate_zero, List.push_toArray, List.append_toArray, List.nil_append, List.cons_append]
      refine wpIn_wide.2 ?_
      go_wp2_with (first
       | (go_at_call 166; (with_reducible refine (hNm _ (h.below (by ((repeat (first | assumption | exact Below.refl _ _ | refine Below.alloc ?_ ?_ _ | refine Below.setCell ?_ ?_ _ | refine Below.drew ?_ | refine belowN ?_ | refine Below.up ?_ (by assumption) ?_)) <;> (first | assumption | omega | (simp; done) | (simp; omega)))))).mono ?_); rintro e w2 ⟨rfl, hb2⟩; obtain ⟨hc2, hf2⟩ := bcell hb2; have hzE := lt_size hb2 (b := w.heap.size + 1) (by first | assumption | omega | (simp; done) | (simp; omega)); have hzX := lt_size hb2 (b := w.heap.size) (by first | assumption | omega | (simp; done) | (simp; omega)))
       | (go_at_call 109; refine (sstands _ _ _ _).mono ?_; rintro e w1 ⟨rfl, rfl⟩))
      have hO := of_start2 (y := y) (a := a) (n := l.length) (cap := cap) hb2
      simp only [Itm.cs] at hO
      have hw2 : w.heap.size + 1 < w2.heap.size := hzE
      have hbw : Below w.heap.size w w2 := ((one_alloc w _).ch2 (one_alloc _ _)).ch2 hb2
      clear hc2 hf2 hb2 hzE hzX hNm
      generalize hW0 : (((w2.alloc (Obj.cells #[.int .i64 y.id, .int .i64 y.kn, .int .u8 y.kd, .string y.wa, .int .i64 y.pit, .int .i64 y.ly, .int .i64 y.co, .bool y.ft, .int .i64 y.sh, .int .i64 y.fr, .int .i64 y.tw, .int .i64 y.lo, .int .i64 y.hi, .string y.st, .int .i64 y.li, .int .i64 y.vo] 24)).alloc (Obj.cells #[.int .i64 0] 3)).alloc (Obj.cells #[.slice a l.length cap] 22)) = W0 at *
      have hz0 : W0.heap.size = w2.heap.size + 1 + 1 + 1 := by rw [← hW0]; simp
      clear hW0
      generalize w2.heap.size = M at *
      have hC : ∀ e q W, OfI w (w.heap.size + 1) M (M + 1) (M + 1 + 1) e y q (.slice a l.length cap) W → W.cell? ⟨M + 1 + 1, 0, none⟩ = some (.slice a l.length cap) ∧ ItmsAt W a l.length cap l := fun e q W hN => ⟨by have := (SL.cells_of hN.cB).1 0; simpa using this, h.below hN.below⟩
      have gro : ∀ e q W W' row, OfI w (w.heap.size + 1) M (M + 1) (M + 1 + 1) e y q (.slice a l.length cap) W → W.grownBy W' row → (∀ r, row = some r → W0.heap.size ≤ r ∧ ∃ o : Obj, W.heap[r]? = some o ∧ o.isCells = false) → OfI w (w.heap.size + 1) M (M + 1) (M + 1 + 1) e y q (.slice a l.length cap) W' := fun e q W W' row hN hg hr =>
       hN.grown (KeepC_w.of_grown hg fun r e => (hr r e).2) (hN.below.grown hg hN.below.size fun r e => by have := (hr r e).1; omega)
      refine range_iter' (gf := 172) (lb := #[.pointer (some ⟨M + 1 + 1, 0, none⟩)]) (by simp [go_sem]) (enters_of Tryz.func172 (by kernel_rfl) rfl) (HS.out (M + 1 + 1))
       (fun pre W => OfI w (w.heap.size + 1) M (M + 1) (M + 1 + 1) 0 y (pre.filter fun z => z.sh == y.id).length (.slice a l.length cap) W ∧ pre.length ≤ 1000)
       (fun _ _ _ => False)
       ?_ ?_ ?_ ⟨hO, by simp⟩ [11, 81] (fun x us W => ∃ b, us 11 = .pointer (some ⟨b, 0, none⟩) ∧ W.heap[b]? = some (.cells x.cs.toArray 24 (0, 0)) ∧ W0.heap.size ≤ b) ?_ ?_ ?_ ?_ ?_
      ·rintro pre W1 W2 row ⟨h1, h2⟩ hg hr
       exact ⟨gro _ _ _ _ _ h1 hg hr, h2⟩
      ·rintro c s W1 W2 row h0 hg hr
       exact h0
      ·rintro s W ⟨h1, h2⟩
       exact hC _ _ _ h1
      ·rintro x us u W1 W2 row ⟨b, h1, h2, h3⟩ hg hr
       exact ⟨b, h1, (KeepC_w.of_grown hg fun r e => (hr r e).2).cells _ _ _ _ h2, h3⟩
      ·rintro lid pre x post W1 K he ⟨hN, hp⟩ hK
       have hw : W0.heap.size ≤ W1.heap.size := by
        have := (Array.getElem?_eq_some_iff.1 hN.cB).1
        omega
       have hK2 := hK
       have Hp := Lib.hid hp
       clear hK hp
       simp only [Itm.v, Itm.cs]
       have HK := Lib.hid hK2
       clear hK2
       gi_wp2_with fail
       refine HK.out _ _ ?_ ?_ ?_ ?_ ?_
       ·exact keeps_of_chg_w (E := []) (.of_below (one_alloc _ _)) (by simp)
       ·exact ⟨hN.grown ⟨by simp, fun _ _ _ _ h => alKeep h⟩ (hN.below.ch2 (one_alloc _ _)), Hp.out⟩
       ·rfl
       ·rfl
       ·exact ⟨W1.heap.size, rfl, World.alloc_heap_new _ _, hw⟩
      ·rintro lid pre x post us W1 hl' he ⟨hN, hp⟩ ⟨b, h6, hb, hbz⟩
       as_aux_lemma =>
       simp only [frame'_w, SL.put', List.toList_toArray, List.contains_cons, List.contains_nil, Nat.reduceAdd, Nat.reduceBEq, Bool.or_false, Bool.or_true, Bool.false_or, Bool.true_or, if_true, Bool.false_eq_true, if_false, h6]
       have hpl : (pre ++ [x]).length ≤ 1000 := by
        have h1 := congrArg List.length he
        have h2 := HL.out
        simp at h1 ⊢
        omega
       have Hpl := Lib.hid hpl
       have Hfs := Lib.hid (filter_snoc pre x y.id)
       have hq : (pre.filter fun z => z.sh == y.id).length ≤ 1000 := Nat.le_trans (List.length_filter_le _ _) hp
       generalize (pre.filter fun z => z.sh == y.id).length = q at *
       have HN := Lib.hid hN
       simp only [Itm.cs] at hb
       obtain ⟨⟨d0, d1, d2, d3, d4, d5, d6, d7, d8, d9, d10, d11, d12, d13, d14, d15⟩, hfz, hbl⟩ := ItmCells.of_heap hb
       have k1 := hN.cO (by omega)
       have k2 := hN.cY
       have z1 := (Array.getElem?_eq_some_iff.1 k1).1
       have z2 := (Array.getElem?_eq_some_iff.1 k2).1
       simp only [Itm.cs] at k2
       obtain ⟨⟨y0, y1, y2, y3, y4, y5, y6, y7, y8, y9, y10, y11, y12, y13, y14, y15⟩, yfz, _⟩ := ItmCells.of_heap (x := y) k2
       have g0 := (SL.cells_of k1).1 0
       have gz := (SL.cells_of k1).2
       simp at g0
       have HZ := Lib.hid hz0
       have HM := Lib.hid hw2
       clear hp hpl hN hb k1 k2 gro hC hO hz0 he HP HS hl' hbz hfz h hl hbw hw2
       refine wpIn_block ?_
       by_cases hx : x.sh = y.id
       ·have e2 : (x.sh == y.id) = true := by simpa using hx
        rw [if_pos hx] at Hfs
        clear hx
        gi_wp2_with fail
        have hz := HZ.out
        have hm := HM.out
        exact ⟨keeps_of_chg_w (E := [M + 1]) (.setCell _ (by simp) _) (by simp; omega), by rw [Hfs.out]; exact HN.out.num (by omega) (by omega) (by omega) (by omega) _, Hpl.out⟩
       ·have e2 : (x.sh == y.id) = false := by simpa using hx
        rw [if_neg hx, Int.add_zero] at Hfs
        clear hx
        gi_wp2_with fail
        exact ⟨keeps_of_chg_w (E := []) (.refl _ _) (by simp), by rw [Hfs.out]; exact HN.out, Hpl.out⟩
      ·rintro D W2 hD ⟨hN, hp⟩ hdef
       as_aux_lemma =>
       have HN := Lib.hid hN
       have HQ := HP
       generalize hq : (L.filter fun z => z.sh == y.id).length = q at *
       have Hq := Lib.hid hq
       have k1 := hN.cE
       have z1 := (Array.getElem?_eq_some_iff.1 k1).1
       have g0 := (SL.cells_of k1).1 0
       have gz := (SL.cells_of k1).2
       simp at g0
       have k2 := hN.cO (by omega)
       have z2 := (Array.getElem?_eq_some_iff.1 k2).1
       have y0 := (SL.cells_of k2).1 0
       simp at y0
       have HZ := Lib.hid hz0
       have HM := Lib.hid hw2
       clear hp hN k1 k2 gro hC hz0 hw2 hO h hl HS HP hq hbw
       by_cases hc : 150 ≤ q
       ·have e1 : decide ((150 : Int) ≤ (q : Int)) = true := by simp; omega
        have Hc := Lib.hid hc
        clear hc
        go_wp2_with fail
        have hz := HZ.out
        have hm := HM.out
        have q1 := HN.out.err (by omega) (by omega) (by omega) 2
        exact of_leaves (B := W0.heap.size) rfl (by omega) (by omega) ⟨by simp; exact ⟨hD, (Below.heap_setCell _ _ _ _ (by show D ≠ w.heap.size + 1; omega)).trans hdef⟩, by simp⟩ q1.cE q1.below (fun W' hb => HQ.out 2 W' hb (by rw [if_pos Hc.out]))
       ·have e1 : decide ((150 : Int) ≤ (q : Int)) = false := by simp; omega
        have Hc := Lib.hid hc
        clear hc
        go_wp2_with fail
        have hz := HZ.out
        have hm := HM.out
        have q1 := HN.out.err (by omega) (by omega) (by omega) 0
        exact of_leaves (B := W0.heap.size) rfl (by omega) (by omega) ⟨by simp; exact ⟨hD, (Below.heap_setCell _ _ _ _ (by show D ≠ w.heap.size + 1; omega)).trans hdef⟩, by simp⟩ q1.cE q1.below (fun W' hb => HQ.out 0 W' hb (by rw [if_neg Hc.out]))
      ·rintro D c pre x post W2 hD he h0 hdef
       exact h0.elim
    ·as_aux_lemma =>
     rw [if_neg (by simp)] at HP
     refine (callsIn_wide (n := 0)).1 (callsIn_of_wp_marks Tryz.func137 rfl trivial ?_)
     simp only [Tryz.ntmps137, List.size_toArray, List.length_cons, List.length_nil, Nat.reduceAdd, Nat.reduceSub, Array.replicate_succ, Array.replicate_zero, List.push_toArray, List.append_toArray, List.nil_append, List.cons_append]
     refine wpIn_wide.2 ?_
     go_wp2_with (first
      | (go_at_call 166; (with_reducible refine (hNm _ (h.below (by ((repeat (first | assumption | exact Below.refl _ _ | refine Below.alloc ?_ ?_ _ | refine Below.setCell ?_ ?_ _ | refine Below.drew ?_ | refine belowN ?_ | refine Below.up ?_ (by assumption) ?_)) <;> (first | assumption | omega | (simp; done) | (simp; omega)))))).mono ?_); rintro e w2 ⟨rfl, hb2⟩; obtain ⟨hc2, hf2⟩ := bcell hb2; have hzE := lt_size hb2 (b := w.heap.size + 1) (by first | assumption | omega | (simp; done) | (simp; omega)); have hzX := lt_size hb2 (b := w.heap.size) (by first | assumption | omega | (simp; done) | (simp; omega)))
      | (go_at_call 109; refine (sstands _ _ _ _).mono ?_; rintro e w1 ⟨rfl, rfl⟩))
     have hO := of_start2 (y := y) (a := a) (n := l.length) (cap := cap) hb2
     simp only [Itm.cs] at hO
     have hw2 : w.heap.size + 1 < w2.heap.size := hzE
     have hbw : Below w.heap.size w w2 := ((one_alloc w _).ch2 (one_alloc _ _)).ch2 hb2
     clear hc2 hf2 hb2 hzE hzX hNm
     generalize hW0 : (((w2.alloc (Obj.cells #[.int .i64 y.id, .int .i64 y.kn, .int .u8 y.kd, .string y.wa, .int .i64 y.pit, .int .i64 y.ly, .int .i64 y.co, .bool y.ft, .int .i64 y.sh, .int .i64 y.fr, .int .i64 y.tw, .int .i64 y.lo, .int .i64 y.hi, .string y.st, .int .i64 y.li, .int .i64 y.vo] 24)).alloc (Obj.cells #[.int .i64 0] 3)).alloc (Obj.cells #[.slice a l.length cap] 22)) = W0 at *
     have hz0 : W0.heap.size = w2.heap.size + 1 + 1 + 1 := by rw [← hW0]; simp
     clear hW0
     generalize w2.heap.size = M at *
     have hC : ∀ e q W, OfI w (w.heap.size + 1) M (M + 1) (M + 1 + 1) e y q (.slice a l.length cap) W → W.cell? ⟨M + 1 + 1, 0, none⟩ = some (.slice a l.length cap) ∧ ItmsAt W a l.length cap l := fun e q W hN => ⟨by have := (SL.cells_of hN.cB).1 0; simpa using this, h.below hN.below⟩
     have gro : ∀ e q W W' row, OfI w (w.heap.size + 1) M (M + 1) (M + 1 + 1) e y q (.slice a l.length cap) W → W.grownBy W' row → (∀ r, row = some r → W0.heap.size ≤ r ∧ ∃ o : Obj, W.heap[r]? = some o ∧ o.isCells = false) → OfI w (w.heap.size + 1) M (M + 1) (M + 1 + 1) e y q (.slice a l.length cap) W' := fun e q W W' row hN hg hr =>
      hN.grown (KeepC_w.of_grown hg fun r e => (hr r e).2) (hN.below.grown hg hN.below.size fun r e => by have := (hr r e).1; omega)
     refine range_iter' (gf := 172) (lb := #[.pointer (some ⟨M + 1 + 1, 0, none⟩)]) (by simp [go_sem]) (enters_of Tryz.func172 (by kernel_rfl) rfl) (HS.out (M + 1 + 1))
      (fun pre W => OfI w (w.heap.size + 1) M (M + 1) (M + 1 + 1) 0 y (pre.filter fun z => z.sh == y.id).length (.slice a l.length cap) W ∧ pre.length ≤ 1000)
      (fun _ _ _ => False)
      ?_ ?_ ?_ ⟨hO, by simp⟩ [11, 81] (fun x us W => ∃ b, us 11 = .pointer (some ⟨b, 0, none⟩) ∧ W.heap[b]? = some (.cells x.cs.toArray 24 (0, 0)) ∧ W0.heap.size ≤ b) ?_ ?_ ?_ ?_ ?_
     ·rintro pre W1 W2 row ⟨h1, h2⟩ hg hr
      exact ⟨gro _ _ _ _ _ h1 hg hr, h2⟩
     ·rintro c s W1 W2 row h0 hg hr
      exact h0
     ·rintro s W ⟨h1, h2⟩
      exact hC _ _ _ h1
     ·rintro x us u W1 W2 row ⟨b, h1, h2, h3⟩ hg hr
      exact ⟨b, h1, (KeepC_w.of_grown hg fun r e => (hr r e).2).cells _ _ _ _ h2, h3⟩
     ·rintro lid pre x post W1 K he ⟨hN, hp⟩ hK
      have hw : W0.heap.size ≤ W1.heap.size := by
       have := (Array.getElem?_eq_some_iff.1 hN.cB).1
       omega
      have hK2 := hK
      have Hp := Lib.hid hp
      clear hK hp
      simp only [Itm.v, Itm.cs]
      have HK := Lib.hid hK2
      clear hK2
      gi_wp2_with fail
      refine HK.out _ _ ?_ ?_ ?_ ?_ ?_
      ·exact keeps_of_chg_w (E := []) (.of_below (one_alloc _ _)) (by simp)
      ·exact ⟨hN.grown ⟨by simp, fun _ _ _ _ h => alKeep h⟩ (hN.below.ch2 (one_alloc _ _)), Hp.out⟩
      ·rfl
      ·rfl
      ·exact ⟨W1.heap.size, rfl, World.alloc_heap_new _ _, hw⟩
     ·rintro lid pre x post us W1 hl' he ⟨hN, hp⟩ ⟨b, h6, hb, hbz⟩
      as_aux_lemma =>
      simp only [frame'_w, SL.put', List.toList_toArray, List.contains_cons, List.contains_nil, Nat.reduceAdd, Nat.reduceBEq, Bool.or_false, Bool.or_true, Bool.false_or, Bool.true_or, if_true, Bool.false_eq_true, if_false, h6]
      have hpl : (pre ++ [x]).length ≤ 1000 := by
       have h1 := congrArg List.length he
       have h2 := HL.out
       simp at h1 ⊢
       omega
      have Hpl := Lib.hid hpl
      have Hfs := Lib.hid (filter_snoc pre x y.id)
      have hq : (pre.filter fun z => z.sh == y.id).length ≤ 1000 := Nat.le_trans (List.length_filter_le _ _) hp
      generalize (pre.filter fun z => z.sh == y.id).length = q at *
      have HN := Lib.hid hN
      simp only [Itm.cs] at hb
      obtain ⟨⟨d0, d1, d2, d3, d4, d5, d6, d7, d8, d9, d10, d11, d12, d13, d14, d15⟩, hfz, hbl⟩ := ItmCells.of_heap hb
      have k1 := hN.cO (by omega)
      have k2 := hN.cY
      have z1 := (Array.getElem?_eq_some_iff.1 k1).1
      have z2 := (Array.getElem?_eq_some_iff.1 k2).1
      simp only [Itm.cs] at k2
      obtain ⟨⟨y0, y1, y2, y3, y4, y5, y6, y7, y8, y9, y10, y11, y12, y13, y14, y15⟩, yfz, _⟩ := ItmCells.of_heap (x := y) k2
      have g0 := (SL.cells_of k1).1 0
      have gz := (SL.cells_of k1).2
      simp at g0
      have HZ := Lib.hid hz0
      have HM := Lib.hid hw2
      clear hp hpl hN hb k1 k2 gro hC hO hz0 he HP HS hl' hbz hfz h hl hbw hw2
      refine wpIn_block ?_
      by_cases hx : x.sh = y.id
      ·have e2 : (x.sh == y.id) = true := by simpa using hx
       rw [if_pos hx] at Hfs
       clear hx
       gi_wp2_with fail
       have hz := HZ.out
       have hm := HM.out
       exact ⟨keeps_of_chg_w (E := [M + 1]) (.setCell _ (by simp) _) (by simp; omega), by rw [Hfs.out]; exact HN.out.num (by omega) (by omega) (by omega) (by omega) _, Hpl.out⟩
      ·have e2 : (x.sh == y.id) = false := by simpa using hx
       rw [if_neg hx, Int.add_zero] at Hfs
       clear hx
       gi_wp2_with fail
       exact ⟨keeps_of_chg_w (E := []) (.refl _ _) (by simp), by rw [Hfs.out]; exact HN.out, Hpl.out⟩
     ·rintro D W2 hD ⟨hN, hp⟩ hdef
      as_aux_lemma =>
      have HN := Lib.hid hN
      have HQ := HP
      generalize hq : (L.filter fun z => z.sh == y.id).length = q at *
      have Hq := Lib.hid hq
      have k1 := hN.cE
      have z1 := (Array.getElem?_eq_some_iff.1 k1).1
      have g0 := (SL.cells_of k1).1 0
      have gz := (SL.cells_of k1).2
      simp at g0
      have k2 := hN.cO (by omega)
      have z2 := (Array.getElem?_eq_some_iff.1 k2).1
      have y0 := (SL.cells_of k2).1 0
      simp at y0
      have HZ := Lib.hid hz0
      have HM := Lib.hid hw2
      clear hp hN k1 k2 gro hC hz0 hw2 hO h hl HS HP hq hbw
      by_cases hc : 150 ≤ q
      ·have e1 : decide ((150 : Int) ≤ (q : Int)) = true := by simp; omega
       have Hc := Lib.hid hc
       clear hc
       go_wp2_with fail
       have hz := HZ.out
       have hm := HM.out
       have q1 := HN.out.err (by omega) (by omega) (by omega) 2
       exact of_leaves (B := W0.heap.size) rfl (by omega) (by omega) ⟨by simp; exact ⟨hD, (Below.heap_setCell _ _ _ _ (by show D ≠ w.heap.size + 1; omega)).trans hdef⟩, by simp⟩ q1.cE q1.below (fun W' hb => HQ.out 2 W' hb (by rw [if_pos Hc.out]))
      ·have e1 : decide ((150 : Int) ≤ (q : Int)) = false := by simp; omega
       have Hc := Lib.hid hc
       clear hc
       go_wp2_with fail
       have hz := HZ.out
       have hm := HM.out
       have q1 := HN.out.err (by omega) (by omega) (by omega) 0
       exact of_leaves (B := W0.heap.size) rfl (by omega) (by omega) ⟨by simp; exact ⟨hD, (Below.heap_setCell _ _ _ _ (by show D ≠ w.heap.size + 1; omega)).trans hdef⟩, by simp⟩ q1.cE q1.below (fun W' hb => HQ.out 0 W' hb (by rw [if_neg Hc.out]))
     ·rintro D c pre x post W2 hD he h0 hdef
      exact h0.elim
    ·as_aux_lemma =>
     rw [if_neg (by simp)] at HP
     refine (callsIn_wide (n := 0)).1 (callsIn_of_wp_marks Tryz.func137 rfl trivial ?_)
     simp only [Tryz.ntmps137, List.size_toArray, List.length_cons, List.length_nil, Nat.reduceAdd, Nat.reduceSub, Array.replicate_succ, Array.replicate_zero, List.push_toArray, List.append_toArray, List.nil_append, List.cons_append]
     refine wpIn_wide.2 ?_
     go_wp2_with (first
      | (go_at_call 166; (with_reducible refine (hNm _ (h.below (by ((repeat (first | assumption | exact Below.refl _ _ | refine Below.alloc ?_ ?_ _ | refine Below.setCell ?_ ?_ _ | refine Below.drew ?_ | refine belowN ?_ | refine Below.up ?_ (by assumption) ?_)) <;> (first | assumption | omega | (simp; done) | (simp; omega)))))).mono ?_); rintro e w2 ⟨rfl, hb2⟩; obtain ⟨hc2, hf2⟩ := bcell hb2; have hzE := lt_size hb2 (b := w.heap.size + 1) (by first | assumption | omega | (simp; done) | (simp; omega)); have hzX := lt_size hb2 (b := w.heap.size) (by first | assumption | omega | (simp; done) | (simp; omega)))
      | (go_at_call 109; refine (sstands _ _ _ _).mono ?_; rintro e w1 ⟨rfl, rfl⟩))
     have hO := of_start2 (y := y) (a := a) (n := l.length) (cap := cap) hb2
     simp only [Itm.cs] at hO
     have hw2 : w.heap.size + 1 < w2.heap.size := hzE
     have hbw : Below w.heap.size w w2 := ((one_alloc w _).ch2 (one_alloc _ _)).ch2 hb2
     clear hc2 hf2 hb2 hzE hzX hNm
     generalize hW0 : (((w2.alloc (Obj.cells #[.int .i64 y.id, .int .i64 y.kn, .int .u8 y.kd, .string y.wa, .int .i64 y.pit, .int .i64 y.ly, .int .i64 y.co, .bool y.ft, .int .i64 y.sh, .int .i64 y.fr, .int .i64 y.tw, .int .i64 y.lo, .int .i64 y.hi, .string y.st, .int .i64 y.li, .int .i64 y.vo] 24)).alloc (Obj.cells #[.int .i64 0] 3)).alloc (Obj.cells #[.slice a l.length cap] 22)) = W0 at *
     have hz0 : W0.heap.size = w2.heap.size + 1 + 1 + 1 := by rw [← hW0]; simp
     clear hW0
     generalize w2.heap.size = M at *
     have hC : ∀ e q W, OfI w (w.heap.size + 1) M (M + 1) (M + 1 + 1) e y q (.slice a l.length cap) W → W.cell? ⟨M + 1 + 1, 0, none⟩ = some (.slice a l.length cap) ∧ ItmsAt W a l.length cap l := fun e q W hN => ⟨by have := (SL.cells_of hN.cB).1 0; simpa using this, h.below hN.below⟩
     have gro : ∀ e q W W' row, OfI w (w.heap.size + 1) M (M + 1) (M + 1 + 1) e y q (.slice a l.length cap) W → W.grownBy W' row → (∀ r, row = some r → W0.heap.size ≤ r ∧ ∃ o : Obj, W.heap[r]? = some o ∧ o.isCells = false) → OfI w (w.heap.size + 1) M (M + 1) (M + 1 + 1) e y q (.slice a l.length cap) W' := fun e q W W' row hN hg hr =>
      hN.grown (KeepC_w.of_grown hg fun r e => (hr r e).2) (hN.below.grown hg hN.below.size fun r e => by have := (hr r e).1; omega)
     refine range_iter' (gf := 172) (lb := #[.pointer (some ⟨M + 1 + 1, 0, none⟩)]) (by simp [go_sem]) (enters_of Tryz.func172 (by kernel_rfl) rfl) (HS.out (M + 1 + 1))
      (fun pre W => OfI w (w.heap.size + 1) M (M + 1) (M + 1 + 1) 0 y (pre.filter fun z => z.sh == y.id).length (.slice a l.length cap) W ∧ pre.length ≤ 1000)
      (fun _ _ _ => False)
      ?_ ?_ ?_ ⟨hO, by simp⟩ [11, 81] (fun x us W => ∃ b, us 11 = .pointer (some ⟨b, 0, none⟩) ∧ W.heap[b]? = some (.cells x.cs.toArray 24 (0, 0)) ∧ W0.heap.size ≤ b) ?_ ?_ ?_ ?_ ?_
     ·rintro pre W1 W2 row ⟨h1, h2⟩ hg hr
      exact ⟨gro _ _ _ _ _ h1 hg hr, h2⟩
     ·rintro c s W1 W2 row h0 hg hr
      exact h0
     ·rintro s W ⟨h1, h2⟩
      exact hC _ _ _ h1
     ·rintro x us u W1 W2 row ⟨b, h1, h2, h3⟩ hg hr
      exact ⟨b, h1, (KeepC_w.of_grown hg fun r e => (hr r e).2).cells _ _ _ _ h2, h3⟩
     ·rintro lid pre x post W1 K he ⟨hN, hp⟩ hK
      have hw : W0.heap.size ≤ W1.heap.size := by
       have := (Array.getElem?_eq_some_iff.1 hN.cB).1
       omega
      have hK2 := hK
      have Hp := Lib.hid hp
      clear hK hp
      simp only [Itm.v, Itm.cs]
      have HK := Lib.hid hK2
      clear hK2
      gi_wp2_with fail
      refine HK.out _ _ ?_ ?_ ?_ ?_ ?_
      ·exact keeps_of_chg_w (E := []) (.of_below (one_alloc _ _)) (by simp)
      ·exact ⟨hN.grown ⟨by simp, fun _ _ _ _ h => alKeep h⟩ (hN.below.ch2 (one_alloc _ _)), Hp.out⟩
      ·rfl
      ·rfl
      ·exact ⟨W1.heap.size, rfl, World.alloc_heap_new _ _, hw⟩
     ·rintro lid pre x post us W1 hl' he ⟨hN, hp⟩ ⟨b, h6, hb, hbz⟩
      as_aux_lemma =>
      simp only [frame'_w, SL.put', List.toList_toArray, List.contains_cons, List.contains_nil, Nat.reduceAdd, Nat.reduceBEq, Bool.or_false, Bool.or_true, Bool.false_or, Bool.true_or, if_true, Bool.false_eq_true, if_false, h6]
      have hpl : (pre ++ [x]).length ≤ 1000 := by
       have h1 := congrArg List.length he
       have h2 := HL.out
       simp at h1 ⊢
       omega
      have Hpl := Lib.hid hpl
      have Hfs := Lib.hid (filter_snoc pre x y.id)
      have hq : (pre.filter fun z => z.sh == y.id).length ≤ 1000 := Nat.le_trans (List.length_filter_le _ _) hp
      generalize (pre.filter fun z => z.sh == y.id).length = q at *
      have HN := Lib.hid hN
      simp only [Itm.cs] at hb
      obtain ⟨⟨d0, d1, d2, d3, d4, d5, d6, d7, d8, d9, d10, d11, d12, d13, d14, d15⟩, hfz, hbl⟩ := ItmCells.of_heap hb
      have k1 := hN.cO (by omega)
      have k2 := hN.cY
      have z1 := (Array.getElem?_eq_some_iff.1 k1).1
      have z2 := (Array.getElem?_eq_some_iff.1 k2).1
      simp only [Itm.cs] at k2
      obtain ⟨⟨y0, y1, y2, y3, y4, y5, y6, y7, y8, y9, y10, y11, y12, y13, y14, y15⟩, yfz, _⟩ := ItmCells.of_heap (x := y) k2
      have g0 := (SL.cells_of k1).1 0
      have gz := (SL.cells_of k1).2
      simp at g0
      have HZ := Lib.hid hz0
      have HM := Lib.hid hw2
      clear hp hpl hN hb k1 k2 gro hC hO hz0 he HP HS hl' hbz hfz h hl hbw hw2
      refine wpIn_block ?_
      by_cases hx : x.sh = y.id
      ·have e2 : (x.sh == y.id) = true := by simpa using hx
       rw [if_pos hx] at Hfs
       clear hx
       gi_wp2_with fail
       have hz := HZ.out
       have hm := HM.out
       exact ⟨keeps_of_chg_w (E := [M + 1]) (.setCell _ (by simp) _) (by simp; omega), by rw [Hfs.out]; exact HN.out.num (by omega) (by omega) (by omega) (by omega) _, Hpl.out⟩
      ·have e2 : (x.sh == y.id) = false := by simpa using hx
       rw [if_neg hx, Int.add_zero] at Hfs
       clear hx
       gi_wp2_with fail
       exact ⟨keeps_of_chg_w (E := []) (.refl _ _) (by simp), by rw [Hfs.out]; exact HN.out, Hpl.out⟩
     ·rintro D W2 hD ⟨hN, hp⟩ hdef
      as_aux_lemma =>
      have HN := Lib.hid hN
      have HQ := HP
      generalize hq : (L.filter fun z => z.sh == y.id).length = q at *
      have Hq := Lib.hid hq
      have k1 := hN.cE
      have z1 := (Array.getElem?_eq_some_iff.1 k1).1
      have g0 := (SL.cells_of k1).1 0
      have gz := (SL.cells_of k1).2
      simp at g0
      have k2 := hN.cO (by omega)
      have z2 := (Array.getElem?_eq_some_iff.1 k2).1
      have y0 := (SL.cells_of k2).1 0
      simp at y0
      have HZ := Lib.hid hz0
      have HM := Lib.hid hw2
      clear hp hN k1 k2 gro hC hz0 hw2 hO h hl HS HP hq hbw
      by_cases hc : 150 ≤ q
      ·have e1 : decide ((150 : Int) ≤ (q : Int)) = true := by simp; omega
       have Hc := Lib.hid hc
       clear hc
       go_wp2_with fail
       have hz := HZ.out
       have hm := HM.out
       have q1 := HN.out.err (by omega) (by omega) (by omega) 2
       exact of_leaves (B := W0.heap.size) rfl (by omega) (by omega) ⟨by simp; exact ⟨hD, (Below.heap_setCell _ _ _ _ (by show D ≠ w.heap.size + 1; omega)).trans hdef⟩, by simp⟩ q1.cE q1.below (fun W' hb => HQ.out 2 W' hb (by rw [if_pos Hc.out]))
      ·have e1 : decide ((150 : Int) ≤ (q : Int)) = false := by simp; omega
       have Hc := Lib.hid hc
       clear hc
       go_wp2_with fail
       have hz := HZ.out
       have hm := HM.out
       have q1 := HN.out.err (by omega) (by omega) (by omega) 0
       exact of_leaves (B := W0.heap.size) rfl (by omega) (by omega) ⟨by simp; exact ⟨hD, (Below.heap_setCell _ _ _ _ (by show D ≠ w.heap.size + 1; omega)).trans hdef⟩, by simp⟩ q1.cE q1.below (fun W' hb => HQ.out 0 W' hb (by rw [if_neg Hc.out]))
     ·rintro D c pre x post W2 hD he h0 hdef
      exact h0.elim
   ·rw [if_pos hy] at HP
    have ey : (y.kd == 1) = false := by simpa using hy
    have ey2 : (y.kd != 1) = true := by simpa using hy
    clear hy
    rcases hk with rfl | rfl | rfl | rfl
    ·as_aux_lemma =>
     refine (callsIn_wide (n := 0)).1 (callsIn_of_wp_marks Tryz.func137 rfl trivial ?_)
     simp only [Tryz.ntmps137, List.size_toArray, List.length_cons, List.length_nil, Nat.reduceAdd, Nat.reduceSub, Array.replicate_succ, Array.replicate_zero, List.push_toArray, List.append_toArray, List.nil_append, List.cons_append]
     refine wpIn_wide.2 ?_
     go_wp2_with (first
      | (go_at_call 166; (with_reducible refine (hNm _ (h.below (by ((repeat (first | assumption | exact Below.refl _ _ | refine Below.alloc ?_ ?_ _ | refine Below.setCell ?_ ?_ _ | refine Below.drew ?_ | refine belowN ?_ | refine Below.up ?_ (by assumption) ?_)) <;> (first | assumption | omega | (simp; done) | (simp; omega)))))).mono ?_); rintro e w2 ⟨rfl, hb2⟩; obtain ⟨hc2, hf2⟩ := bcell hb2; have hzE := lt_size hb2 (b := w.heap.size + 1) (by first | assumption | omega | (simp; done) | (simp; omega)); have hzX := lt_size hb2 (b := w.heap.size) (by first | assumption | omega | (simp; done) | (simp; omega)))
      | (go_at_call 109; refine (sstands _ _ _ _).mono ?_; rintro e w1 ⟨rfl, rfl⟩))
     obtain ⟨q1, q2⟩ := of_err hb2
     exact of_leaves (B := w2.heap.size + 1 + 1) rfl (by omega) (by omega) ⟨by simp, by simp⟩ (alKeep (one_set q1 _)) ((q2.setCell (show w.heap.size ≤ w.heap.size + 1 by omega) _).ch2 (one_alloc _ _)) (fun W' hb => HP.out 5 W' hb rfl)
    ·as_aux_lemma =>
     refine (callsIn_wide (n := 0)).1 (callsIn_of_wp_marks Tryz.func137 rfl trivial ?_)
     simp only [Tryz.ntmps137, List.size_toArray, List.length_cons, List.length_nil, Nat.reduceAdd, Nat.reduceSub, Array.replicate_succ, Array.replicate_zero, List.push_toArray, List.append_toArray, List.nil_append, List.cons_append]
     refine wpIn_wide.2 ?_
     go_wp2_with (first
      | (go_at_call 166; (with_reducible refine (hNm _ (h.below (by ((repeat (first | assumption | exact Below.refl _ _ | refine Below.alloc ?_ ?_ _ | refine Below.setCell ?_ ?_ _ | refine Below.drew ?_ | refine belowN ?_ | refine Below.up ?_ (by assumption) ?_)) <;> (first | assumption | omega | (simp; done) | (simp; omega)))))).mono ?_); rintro e w2 ⟨rfl, hb2⟩; obtain ⟨hc2, hf2⟩ := bcell hb2; have hzE := lt_size hb2 (b := w.heap.size + 1) (by first | assumption | omega | (simp; done) | (simp; omega)); have hzX := lt_size hb2 (b := w.heap.size) (by first | assumption | omega | (simp; done) | (simp; omega)))
      | (go_at_call 109; refine (sstands _ _ _ _).mono ?_; rintro e w1 ⟨rfl, rfl⟩))
     obtain ⟨q1, q2⟩ := of_err hb2
     exact of_leaves (B := w2.heap.size + 1 + 1) rfl (by omega) (by omega) ⟨by simp, by simp⟩ (alKeep (one_set q1 _)) ((q2.setCell (show w.heap.size ≤ w.heap.size + 1 by omega) _).ch2 (one_alloc _ _)) (fun W' hb => HP.out 5 W' hb rfl)
    ·as_aux_lemma =>
     refine (callsIn_wide (n := 0)).1 (callsIn_of_wp_marks Tryz.func137 rfl trivial ?_)
     simp only [Tryz.ntmps137, List.size_toArray, List.length_cons, List.length_nil, Nat.reduceAdd, Nat.reduceSub, Array.replicate_succ, Array.replicate_zero, List.push_toArray, List.append_toArray, List.nil_append, List.cons_append]
     refine wpIn_wide.2 ?_
     go_wp2_with (first
      | (go_at_call 166; (with_reducible refine (hNm _ (h.below (by ((repeat (first | assumption | exact Below.refl _ _ | refine Below.alloc ?_ ?_ _ | refine Below.setCell ?_ ?_ _ | refine Below.drew ?_ | refine belowN ?_ | refine Below.up ?_ (by assumption) ?_)) <;> (first | assumption | omega | (simp; done) | (simp; omega)))))).mono ?_); rintro e w2 ⟨rfl, hb2⟩; obtain ⟨hc2, hf2⟩ := bcell hb2; have hzE := lt_size hb2 (b := w.heap.size + 1) (by first | assumption | omega | (simp; done) | (simp; omega)); have hzX := lt_size hb2 (b := w.heap.size) (by first | assumption | omega | (simp; done) | (simp; omega)))
      | (go_at_call 109; refine (sstands _ _ _ _).mono ?_; rintro e w1 ⟨rfl, rfl⟩))
     obtain ⟨q1, q2⟩ := of_err hb2
     exact of_leaves (B := w2.heap.size + 1 + 1) rfl (by omega) (by omega) ⟨by simp, by simp⟩ (alKeep (one_set q1 _)) ((q2.setCell (show w.heap.size ≤ w.heap.size + 1 by omega) _).ch2 (one_alloc _ _)) (fun W' hb => HP.out 5 W' hb rfl)
    ·as_aux_lemma =>
     refine (callsIn_wide (n := 0)).1 (callsIn_of_wp_marks Tryz.func137 rfl trivial ?_)
     simp only [Tryz.ntmps137, List.size_toArray, List.length_cons, List.length_nil, Nat.reduceAdd, Nat.reduceSub, Array.replicate_succ, Array.replicate_zero, List.push_toArray, List.append_toArray, List.nil_append, List.cons_append]
     refine wpIn_wide.2 ?_
     go_wp2_with (first
      | (go_at_call 166; (with_reducible refine (hNm _ (h.below (by ((repeat (first | assumption | exact Below.refl _ _ | refine Below.alloc ?_ ?_ _ | refine Below.setCell ?_ ?_ _ | refine Below.drew ?_ | refine belowN ?_ | refine Below.up ?_ (by assumption) ?_)) <;> (first | assumption | omega | (simp; done) | (simp; omega)))))).mono ?_); rintro e w2 ⟨rfl, hb2⟩; obtain ⟨hc2, hf2⟩ := bcell hb2; have hzE := lt_size hb2 (b := w.heap.size + 1) (by first | assumption | omega | (simp; done) | (simp; omega)); have hzX := lt_size hb2 (b := w.heap.size) (by first | assumption | omega | (simp; done) | (simp; omega)))
      | (go_at_call 109; refine (sstands _ _ _ _).mono ?_; rintro e w1 ⟨rfl, rfl⟩))
     obtain ⟨q1, q2⟩ := of_err hb2
     exact of_leaves (B := w2.heap.size + 1 + 1) rfl (by omega) (by omega) ⟨by simp, by simp⟩ (alKeep (one_set q1 _)) ((q2.setCell (show w.heap.size ≤ w.heap.size + 1 by omega) _).ch2 (one_alloc _ _)) (fun W' hb => HP.out 5 W' hb rfl)
theorem sof_any (x : Itm) (a : Option Addr) (n cap : Nat) (l : List Itm) (w : World) (h : ItmsAt w a n cap l) (hl : l.length ≤ 1000) :
 Calls Tryz.prog 137 #[.slice a n cap, x.v] w (EPost w (ofE l x)) := by
 by_cases h7 : x.kd = 7
 ·exact sof7 x h7 a n cap l w h hl
 by_cases hk : x.kd = 2 ∨ x.kd = 3 ∨ x.kd = 4 ∨ x.kd = 5
 ·obtain ⟨id, kn, kd, wa, pit, ly, co, ft, sh, fr, tw, lo, hi, st, li, vo⟩ := x
  exact sofM id kn kd wa pit ly co ft sh fr tw lo hi st li vo hk a n cap l w h hl
 ·have hE : ofE l x = 0 := by
   unfold ofE
   rw [if_neg h7, if_neg (by unfold measB; simp; omega)]
  rw [hE]
  obtain ⟨id, kn, kd, wa, pit, ly, co, ft, sh, fr, tw, lo, hi, st, li, vo⟩ := x
  simp only at h7 hk
  have HP := Lib.hid (show ∀ w', Below w.heap.size w w' → EPost w 0 (.returned (.int .i64 0)) w' from fun w' h1 => ⟨rfl, h1⟩)
  generalize EPost w 0 = Post at *
  have e7 : (kd == 7) = false := by simpa using h7
  have e2 : (kd == 2) = false := by simp; omega
  have e3 : (kd == 3) = false := by simp; omega
  have e4 : (kd == 4) = false := by simp; omega
  have e5 : (kd == 5) = false := by simp; omega
  clear hE hk h7
  simp only [Itm.v, Itm.cs]
  refine (callsIn_wide (n := 0)).1 (callsIn_of_wp_marks Tryz.func137 rfl trivial ?_)
  simp only [Tryz.ntmps137, List.size_toArray, List.length_cons, List.length_nil, Nat.reduceAdd, Nat.reduceSub, Array.replicate_succ, Array.replicate_zero, List.push_toArray, List.append_toArray, List.nil_append, List.cons_append]
  refine wpIn_wide.2 ?_
  go_wp2_with fail
  have hE := World.alloc_heap_new (w.alloc (Obj.cells #[.int .i64 id, .int .i64 kn, .int .u8 kd, .string wa, .int .i64 pit, .int .i64 ly, .int .i64 co, .bool ft, .int .i64 sh, .int .i64 fr, .int .i64 tw, .int .i64 lo, .int .i64 hi, .string st, .int .i64 li, .int .i64 vo] 24)) (Obj.cells #[.int .i64 0] 28)
  rw [World.size_alloc] at hE
  exact of_leaves (E := w.heap.size + 1) (B := w.heap.size + 1 + 1) rfl (by omega) (by omega) ⟨by simp, by simp⟩ hE ((one_alloc w _).ch2 (one_alloc _ _)) (fun W' hb => HP.out W' hb)
end Go.Proofs.YtelkcohhagblaaaGreat
