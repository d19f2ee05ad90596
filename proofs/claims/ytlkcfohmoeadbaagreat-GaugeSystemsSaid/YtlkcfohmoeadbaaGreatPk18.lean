/-
  Lemmas and walks for the laws on bounds and their sums; the parts' own heads say what each proves, for every input.
-/
import Derived.Test.YtlkcfohmoeadbaaGreatPk16
import Derived.Test.YtlkcfohmoeadbaaGreatPk17
import Derived.Test.YtlkcfohmoeadbaaGreatPk13
set_option linter.unusedSimpArgs false
set_option linter.unusedVariables false
set_option linter.unnecessarySimpa false
/-
  The walks, as data: what a last bound says; the way back.
-/
namespace Go.Proofs.YtlkcfohmoeadbaaGreat

/-- Where a sum is there, its last bound is one that leads to it. -/
def Led (bs : List Bd) (now : List Int) (s : List Int × List Int) : Prop := ∀ j : Int, 0 ≤ j → j < 60 → gi s.1 j < FAR →
  ∃ i : Nat, i < bs.length ∧ gi s.2 j = i ∧ (bs.getD i default).tow = j ∧ gi now (bs.getD i default).frm < FAR ∧ gi s.1 j = gi now (bs.getD i default).frm + (bs.getD i default).most

theorem lng_led {bs : List Bd} {now : List Int} (hin : ∀ b ∈ bs, b.inr) : ∀ k, k ≤ bs.length → Led bs now (lng bs now k)
  | 0, _ => fun j h0 h1 h => by rw [show (lng bs now 0).1 = fars from rfl, gi_fars j h0 h1] at h; exact absurd h (Int.lt_irrefl _)
  | k + 1, hk => by
    have ih := lng_led (now := now) hin k (by omega)
    have hl := lng_len bs now k
    intro j h0 h1
    have hb : (bs.getD k default).inr := hin _ (by rw [List.getD_eq_getElem?_getD, List.getElem?_eq_getElem (by omega)]; exact List.getElem_mem _)
    show gi (lstep now (lng bs now k) k (bs.getD k default)).1 j < FAR → ∃ i : Nat, i < bs.length ∧ gi (lstep now (lng bs now k) k (bs.getD k default)).2 j = i ∧ _ ∧ _ ∧ gi (lstep now (lng bs now k) k (bs.getD k default)).1 j = _
    unfold lstep
    split
    · rename_i ho
      simp only [lopen, Bool.and_eq_true, decide_eq_true_eq] at ho
      have ht := hb.t0
      have ht1 := hb.t1
      simp only []
      rw [gi_set hb.t0 (by rw [hl.1]; omega) h0, gi_set hb.t0 (by rw [hl.2]; omega) h0]
      split
      · rename_i e
        intro _
        exact ⟨k, by omega, rfl, e.symm, ho.1, rfl⟩
      · exact ih j h0 h1
    · exact ih j h0 h1

theorem wS_led {bs : List Bd} (hin : ∀ b ∈ bs, b.inr) (q m : Nat) : Led bs (wS bs q m) (wS bs q (m + 1), wL bs q (m + 1)) := lng_led hin bs.length (Nat.le_refl _)

/-- The bounds on the way back from a point, the last one first. -/
def bkC (bs : List Bd) (q : Nat) : Nat → Int → List Int
  | 0, _ => []
  | k + 1, j => gi (wL bs q (k + 1)) j :: bkC bs q k (bs.getD (gi (wL bs q (k + 1)) j).toNat default).frm
theorem bkC_len (bs : List Bd) (q : Nat) : ∀ k j, (bkC bs q k j).length = k
  | 0, _ => rfl
  | k + 1, j => by simp [bkC, bkC_len bs q k]
/-- The first walk, by length and then by point, that leads back to its point with a sum below 0. -/
def crcT (p : Nat) (bs : List Bd) (t : Nat) : Bool := decide (gi (wS bs (t % p) (t / p + 1)) ((t % p : Nat) : Int) < 0)
def crcL (p : Int) (bs : List Bd) : List Int := match (List.range (p.toNat * p.toNat)).find? (crcT p.toNat bs) with
  | some t => (bkC bs (t % p.toNat) (t / p.toNat + 1) ((t % p.toNat : Nat) : Int)).reverse
  | none => []
end Go.Proofs.YtlkcfohmoeadbaaGreat

/-
  Gauge, walked: back.
-/
namespace Go.Proofs.YtlkcfohmoeadbaaGreat
open Go.RowKit Go.Shelf
set_option maxHeartbeats 1000000
set_option maxRecDepth 100000

theorem range_getD (f : Nat → List Int) (n k : Nat) (h : k < n) : (((List.range n).map f).getD k []) = f k := by
  simp [List.getD_eq_getElem?_getD, h]

theorem gback_walk (p : Int) (a : Option Addr) (n cap : Nat) (bs : List Bd) (q m : Nat) (j : Int) (WB wo : Nat) (v2 : Value) (base : Nat) (w : World) (hb : BdsAt w a n cap bs) (h402 : bs.length ≤ 402) (hin : ∀ b ∈ bs, b.inr) (hm : m ≤ 100) (h0 : 0 ≤ j) (h1 : j < 60) (hj : gi (wS bs q m) j < FAR)
    (hw2 : w.cell? ⟨WB, wo + 1, none⟩ = some v2) (o2 : w.ownsRow base 76 60 v2 (m + 1) (flat ((List.range (m + 1)).map (wL bs q)))) :
    Calls Tryz.prog 66 #[.pointer (some ⟨WB, wo, none⟩), .agg #[.int .i64 p, .slice a n cap], .int .i64 j] w fun e w' => ∃ v, e = .returned v ∧ Below w.heap.size w w' ∧ w'.ownsRow w.heap.size 3 1 v m ((bkC bs q m j).reverse.map (.int .i64)) := by
  obtain rfl := hb.len
  obtain ⟨g2, q2, rfl, hg2, hg2l, hLl, hc2, hc2', hv2, hr2⟩ := rows_at o2 (by intro r hr; obtain ⟨i, _, rfl⟩ := List.mem_map.1 hr; exact wL_len _ _ _) (by omega)
  have zW := World.block_lt_of_cell? w _ hw2
  simp only at zW
  have hbkl := bkC_len bs q m j
  have hwr : IntKind.i64.wrap ((m : Int) + 1 - 1) = m := by rw [show (m : Int) + 1 - 1 = m by omega]; exact IntWalk.i64_in _ (by omega)
  go_enter Tryz.func66, Tryz.ntmps66
  go_wp2_with fail
  go_loopw [7, 8, 2] (fun v k jj wr => ∃ (c : Nat) (j' : Int), c ≤ m ∧ k = .int .i64 c ∧ jj = .int .i64 j' ∧ 0 ≤ j' ∧ j' < 60 ∧ gi (wS bs q c) j' < FAR ∧ Below w.heap.size w wr ∧ w.heap.size < wr.heap.size ∧ wr.cell? ⟨w.heap.size, 1, none⟩ = some (.slice a bs.length cap) ∧ ∃ l, bkC bs q m j = l ++ bkC bs q c j' ∧ l.length = m - c ∧ wr.ownsRow (w.heap.size + 1) 3 1 v (m - c) (l.map (.int .i64))) (fun _ k _ _ => (intOf k).toNat)
  case atStart =>
    exact ⟨m, j, Nat.le_refl _, by first | rfl | go_num, rfl, h0, h1, hj, by ((repeat (first | assumption | exact Below.refl _ _ | refine Below.alloc ?_ ?_ _ | refine Below.setCell ?_ ?_ _ | refine Below.drew ?_ | refine belowN ?_ | refine Below.up ?_ (by assumption) ?_)) <;> (first | assumption | omega | (simp; done) | (simp; omega))), by simp, by simp [go_sem], [], by simp, by simp, by rw [Nat.sub_self]; exact World.ownsRow_nil _ _ _ _⟩
  case round =>
    obtain ⟨c, j', hc, rfl, rfl, hj0, hj1, hfar, hB, hz, hS, l, hl, hll, hown⟩ := hrel
    cases c with
    | zero =>
      rw [show bkC bs q 0 j' = [] from rfl, List.append_nil] at hl
      rw [Nat.sub_zero] at hown hll
      have hR := greverse_any _ _ _ _ _ hown (by omega)
      have Hl := Lib.hid hl
      clear hl
      go_wp2_with (go_at_call 84; refine hR.mono ?_; rintro e w2 ⟨rfl, ho2, hC2⟩)
      go_ret
      refine ⟨_, rfl, hB.trans (hC2.belowE hB.size (fun k hk => by have := (SL.row_bounds hown k hk).1; omega)), ?_⟩
      rw [Hl.out]
      exact SL.row_base ho2 (by omega)
    | succ d =>
      obtain ⟨i, hi, e1, e2, e3, e4⟩ := wS_led hin q d j' hj0 hj1 hfar
      have hcell : wr.cell? ⟨g2, (d + 1) * 60 + j'.toNat, none⟩ = some (.int .i64 (i : Int)) := by
        rw [(bcell hB).1 _ _ hg2l]
        have h := hr2 (d + 1) (by omega) j'.toNat (.int .i64 (gi (wL bs q (d + 1)) j')) (by
          rw [range_getD _ _ _ (by omega)]
          have := wL_len bs q (d + 1)
          simp [gi, List.getD_eq_getElem?_getD, List.getElem?_eq_getElem (show j'.toNat < (wL bs q (d + 1)).length by omega)])
        rw [h, e1]
      have hWc := ((bcell hB).1 _ _ zW).trans hw2
      have hxi : (bs.getD i default).inr := hin _ (by rw [List.getD_eq_getElem?_getD, List.getElem?_eq_getElem hi]; exact List.getElem_mem _)
      obtain ⟨x0, x1, _, _, _, _⟩ := hxi
      have hbk : bkC bs q (d + 1) j' = (i : Int) :: bkC bs q d (bs.getD i default).frm := by
        simp only [bkC]
        rw [e1]
        rfl
      rw [hbk] at hl
      obtain ⟨b, off, rfl, hbl, d0, d1, d2, d3⟩ := (hb.below hB).get hi
      generalize bs.getD i default = x at *
      have Hl := Lib.hid hl
      clear hl hbk e1 e2 e4
      have hbw : b < w.heap.size := (hb.at_ _ rfl).2.1
      have hwrd : IntKind.i64.wrap ((d : Int) + 1 - 1) = d := by rw [show (d : Int) + 1 - 1 = d by omega]; exact IntWalk.i64_in _ (by omega)
      have hzn : w.heap.size < wr.heap.size := hz
      have hd0 : b < wr.heap.size := hbl
      go_wp2_with (at_builtin; refine wpList_app elemI rfl _ _ rfl (hown.up ((Below.refl _ _).alloc (Nat.le_refl _) (Obj.cells #[.int .i64 i] 3)) (Nat.le_refl _)) rfl rfl (RowAt.of_heap (World.alloc_heap_new wr _)) (by simp) (ones_int [(i : Int)]) ?_ ?_ ?_ ?_)
      · unfold maxLen; omega
      · omega
      · simp; omega
      · intro v' w5 ho5 hg5 hb5 _ hat
        obtain ⟨sa, sc, rfl, _⟩ := owns_slice ho5
        have hBa : Below (w.heap.size + 1) wr w5 := ((Below.refl _ _).alloc (by omega) _).trans hb5
        have s5 : w5.cell? ⟨w.heap.size, 1, none⟩ = some (.slice (some ⟨b, off, none⟩) bs.length cap) := by
          rw [(bcell hBa).1 _ _ (by omega)]; exact hS
        have f5 : w5.cell? ⟨b, off + i * 4, none⟩ = some (.int .i64 x.frm) := by
          rw [(bcell hBa).1 _ _ (by omega)]; exact d0
        clear d0 d1 d2 d3 hS hcell hWc
        go_wp2
        go_roundw
        case rel =>
          refine ⟨d, x.frm, by omega, by first | rfl | go_num, rfl, x0, x1, e3, hB.trans (hBa.mono (by omega)), by have := hBa.size; omega, s5, l ++ [(i : Int)], ?_, ?_, ?_⟩
          · rw [Hl.out]; simp
          · simp; omega
          · rw [List.map_append]
            rw [show m - d = m - (d + 1) + 1 by omega]
            simpa using ho5
        case measure => simp [intOf]
end Go.Proofs.YtlkcfohmoeadbaaGreat

/-
  The walks from all points, as they lie in a world.
-/
namespace Go.Proofs.YtlkcfohmoeadbaaGreat
open Go.RowKit Go.Shelf
set_option maxHeartbeats 1000000
set_option maxRecDepth 100000

/-- The walks from all points, as they lie in a world: n q rows from point q. -/
structure CW (P WB : Nat) (bs : List Bd) (n : Nat → Nat) (W : World) (V : Nat → Value) (cs : Array Value) : Prop where
  box : W.heap[WB]? = some (.cells cs 82 (0, 0))
  size : cs.size = P * 2
  get : ∀ i, i < P * 2 → cs[i]? = some (V i)
  r1 : ∀ q, q < P → W.ownsRow (WB + 1) 77 60 (V (q * 2)) (n q) (flat ((List.range (n q)).map (wS bs q)))
  r2 : ∀ q, q < P → W.ownsRow (WB + 1) 76 60 (V (q * 2 + 1)) (n q) (flat ((List.range (n q)).map (wL bs q)))
  dis : ∀ i j, i < P * 2 → j < P * 2 → i ≠ j → ∀ k ∈ (V i).ownBlock.toList, k ∉ (V j).ownBlock.toList

theorem CW.below {P WB : Nat} {bs : List Bd} {n : Nat → Nat} {W W' : World} {V : Nat → Value} {cs : Array Value} (h : CW P WB bs n W V cs) (hb : Below W.heap.size W W') : CW P WB bs n W' V cs :=
  ⟨(hb.block _ (Array.getElem?_eq_some_iff.1 h.box).1).trans h.box, h.size, h.get, fun q hq => (h.r1 q hq).up hb (Nat.le_refl _), fun q hq => (h.r2 q hq).up hb (Nat.le_refl _), h.dis⟩

theorem CW.block {P WB : Nat} {bs : List Bd} {n : Nat → Nat} {W : World} {V : Nat → Value} {cs : Array Value} (h : CW P WB bs n W V cs) {i : Nat} (hi : i < P * 2) : ∀ k ∈ (V i).ownBlock.toList, WB + 1 ≤ k ∧ k < W.heap.size := by
  intro k hk
  rcases Nat.mod_two_eq_zero_or_one i with e | e
  · exact SL.row_bounds (h.r1 (i / 2) (by omega)) k (by rw [show i / 2 * 2 = i by omega]; exact hk)
  · exact SL.row_bounds (h.r2 (i / 2) (by omega)) k (by rw [show i / 2 * 2 + 1 = i by omega]; exact hk)

/-- The walks of one point are renewed. -/
theorem CW.upd {P WB : Nat} {bs : List Bd} {n : Nat → Nat} {W W' : World} {V : Nat → Value} {cs : Array Value} (h : CW P WB bs n W V cs) {q m : Nat} (hq : q < P) {u1 u2 : Value}
    (hc : SL.Chg (WB :: ((V (q * 2)).ownBlock.toList ++ (V (q * 2 + 1)).ownBlock.toList)) W W') (hb : W'.heap[WB]? = some (.cells ((cs.setIfInBounds (q * 2) u1).setIfInBounds (q * 2 + 1) u2) 82 (0, 0)))
    (o1 : W'.ownsRow (WB + 1) 77 60 u1 m (flat ((List.range m).map (wS bs q)))) (o2 : W'.ownsRow (WB + 1) 76 60 u2 m (flat ((List.range m).map (wL bs q))))
    (hd : ∀ k ∈ u1.ownBlock.toList, k ∉ u2.ownBlock.toList) (n1 : ∀ k ∈ u1.ownBlock.toList, k ∈ (V (q * 2)).ownBlock.toList ∨ W.heap.size ≤ k) (n2 : ∀ k ∈ u2.ownBlock.toList, k ∈ (V (q * 2 + 1)).ownBlock.toList ∨ W.heap.size ≤ k) :
    CW P WB bs (fun i => if i = q then m else n i) W' (fun i => if i = q * 2 then u1 else if i = q * 2 + 1 then u2 else V i) ((cs.setIfInBounds (q * 2) u1).setIfInBounds (q * 2 + 1) u2) := by
  have hz := h.size
  have hother : ∀ i, i < P * 2 → i ≠ q * 2 → i ≠ q * 2 + 1 → ∀ k ∈ (V i).ownBlock.toList, k ∉ (WB :: ((V (q * 2)).ownBlock.toList ++ (V (q * 2 + 1)).ownBlock.toList)) := fun i hi h1 h2 k hk hm => by
    rcases List.mem_cons.1 hm with e | hm
    · have := (h.block hi k hk).1; omega
    · rcases List.mem_append.1 hm with hm | hm
      · exact h.dis i (q * 2) hi (by omega) h1 k hk hm
      · exact h.dis i (q * 2 + 1) hi (by omega) h2 k hk hm
  refine ⟨hb, by simp [hz], fun i hi => ?_, fun r hr => ?_, fun r hr => ?_, fun i j hi hj hij k hk1 hk2 => ?_⟩
  · simp only [Array.getElem?_setIfInBounds, Array.size_setIfInBounds, hz]
    by_cases e1 : q * 2 + 1 = i
    · subst e1
      rw [if_pos rfl, if_pos hi]
      simp
    · rw [if_neg e1]
      by_cases e2 : q * 2 = i
      · subst e2
        rw [if_pos rfl, if_pos hi]
        simp
      · rw [if_neg e2, h.get i hi, if_neg (fun e => e2 e.symm), if_neg (fun e => e1 e.symm)]
  · by_cases e : r = q
    · subst e; simpa using o1
    · simp only [if_neg e, if_neg (show ¬ r * 2 = q * 2 by omega), if_neg (show ¬ r * 2 = q * 2 + 1 by omega)]
      exact SL.row_stab (h.r1 r hr) fun k hk => hc.block k (h.block (i := r * 2) (by omega) k hk).2 (hother (r * 2) (by omega) (by omega) (by omega) k hk)
  · by_cases e : r = q
    · subst e; simpa using o2
    · simp only [if_neg e, if_neg (show ¬ r * 2 + 1 = q * 2 by omega), if_neg (show ¬ r * 2 + 1 = q * 2 + 1 by omega)]
      exact SL.row_stab (h.r2 r hr) fun k hk => hc.block k (h.block (i := r * 2 + 1) (by omega) k hk).2 (hother (r * 2 + 1) (by omega) (by omega) (by omega) k hk)
  · have old : ∀ i, i < P * 2 → i ≠ q * 2 → i ≠ q * 2 + 1 → ∀ k ∈ (V i).ownBlock.toList, k ∉ u1.ownBlock.toList ∧ k ∉ u2.ownBlock.toList := fun i hi a1 a2 k hk => by
      have hb := (h.block hi k hk).2
      constructor
      · intro hm
        rcases n1 k hm with e | e
        · exact h.dis i (q * 2) hi (by omega) a1 k hk e
        · omega
      · intro hm
        rcases n2 k hm with e | e
        · exact h.dis i (q * 2 + 1) hi (by omega) a2 k hk e
        · omega
    by_cases i1 : i = q * 2
    · rw [if_pos i1] at hk1
      by_cases j1 : j = q * 2
      · omega
      · rw [if_neg j1] at hk2
        by_cases j2 : j = q * 2 + 1
        · rw [if_pos j2] at hk2; exact hd k hk1 hk2
        · rw [if_neg j2] at hk2; exact (old j hj j1 j2 k hk2).1 hk1
    · rw [if_neg i1] at hk1
      by_cases i2 : i = q * 2 + 1
      · rw [if_pos i2] at hk1
        by_cases j1 : j = q * 2
        · rw [if_pos j1] at hk2; exact hd k hk2 hk1
        · rw [if_neg j1, if_neg (by omega)] at hk2
          exact (old j hj j1 (by omega) k hk2).2 hk1
      · rw [if_neg i2] at hk1
        by_cases j1 : j = q * 2
        · rw [if_pos j1] at hk2; exact (old i hi i1 i2 k hk1).1 hk2
        · rw [if_neg j1] at hk2
          by_cases j2 : j = q * 2 + 1
          · rw [if_pos j2] at hk2; exact (old i hi i1 i2 k hk1).2 hk2
          · rw [if_neg j2] at hk2; exact h.dis i j hi hj hij k hk1 hk2

theorem CW.congr {P WB : Nat} {bs : List Bd} {n n' : Nat → Nat} {W : World} {V : Nat → Value} {cs : Array Value} (h : CW P WB bs n W V cs) (he : ∀ q, q < P → n q = n' q) : CW P WB bs n' W V cs :=
  ⟨h.box, h.size, h.get, fun q hq => by rw [← he q hq]; exact h.r1 q hq, fun q hq => by rw [← he q hq]; exact h.r2 q hq, h.dis⟩

theorem CW.start (w : World) (P : Nat) (bs : List Bd) : CW P w.heap.size bs (fun _ => 0) (w.alloc (.cells (madeCells #[.slice none 0 0, .slice none 0 0] (P * 2)) 82)) (fun _ => .slice none 0 0) (madeCells #[.slice none 0 0, .slice none 0 0] (P * 2)) := by
  refine ⟨World.alloc_heap_new _ _, size_madeCells _ _, fun i hi => ?_, fun q _ => World.ownsRow_nil _ _ _ _, fun q _ => World.ownsRow_nil _ _ _ _, fun i j _ _ _ k hk => by simp [Value.ownBlock] at hk⟩
  simp only [madeCells, Array.getElem?_map, Array.getElem?_range, hi, if_true, Option.map_some]
  rcases Nat.mod_two_eq_zero_or_one i with e | e <;> simp [e]

theorem made_zeros : madeCells #[.int .i64 0, .int .i64 0, .int .i64 0, .int .i64 0, .int .i64 0, .int .i64 0, .int .i64 0, .int .i64 0, .int .i64 0, .int .i64 0, .int .i64 0, .int .i64 0, .int .i64 0, .int .i64 0, .int .i64 0, .int .i64 0, .int .i64 0, .int .i64 0, .int .i64 0, .int .i64 0, .int .i64 0, .int .i64 0, .int .i64 0, .int .i64 0, .int .i64 0, .int .i64 0, .int .i64 0, .int .i64 0, .int .i64 0, .int .i64 0, .int .i64 0, .int .i64 0, .int .i64 0, .int .i64 0, .int .i64 0, .int .i64 0, .int .i64 0, .int .i64 0, .int .i64 0, .int .i64 0, .int .i64 0, .int .i64 0, .int .i64 0, .int .i64 0, .int .i64 0, .int .i64 0, .int .i64 0, .int .i64 0, .int .i64 0, .int .i64 0, .int .i64 0, .int .i64 0, .int .i64 0, .int .i64 0, .int .i64 0, .int .i64 0, .int .i64 0, .int .i64 0, .int .i64 0, .int .i64 0] 60 = ints zeros60 := by kernel_rfl
theorem run_make_last (w : World) : (Instr.makeSlice 80 (.int .i64 1) (.int .i64 1)).run Tryz.prog w = .ok (.slice (some ⟨w.heap.size, 0, none⟩) 1 1) (w.alloc (.cells (ints zeros60) 76)) := by
  obtain ⟨i, hi, hz, hs, hb⟩ := info_parts (show (Tryz.prog.info? 76).map (fun i => (i.zero, i.size, i.bytes)) = some (some (.agg #[.int .i64 0, .int .i64 0, .int .i64 0, .int .i64 0, .int .i64 0, .int .i64 0, .int .i64 0, .int .i64 0, .int .i64 0, .int .i64 0, .int .i64 0, .int .i64 0, .int .i64 0, .int .i64 0, .int .i64 0, .int .i64 0, .int .i64 0, .int .i64 0, .int .i64 0, .int .i64 0, .int .i64 0, .int .i64 0, .int .i64 0, .int .i64 0, .int .i64 0, .int .i64 0, .int .i64 0, .int .i64 0, .int .i64 0, .int .i64 0, .int .i64 0, .int .i64 0, .int .i64 0, .int .i64 0, .int .i64 0, .int .i64 0, .int .i64 0, .int .i64 0, .int .i64 0, .int .i64 0, .int .i64 0, .int .i64 0, .int .i64 0, .int .i64 0, .int .i64 0, .int .i64 0, .int .i64 0, .int .i64 0, .int .i64 0, .int .i64 0, .int .i64 0, .int .i64 0, .int .i64 0, .int .i64 0, .int .i64 0, .int .i64 0, .int .i64 0, .int .i64 0, .int .i64 0, .int .i64 0]), 60, 480) by kernel_rfl)
  have h := run_make (P := Tryz.prog) (w := w) 80 76 i _ Tryz.underlying80 hi hz .i64 .i64 1 1 (by omega) (Int.le_refl _) (by rw [hb]; omega) (by omega)
  rw [hs] at h
  rw [← made_zeros]
  exact h

theorem run_make_walks (w : World) (p : Int) (h1 : 1 ≤ p) (h2 : p ≤ 60) : (Instr.makeSlice 75 (.int .i64 p) (.int .i64 p)).run Tryz.prog w = .ok (.slice (some ⟨w.heap.size, 0, none⟩) p.toNat p.toNat) (w.alloc (.cells (madeCells #[.slice none 0 0, .slice none 0 0] (p.toNat * 2)) 82)) := by
  obtain ⟨i, hi, hz, hs, hb⟩ := info_parts (show (Tryz.prog.info? 82).map (fun i => (i.zero, i.size, i.bytes)) = some (some (.agg #[.slice none 0 0, .slice none 0 0]), 2, 48) by kernel_rfl)
  have h := run_make (P := Tryz.prog) (w := w) 75 82 i _ Tryz.underlying75 hi hz .i64 .i64 p p (by omega) (Int.le_refl _) (by rw [hb]; omega) (by omega)
  rw [hs] at h
  exact h

end Go.Proofs.YtlkcfohmoeadbaaGreat
