/-
  Lemmas and walks for the laws on bounds and their sums; the parts' own heads say what each proves, for every input.
-/
import Derived.Test.YtlkcfohmoeadbaaGreatPk19
import Derived.Test.YtlkcfohmoeadbaaGreatPk26
set_option linter.unusedSimpArgs false
set_option linter.unusedVariables false
set_option linter.unnecessarySimpa false
/-
  The reference of layer 1, walked: SameSystem, of two systems that are the same.
-/
namespace Go.Proofs.YtlkcfohmoeadbaaGreat
open Go.RowKit Go.Shelf
set_option maxHeartbeats 1000000
set_option maxRecDepth 100000

theorem eqBd (w : World) (b : Bd) : (Op.equalIn 10000 26 (.agg #[.int .i64 b.frm, .int .i64 b.tow, .int .i64 b.most, .int .i64 b.bid]) (.agg #[.int .i64 b.frm, .int .i64 b.tow, .int .i64 b.most, .int .i64 b.bid])).run Tryz.prog w = .ok true w := by
  rw [show (10000 : Nat) = 9999 + 1 from rfl, run_equalIn_struct w 9999 _ _ _ (by kernel_rfl) (by kernel_rfl)]
  simp [go_sem, Op.eqFields, Program.fieldsOf, Tryz.underlying26, Tryz.underlying3]
theorem gdBd : Tryz.prog.eqGuardType Tryz.prog.depth 26 = false := by kernel_rfl

theorem rsamesys_yes (p : Int) (a1 a2 : Option Addr) (n1 n2 c1 c2 : Nat) (bs : List Bd) (w : World) (h1 : BdsAt w a1 n1 c1 bs) (h2 : BdsAt w a2 n2 c2 bs) :
    Calls Tryz.prog 16 #[.agg #[.int .i64 p, .slice a1 n1 c1], .agg #[.int .i64 p, .slice a2 n2 c2]] w fun e w' => e = .returned (.bool true) ∧ Below w.heap.size w w' := by
  have hl := h1.small
  obtain rfl := h1.len
  obtain rfl := h2.len
  have np : (p != p) = false := by simp
  have nl : ((bs.length : Int) != (bs.length : Int)) = false := by simp
  have hB2 : Below w.heap.size w ((w.alloc (Obj.cells #[.int .i64 p, .slice a1 bs.length c1] 24)).alloc (Obj.cells #[.int .i64 p, .slice a2 bs.length c2] 24)) := by ((repeat (first | assumption | exact Below.refl _ _ | refine Below.alloc ?_ ?_ _ | refine Below.setCell ?_ ?_ _ | refine Below.drew ?_ | refine belowN ?_ | refine Below.up ?_ (by assumption) ?_)) <;> (first | assumption | omega | (simp; done) | (simp; omega)))
  go_enter Tryz.func16, Tryz.ntmps16
  go_wp2_with fail
  go_loopw [5] (fun i wr => ∃ k : Nat, k ≤ bs.length ∧ i = .int .i64 k ∧ Below w.heap.size w wr ∧ wr.cell? ⟨w.heap.size, 1, none⟩ = some (.slice a1 bs.length c1) ∧ wr.cell? ⟨w.heap.size + 1, 1, none⟩ = some (.slice a2 bs.length c2)) (fun i _ => bs.length - (intOf i).toNat)
  case atStart => exact ⟨0, Nat.zero_le _, rfl, hB2, by simp [go_sem], by simp [go_sem]⟩
  case round =>
    obtain ⟨k, hk, rfl, hB, q1, q2⟩ := hrel
    by_cases hlt : k < bs.length
    · obtain ⟨b1, o1, rfl, _, d0, d1, d2, d3⟩ := (h1.below hB).get hlt
      obtain ⟨b2, o2, rfl, _, e0, e1, e2, e3⟩ := (h2.below hB).get hlt
      have hnn : (0 : Int) ≤ k := by omega
      have i1 : (k : Int) < (bs.length : Int) := by omega
      have hq := fun w => eqBd w (bs.getD k default)
      have gd := gdBd
      generalize bs.getD k default = x at *
      go_wp2_with fail
      go_quiet (fail)
      go_wp2
      go_roundw
      case rel => exact ⟨k + 1, by omega, by go_num, belowN hB, by simpa [go_sem] using q1, by simpa [go_sem] using q2⟩
      case measure => simp [intOf]; omega
    · go_wp2_with fail
      go_ret
      exact ⟨rfl, hB⟩
end Go.Proofs.YtlkcfohmoeadbaaGreat

/-
  The reference of layer 1, walked: Without.
-/
namespace Go.Proofs.YtlkcfohmoeadbaaGreat
open Go.RowKit Go.Shelf
set_option maxHeartbeats 4000000
set_option maxRecDepth 100000

theorem rWithout_any (p : Int) (a : Option Addr) (n cap : Nat) (bs : List Bd) (by_ : Int) (w : World) (hb : BdsAt w a n cap bs) :
    Calls Tryz.prog 15 #[.agg #[.int .i64 p, .slice a n cap], .int .i64 by_] w fun e w' => ∃ v, e = .returned (.tuple #[.agg #[.int .i64 (if chk p bs = 0 then p else 0), v], .int .i64 (chk p bs)]) ∧ Below w.heap.size w w' ∧
      w'.ownsRow w.heap.size 26 4 v (if chk p bs = 0 then bs.filter (fun b => b.bid != by_) else []).length (bcs (if chk p bs = 0 then bs.filter (fun b => b.bid != by_) else [])) := by
  have hB2 : Below w.heap.size w ((w.alloc (Obj.cells #[.int .i64 p, .slice a n cap] 24)).alloc (Obj.cells #[.int .i64 0, .slice none 0 0] 24)) := by ((repeat (first | assumption | exact Below.refl _ _ | refine Below.alloc ?_ ?_ _ | refine Below.setCell ?_ ?_ _ | refine Below.drew ?_ | refine belowN ?_ | refine Below.up ?_ (by assumption) ?_)) <;> (first | assumption | omega | (simp; done) | (simp; omega)))
  have hbx := hb.below hB2
  have hC := rcheck_any p a n cap bs _ hbx
  by_cases h0 : chk p bs = 0
  · have hs := chk_400 h0
    simp only [h0, if_true] at hC ⊢
    obtain rfl := hb.len
    generalize hq : (fun b : Bd => b.bid != by_) = q at *
    have Hq := Lib.hid (show ∀ x : Bd, q x = (x.bid != by_) from fun x => by rw [← hq])
    clear hq
    go_enter Tryz.func15, Tryz.ntmps15
    go_wp2_with (go_at_call 11; refine (hC).mono ?_; rintro e w1 ⟨rfl, hb1⟩; obtain ⟨hc1, hf1⟩ := bcell hb1; have hz1a := lt_size hb1 (b := w.heap.size) (by first | assumption | omega | (simp; done) | (simp; omega)); have hz1b := lt_size hb1 (b := w.heap.size+1) (by first | assumption | omega | (simp; done) | (simp; omega)))
    have hz1 := hb1.size
    simp only [World.size_alloc] at hz1
    have hB1 : Below w.heap.size w w1 := hB2.trans (hb1.mono (by simp; omega))
    have k1 : w1.heap[w.heap.size + 1]? = some (.cells #[.int .i64 0, .slice none 0 0] 24 (0, 0)) := (hb1.block _ (by simp)).trans (heap_alloc2_new _ _ _)
    have k0 : w1.cell? ⟨w.heap.size, 1, none⟩ = some (.slice a bs.length cap) := by rw [hc1 _ _ (by simp; omega)]; simp [go_sem]
    have hbw := hb.below hB1
    have hax : ∀ z, a = some z → z.block < w.heap.size := fun z hz => (hb.at_ z hz).2.1
    clear hc1 hf1 hC
    go_loopw [8] (fun i wr => ∃ k : Nat, k ≤ bs.length ∧ i = .int .i64 k ∧ Below w1.heap.size w1 wr ∧ w1.heap.size + 1 ≤ wr.heap.size ∧ ∃ v, wr.heap[w1.heap.size]? = some (.cells #[.int .i64 p, v] 24 (0,0)) ∧ wr.ownsRow (w1.heap.size + 1) 26 4 v ((bs.take k).filter q).length (bcs ((bs.take k).filter q))) (fun i _ => bs.length - (intOf i).toNat)
    case atStart =>
      refine ⟨0, Nat.zero_le _, rfl, by ((repeat (first | assumption | exact Below.refl _ _ | refine Below.alloc ?_ ?_ _ | refine Below.setCell ?_ ?_ _ | refine Below.drew ?_ | refine belowN ?_ | refine Below.up ?_ (by assumption) ?_)) <;> (first | assumption | omega | (simp; done) | (simp; omega))), by simp, .slice none 0 0, World.alloc_heap_new _ _, World.ownsRow_nil _ _ _ _⟩
    case round =>
      obtain ⟨j, hj, rfl, hB, hz, v, h2, hown⟩ := hrel
      obtain ⟨a2, f2⟩ := SL.cells_of h2
      have c20 := a2 0
      have c21 := a2 1
      simp at c20 c21
      clear a2
      have c1 : wr.cell? ⟨w.heap.size, 1, none⟩ = some (.slice a bs.length cap) := ((bcell hB).1 _ _ (by omega)).trans k0
      have h1 := (hB.block (w.heap.size + 1) (by omega)).trans k1
      obtain ⟨a1, f1⟩ := SL.cells_of h1
      have c10 := a1 0
      have c11 := a1 1
      simp at c10 c11
      clear a1
      by_cases hlt : j < bs.length
      · obtain ⟨b, off, rfl, hbl, d0, d1, d2, d3⟩ := (hbw.below hB).get hlt
        have hbl' := hax _ rfl
        simp only at hbl'
        have Hyes := Lib.hid (filter_take_yes (q := q) hlt)
        have Hno := Lib.hid (filter_take_no (q := q) hlt)
        have hL := filter_take_len q bs j
        have hqx := Hq.out (bs.getD j default)
        generalize hxx : bs.getD j default = x at *
        clear hxx
        generalize hl : (bs.take j).filter q = l at *
        clear hl
        have HqX := Lib.hid hqx
        clear hqx
        by_cases hyes : (x.bid != by_) = true
        · have HYes := Lib.hid (Hyes.out (by rw [HqX.out]; exact hyes))
          go_wp2_with fail
          have hvb := SL.row_bounds hown
          have hnm : ∀ k, k < w1.heap.size → k ∉ w1.heap.size :: v.ownBlock.toList := fun k hk h => by
            rcases List.mem_cons.1 h with e | e
            · omega
            · have := (hvb _ e).1; omega
          refine SL.rule (by kernel_rfl) (w1.heap.size :: v.ownBlock.toList) [33, 34, 35, 36, 37, 38, 39, 40, 41, 42] [
            SL.pu 33 [] (.pointer (some ⟨w1.heap.size, 1, none⟩)), SL.pu 34 [0, 11] v, SL.pu 35 [] (.pointer (some ⟨w.heap.size, 1, none⟩)), SL.pu 36 [2] (.slice (some ⟨b, off, none⟩) bs.length cap), SL.pu 37 [] (.int .i64 j), SL.pu 38 [3, 4] (.pointer (some ⟨b, off + j * 4, none⟩)), SL.pu 39 [5] x.v,
            SL.row 40 [6] [] (w1.heap.size + 1) 26 4 1 x.cs, SL.row 41 [1, 7, 12] [12] (w1.heap.size + 1) 26 4 (l.length + 1) (bcs l ++ x.cs), SL.pu 42 [] (.pointer (some ⟨w1.heap.size, 1, none⟩)),
            SL.boxAtIn 7 [8, 9, 11] [8, 11] w1.heap.size 24 (w1.heap.size + 1) 26 4 (l.length + 1) (bcs l ++ x.cs) (fun u => #[.int .i64 p, u]),
            SL.boxAt 7 [] [] w1.heap.size 24 #[.int .i64 p, v], SL.rowV (w1.heap.size + 1) 26 4 l.length v (bcs l)] [10] (by kernel_rfl) (by kernel_rfl) _
            (SL.br_held (N := w1.heap.size) (l := v.ownBlock.toList) rfl rfl rfl ⟨rfl, h2, rfl⟩ ⟨hown, rfl⟩ (by omega) (fun k hk => (hvb k hk).2)) (SL.br_apart (fun h => by have := (hvb _ h).1; omega)) ?_ ?_
          · refine ⟨?_, ?_, ?_, ?_, ?_, ?_, ?_, ?_, ?_, ?_, ?_, trivial⟩
            all_goals refine SL.ob fun us w' Fe hG hu hd hv K hK => ?_
            all_goals simp [SL.frame, SL.put', SL.Used, SL.Seen, SL.pu, SL.row, SL.box, SL.rowIn, SL.boxIn, SL.boxAt, SL.boxAtIn, Bd.v, Bd.cs, SL.rowV] at hu hv hK ⊢
            all_goals (have hsz := hG.size; simp only [World.size_drew] at hsz)
            all_goals (have hcc := hG.undrew.cellsE.1)
            all_goals (have r1 : w'.cell? ⟨w.heap.size, 1, none⟩ = some (.slice (some ⟨b, off, none⟩) bs.length cap) := (hcc _ _ (by omega) (hnm _ (by omega))).trans c1)
            all_goals (have e0 := (hcc _ _ (by omega) (hnm _ (by omega))).trans d0)
            all_goals (have e1 := (hcc _ _ (by omega) (hnm _ (by omega))).trans d1)
            all_goals (have e2 := (hcc _ _ (by omega) (hnm _ (by omega))).trans d2)
            all_goals (have e3 := (hcc _ _ (by omega) (hnm _ (by omega))).trans d3)
            all_goals clear hcc d0 d1 d2 d3 c1 c20 c21 c10 c11 f1 f2
            all_goals try (go_step; refine hK _ _ _ _ (by simp [Act.put, *]; done) (SL.Chg.refl _ _) rfl rfl (by simp))
            · obtain ⟨⟨u1, _⟩, _, u4, _⟩ := hu
              have y1 := (SL.cells_of u4).1 1
              simp at y1
              go_step
              refine hK _ _ _ _ (by simp [Act.put, *]; done) (SL.Chg.refl _ _) rfl rfl (by simp)
            · go_step
              refine hK _ _ _ _ (by simp [Act.put, *]; done) (.alloc _ _ _) (World.ownsRow_lit w' _ 1 (by omega) (by decide) rfl) rfl (by simp [Value.ownBlock])
            · obtain ⟨⟨u1, _⟩, ⟨u2, u3⟩, u4, u5⟩ := hu
              obtain ⟨sa, c', hsl, _⟩ := owns_slice u2
              refine wp_app elemB _ _ rfl u4 u1 hsl (RowAt.of_owns (hsl ▸ u2)) (m := 1) rfl (by simp [Value.oneCell']) (by unfold maxLen; omega) (by omega) (by omega) ?_
              intro v' w2 ho hg hb9 _ hat
              refine hK _ v' w2 _ rfl ?_ ho rfl ?_
              · exact .of_own hg (by rw [u5]; simp)
              · rw [u5]; exact SL.app_bounds u4 ho hat
            · obtain ⟨⟨u2, u3⟩, ⟨u6, _⟩, hu4, u4, u5⟩ := hu
              obtain ⟨sa, c', hsl, _⟩ := owns_slice u2
              have y1 := (SL.cells_of u4).1 1
              have g0 := (SL.cells_of u4).2
              simp at y1
              have hne : w1.heap.size ∉ (Value.slice sa (l.length + 1) c').ownBlock.toList := fun h => by have := (SL.row_bounds (hsl ▸ u2) _ h).1; omega
              rw [hsl] at u2 u3
              go_step
              refine hK _ undef _ _ (by simp [Act.put, *]; done) (.setCell _ (by simp [u5]) _) hu4 _ (SL.heap_set u4 _) (SL.row_set u2 hne _) rfl ?_
              rw [u5, u3]; simp; exact fun k h => .inl (.inl h)
          · intro us w' Fs hG hu hbd hd
            simp [SL.frame, SL.put', SL.Used, SL.Seen, SL.pu, SL.row, SL.box, SL.rowIn, SL.boxIn, SL.boxAt, SL.boxAtIn, Bd.v, Bd.cs, SL.rowV] at hu ⊢
            obtain ⟨u4, y, hh, ho, hF⟩ := hu
            have hsz := hG.size
            simp only [World.size_drew] at hsz
            clear c1 c20 c21 c10 c11 f1 f2 d0 d1 d2 d3
            go_wp2
            go_roundw
            case rel =>
              refine ⟨j + 1, by omega, by go_num, hB.trans (hG.belowF (by have := hB.size; omega) (fun k hk => ?_)), by omega, y, hh, ?_⟩
              · rcases List.mem_cons.1 hk with e | e
                · omega
                · have := (hvb _ e).1; omega
              · rw [HYes.out, bcs_append]
                simpa [bcs, Bd.cs] using ho
            case measure => simp [intOf]; omega
        · have hno : (x.bid != by_) = false := by simpa using hyes
          have HNo := Lib.hid (Hno.out (by rw [HqX.out]; exact hno))
          go_wp2_with fail
          go_roundw
          case rel => exact ⟨j + 1, by omega, by go_num, hB, hz, v, h2, by rw [HNo.out]; exact hown⟩
          case measure => simp [intOf]; omega
      · rw [List.take_of_length_le (by omega)] at hown
        obtain ⟨sa, sc, rfl, _⟩ := owns_slice hown
        go_wp2_with fail
        refine bodyPost_ret (v := .tuple #[.agg #[.int .i64 p, .slice sa (bs.filter q).length sc], .int .i64 0]) (by simp [results, Tryz.results15, go_sem, *]) rfl ⟨_, rfl, ?_, ?_⟩
        · exact ((hB1.trans (hB.mono (by omega))).setCell (by simp) _).setCell (by simp) _
        · have hne : w.heap.size + 1 ∉ (Value.slice sa (bs.filter q).length sc).ownBlock.toList := fun h => by have := (SL.row_bounds hown _ h).1; omega
          exact SL.row_base (SL.row_set (SL.row_set hown hne _) hne _) (by omega)
  · have h0' : (chk p bs == 0) = false := by simpa using h0
    simp only [if_neg h0] at ⊢
    generalize chk p bs = ce at *
    go_enter Tryz.func15, Tryz.ntmps15
    go_wp2_with (go_at_call 11; refine (hC).mono ?_; rintro e w1 ⟨rfl, hb1⟩; obtain ⟨hc1, hf1⟩ := bcell hb1; have hz1a := lt_size hb1 (b := w.heap.size) (by first | assumption | omega | (simp; done) | (simp; omega)); have hz1b := lt_size hb1 (b := w.heap.size+1) (by first | assumption | omega | (simp; done) | (simp; omega)))
    have hz1 := hb1.size
    simp only [World.size_alloc] at hz1
    refine bodyPost_ret (v := .tuple #[.agg #[.int .i64 0, .slice none 0 0], .int .i64 ce]) (by simp [results, Tryz.results15, go_sem, *]) rfl ⟨_, rfl, ?_, World.ownsRow_nil _ _ _ _⟩
    exact (hB2.trans (hb1.mono (by simp; omega))).setCell (by simp) _ |>.setCell (by simp) _
end Go.Proofs.YtlkcfohmoeadbaaGreat
