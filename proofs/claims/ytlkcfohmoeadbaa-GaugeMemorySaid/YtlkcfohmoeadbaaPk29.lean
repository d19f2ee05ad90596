/-
  Lemmas and walks for the laws on bounds and their sums; the parts' own heads say what each proves, for every input.
-/
import Derived.Test.YtlkcfohmoeadbaaPk19
import Derived.Test.YtlkcfohmoeadbaaPk26
import Derived.Test.YtlkcfohmoeadbaaPk28
set_option linter.unusedSimpArgs false
set_option linter.unusedVariables false
set_option linter.unnecessarySimpa false
/-
  The reference of layer 1, walked: SameSystem, of two systems that are the same.
-/
namespace Go.Proofs.Ytlkcfohmoeadbaa
open Go.RowKit Go.Shelf
set_option maxHeartbeats 1000000
set_option maxRecDepth 100000

theorem eqBd (w : World) (b : Bd) : (Op.equalIn 10000 39 (.agg #[.int .i64 b.frm, .int .i64 b.tow, .int .i64 b.most, .int .i64 b.bid]) (.agg #[.int .i64 b.frm, .int .i64 b.tow, .int .i64 b.most, .int .i64 b.bid])).run Try.prog w = .ok true w := by
  rw [show (10000 : Nat) = 9999 + 1 from rfl, run_equalIn_struct w 9999 _ _ _ (by kernel_rfl) (by kernel_rfl)]
  simp [go_sem, Op.eqFields, Program.fieldsOf, Try.underlying39, Try.underlying3]
theorem gdBd : Try.prog.eqGuardType Try.prog.depth 39 = false := by kernel_rfl

theorem rsamesys_yes (p : Int) (a1 a2 : Option Addr) (n1 n2 c1 c2 : Nat) (bs : List Bd) (w : World) (h1 : BdsAt w a1 n1 c1 bs) (h2 : BdsAt w a2 n2 c2 bs) :
    Calls Try.prog 48 #[.agg #[.int .i64 p, .slice a1 n1 c1], .agg #[.int .i64 p, .slice a2 n2 c2]] w fun e w' => e = .returned (.bool true) ∧ Below w.heap.size w w' := by
  have hl := h1.small
  obtain rfl := h1.len
  obtain rfl := h2.len
  have np : (p != p) = false := by simp
  have nl : ((bs.length : Int) != (bs.length : Int)) = false := by simp
  have hB2 : Below w.heap.size w ((w.alloc (Obj.cells #[.int .i64 p, .slice a1 bs.length c1] 24)).alloc (Obj.cells #[.int .i64 p, .slice a2 bs.length c2] 24)) := by ((repeat (first | assumption | exact Below.refl _ _ | refine Below.alloc ?_ ?_ _ | refine Below.setCell ?_ ?_ _ | refine Below.drew ?_ | refine belowN ?_ | refine Below.up ?_ (by assumption) ?_)) <;> (first | assumption | omega | (simp; done) | (simp; omega)))
  go_enter Try.func48, Try.ntmps48
  go_wp2_with fail
  go_loopw [5] (fun i wr => ∃ k : Nat, k ≤ bs.length ∧ i = .int .i64 k ∧ Below w.heap.size w wr ∧ wr.cell? ⟨w.heap.size, 1, none⟩ = some (.slice a1 bs.length c1) ∧ wr.cell? ⟨w.heap.size + 1, 1, none⟩ = some (.slice a2 bs.length c2)) (fun i _ => bs.length - (intOf i).toNat)
  case atStart => exact ⟨0, Nat.zero_le _, rfl, hB2, by simp [go_sem], by simp [go_sem]⟩
  case round =>
    obtain ⟨k, hk, rfl, hB, q1, q2⟩ := hrel
    by_cases hlt : k < bs.length
    · obtain ⟨b1, o1, rfl, _, d0, d1, d2, d3⟩ := (h1.below hB).get hlt
      obtain ⟨b2, o2, rfl, _, e0, e1, e2, e3⟩ := (h2.below hB).get hlt
      have hnn : (0 : Int) ≤ k := by omega
      have i1 : (k : Int) < (bs.length : Int) := by omega
      have hq := fun w => eqBd w (bs.getD k default)
      have gd := gdBd
      generalize bs.getD k default = x at *
      go_wp2_with fail
      go_quiet (fail)
      go_wp2
      go_roundw
      case rel => exact ⟨k + 1, by omega, by go_num, belowN hB, by simpa [go_sem] using q1, by simpa [go_sem] using q2⟩
      case measure => simp [intOf]; omega
    · go_wp2_with fail
      go_ret
      exact ⟨rfl, hB⟩
end Go.Proofs.Ytlkcfohmoeadbaa

/-
  The reference of layer 1, walked: Without.
-/
namespace Go.Proofs.Ytlkcfohmoeadbaa
open Go.RowKit Go.Shelf
set_option maxHeartbeats 4000000
set_option maxRecDepth 100000

theorem rWithout_any (p : Int) (a : Option Addr) (n cap : Nat) (bs : List Bd) (by_ : Int) (w : World) (hb : BdsAt w a n cap bs) :
    Calls Try.prog 46 #[.agg #[.int .i64 p, .slice a n cap], .int .i64 by_] w fun e w' => ∃ v, e = .returned (.tuple #[.agg #[.int .i64 (if chk p bs = 0 then p else 0), v], .int .i64 (chk p bs)]) ∧ Below w.heap.size w w' ∧
      w'.ownsRow w.heap.size 39 4 v (if chk p bs = 0 then bs.filter (fun b => b.bid != by_) else []).length (bcs (if chk p bs = 0 then bs.filter (fun b => b.bid != by_) else [])) := by
  have hB2 : Below w.heap.size w ((w.alloc (Obj.cells #[.int .i64 p, .slice a n cap] 24)).alloc (Obj.cells #[.int .i64 0, .slice none 0 0] 24)) := by ((repeat (first | assumption | exact Below.refl _ _ | refine Below.alloc ?_ ?_ _ | refine Below.setCell ?_ ?_ _ | refine Below.drew ?_ | refine belowN ?_ | refine Below.up ?_ (by assumption) ?_)) <;> (first | assumption | omega | (simp; done) | (simp; omega)))
  have hbx := hb.below hB2
  have hC := rcheck_any p a n cap bs _ hbx
  by_cases h0 : chk p bs = 0
  · have hs := chk_400 h0
    simp only [h0, if_true] at hC ⊢
    obtain rfl := hb.len
    generalize hq : (fun b : Bd => b.bid != by_) = q at *
    have Hq := Lib.hid (show ∀ x : Bd, q x = (x.bid != by_) from fun x => by rw [← hq])
    clear hq
    go_enter Try.func46, Try.ntmps46
    go_wp2_with (go_at_call 65; refine (hC).mono ?_; rintro e w1 ⟨rfl, hb1⟩; obtain ⟨hc1, hf1⟩ := bcell hb1; have hz1a := lt_size hb1 (b := w.heap.size) (by first | assumption | omega | (simp; done) | (simp; omega)); have hz1b := lt_size hb1 (b := w.heap.size+1) (by first | assumption | omega | (simp; done) | (simp; omega)))
    have hz1 := hb1.size
    simp only [World.size_alloc] at hz1
    have hB1 : Below w.heap.size w w1 := hB2.trans (hb1.mono (by simp; omega))
    have k1 : w1.heap[w.heap.size + 1]? = some (.cells #[.int .i64 0, .slice none 0 0] 24 (0, 0)) := (hb1.block _ (by simp)).trans (heap_alloc2_new _ _ _)
    have k0 : w1.cell? ⟨w.heap.size, 1, none⟩ = some (.slice a bs.length cap) := by rw [hc1 _ _ (by simp; omega)]; simp [go_sem]
    have hbw := hb.below hB1
    have hax : ∀ z, a = some z → z.block < w.heap.size := fun z hz => (hb.at_ z hz).2.1
    clear hc1 hf1 hC
    go_loopw [8] (fun i wr => ∃ k : Nat, k ≤ bs.length ∧ i = .int .i64 k ∧ Below w1.heap.size w1 wr ∧ w1.heap.size + 1 ≤ wr.heap.size ∧ ∃ v, wr.heap[w1.heap.size]? = some (.cells #[.int .i64 p, v] 24 (0,0)) ∧ wr.ownsRow (w1.heap.size + 1) 39 4 v ((bs.take k).filter q).length (bcs ((bs.take k).filter q))) (fun i _ => bs.length - (intOf i).toNat)
    case atStart =>
      refine ⟨0, Nat.zero_le _, rfl, by ((repeat (first | assumption | exact Below.refl _ _ | refine Below.alloc ?_ ?_ _ | refine Below.setCell ?_ ?_ _ | refine Below.drew ?_ | refine belowN ?_ | refine Below.up ?_ (by assumption) ?_)) <;> (first | assumption | omega | (simp; done) | (simp; omega))), by simp, .slice none 0 0, World.alloc_heap_new _ _, World.ownsRow_nil _ _ _ _⟩
    case round =>
      obtain ⟨j, hj, rfl, hB, hz, v, h2, hown⟩ := hrel
      obtain ⟨a2, f2⟩ := SL.cells_of h2
      have c20 := a2 0
      have c21 := a2 1
      simp at c20 c21
      clear a2
      have c1 : wr.cell? ⟨w.heap.size, 1, none⟩ = some (.slice a bs.length cap) := ((bcell hB).1 _ _ (by omega)).trans k0
      have h1 := (hB.block (w.heap.size + 1) (by omega)).trans k1
      obtain ⟨a1, f1⟩ := SL.cells_of h1
      have c10 := a1 0
      have c11 := a1 1
      simp at c10 c11
      clear a1
      by_cases hlt : j < bs.length
      · obtain ⟨b, off, rfl, hbl, d0, d1, d2, d3⟩ := (hbw.below hB).get hlt
        have hbl' := hax _ rfl
        simp only at hbl'
        have Hyes := Lib.hid (filter_take_yes (q := q) hlt)
        have Hno := Lib.hid (filter_take_no (q := q) hlt)
        have hL := filter_take_len q bs j
        have hqx := Hq.out (bs.getD j default)
        generalize hxx : bs.getD j default = x at *
        clear hxx
        generalize hl : (bs.take j).filter q = l at *
        clear hl
        have HqX := Lib.hid hqx
        clear hqx
        by_cases hyes : (x.bid != by_) = true
        · have HYes := Lib.hid (Hyes.out (by rw [HqX.out]; exact hyes))
          go_wp2_with fail
          have hvb := SL.row_bounds hown
          have hnm : ∀ k, k < w1.heap.size → k ∉ w1.heap.size :: v.ownBlock.toList := fun k hk h => by
            rcases List.mem_cons.1 h with e | e
            · omega
            · have := (hvb _ e).1; omega
          refine SL.rule (by kernel_rfl) (w1.heap.size :: v.ownBlock.toList) [33, 34, 35, 36, 37, 38, 39, 40, 41, 42] [
            SL.pu 33 [] (.pointer (some ⟨w1.heap.size, 1, none⟩)), SL.pu 34 [0, 11] v, SL.pu 35 [] (.pointer (some ⟨w.heap.size, 1, none⟩)), SL.pu 36 [2] (.slice (some ⟨b, off, none⟩) bs.length cap), SL.pu 37 [] (.int .i64 j), SL.pu 38 [3, 4] (.pointer (some ⟨b, off + j * 4, none⟩)), SL.pu 39 [5] x.v,
            SL.row 40 [6] [] (w1.heap.size + 1) 39 4 1 x.cs, SL.row 41 [1, 7, 12] [12] (w1.heap.size + 1) 39 4 (l.length + 1) (bcs l ++ x.cs), SL.pu 42 [] (.pointer (some ⟨w1.heap.size, 1, none⟩)),
            SL.boxAtIn 7 [8, 9, 11] [8, 11] w1.heap.size 24 (w1.heap.size + 1) 39 4 (l.length + 1) (bcs l ++ x.cs) (fun u => #[.int .i64 p, u]),
            SL.boxAt 7 [] [] w1.heap.size 24 #[.int .i64 p, v], SL.rowV (w1.heap.size + 1) 39 4 l.length v (bcs l)] [10] (by kernel_rfl) (by kernel_rfl) _
            (SL.br_held (N := w1.heap.size) (l := v.ownBlock.toList) rfl rfl rfl ⟨rfl, h2, rfl⟩ ⟨hown, rfl⟩ (by omega) (fun k hk => (hvb k hk).2)) (SL.br_apart (fun h => by have := (hvb _ h).1; omega)) ?_ ?_
          · refine ⟨?_, ?_, ?_, ?_, ?_, ?_, ?_, ?_, ?_, ?_, ?_, trivial⟩
            all_goals refine SL.ob fun us w' Fe hG hu hd hv K hK => ?_
            all_goals simp [SL.frame, SL.put', SL.Used, SL.Seen, SL.pu, SL.row, SL.box, SL.rowIn, SL.boxIn, SL.boxAt, SL.boxAtIn, Bd.v, Bd.cs, SL.rowV] at hu hv hK ⊢
            all_goals (have hsz := hG.size; simp only [World.size_drew] at hsz)
            all_goals (have hcc := hG.undrew.cellsE.1)
            all_goals (have r1 : w'.cell? ⟨w.heap.size, 1, none⟩ = some (.slice (some ⟨b, off, none⟩) bs.length cap) := (hcc _ _ (by omega) (hnm _ (by omega))).trans c1)
            all_goals (have e0 := (hcc _ _ (by omega) (hnm _ (by omega))).trans d0)
            all_goals (have e1 := (hcc _ _ (by omega) (hnm _ (by omega))).trans d1)
            all_goals (have e2 := (hcc _ _ (by omega) (hnm _ (by omega))).trans d2)
            all_goals (have e3 := (hcc _ _ (by omega) (hnm _ (by omega))).trans d3)
            all_goals clear hcc d0 d1 d2 d3 c1 c20 c21 c10 c11 f1 f2
            all_goals try (go_step; refine hK _ _ _ _ (by simp [Act.put, *]; done) (SL.Chg.refl _ _) rfl rfl (by simp))
            · obtain ⟨⟨u1, _⟩, _, u4, _⟩ := hu
              have y1 := (SL.cells_of u4).1 1
              simp at y1
              go_step
              refine hK _ _ _ _ (by simp [Act.put, *]; done) (SL.Chg.refl _ _) rfl rfl (by simp)
            · go_step
              refine hK _ _ _ _ (by simp [Act.put, *]; done) (.alloc _ _ _) (World.ownsRow_lit w' _ 1 (by omega) (by decide) rfl) rfl (by simp [Value.ownBlock])
            · obtain ⟨⟨u1, _⟩, ⟨u2, u3⟩, u4, u5⟩ := hu
              obtain ⟨sa, c', hsl, _⟩ := owns_slice u2
              refine wp_app elemB _ _ rfl u4 u1 hsl (RowAt.of_owns (hsl ▸ u2)) (m := 1) rfl (by simp [Value.oneCell']) (by unfold maxLen; omega) (by omega) (by omega) ?_
              intro v' w2 ho hg hb9 _ hat
              refine hK _ v' w2 _ rfl ?_ ho rfl ?_
              · exact .of_own hg (by rw [u5]; simp)
              · rw [u5]; exact SL.app_bounds u4 ho hat
            · obtain ⟨⟨u2, u3⟩, ⟨u6, _⟩, hu4, u4, u5⟩ := hu
              obtain ⟨sa, c', hsl, _⟩ := owns_slice u2
              have y1 := (SL.cells_of u4).1 1
              have g0 := (SL.cells_of u4).2
              simp at y1
              have hne : w1.heap.size ∉ (Value.slice sa (l.length + 1) c').ownBlock.toList := fun h => by have := (SL.row_bounds (hsl ▸ u2) _ h).1; omega
              rw [hsl] at u2 u3
              go_step
              refine hK _ undef _ _ (by simp [Act.put, *]; done) (.setCell _ (by simp [u5]) _) hu4 _ (SL.heap_set u4 _) (SL.row_set u2 hne _) rfl ?_
              rw [u5, u3]; simp; exact fun k h => .inl (.inl h)
          · intro us w' Fs hG hu hbd hd
            simp [SL.frame, SL.put', SL.Used, SL.Seen, SL.pu, SL.row, SL.box, SL.rowIn, SL.boxIn, SL.boxAt, SL.boxAtIn, Bd.v, Bd.cs, SL.rowV] at hu ⊢
            obtain ⟨u4, y, hh, ho, hF⟩ := hu
            have hsz := hG.size
            simp only [World.size_drew] at hsz
            clear c1 c20 c21 c10 c11 f1 f2 d0 d1 d2 d3
            go_wp2
            go_roundw
            case rel =>
              refine ⟨j + 1, by omega, by go_num, hB.trans (hG.belowF (by have := hB.size; omega) (fun k hk => ?_)), by omega, y, hh, ?_⟩
              · rcases List.mem_cons.1 hk with e | e
                · omega
                · have := (hvb _ e).1; omega
              · rw [HYes.out, bcs_append]
                simpa [bcs, Bd.cs] using ho
            case measure => simp [intOf]; omega
        · have hno : (x.bid != by_) = false := by simpa using hyes
          have HNo := Lib.hid (Hno.out (by rw [HqX.out]; exact hno))
          go_wp2_with fail
          go_roundw
          case rel => exact ⟨j + 1, by omega, by go_num, hB, hz, v, h2, by rw [HNo.out]; exact hown⟩
          case measure => simp [intOf]; omega
      · rw [List.take_of_length_le (by omega)] at hown
        obtain ⟨sa, sc, rfl, _⟩ := owns_slice hown
        go_wp2_with fail
        refine bodyPost_ret (v := .tuple #[.agg #[.int .i64 p, .slice sa (bs.filter q).length sc], .int .i64 0]) (by simp [results, Try.results46, go_sem, *]) rfl ⟨_, rfl, ?_, ?_⟩
        · exact ((hB1.trans (hB.mono (by omega))).setCell (by simp) _).setCell (by simp) _
        · have hne : w.heap.size + 1 ∉ (Value.slice sa (bs.filter q).length sc).ownBlock.toList := fun h => by have := (SL.row_bounds hown _ h).1; omega
          exact SL.row_base (SL.row_set (SL.row_set hown hne _) hne _) (by omega)
  · have h0' : (chk p bs == 0) = false := by simpa using h0
    simp only [if_neg h0] at ⊢
    generalize chk p bs = ce at *
    go_enter Try.func46, Try.ntmps46
    go_wp2_with (go_at_call 65; refine (hC).mono ?_; rintro e w1 ⟨rfl, hb1⟩; obtain ⟨hc1, hf1⟩ := bcell hb1; have hz1a := lt_size hb1 (b := w.heap.size) (by first | assumption | omega | (simp; done) | (simp; omega)); have hz1b := lt_size hb1 (b := w.heap.size+1) (by first | assumption | omega | (simp; done) | (simp; omega)))
    have hz1 := hb1.size
    simp only [World.size_alloc] at hz1
    refine bodyPost_ret (v := .tuple #[.agg #[.int .i64 0, .slice none 0 0], .int .i64 ce]) (by simp [results, Try.results46, go_sem, *]) rfl ⟨_, rfl, ?_, World.ownsRow_nil _ _ _ _⟩
    exact (hB2.trans (hb1.mono (by simp; omega))).setCell (by simp) _ |>.setCell (by simp) _
end Go.Proofs.Ytlkcfohmoeadbaa

/-
  The reference of layer 1, walked: Beside.
-/
namespace Go.Proofs.Ytlkcfohmoeadbaa
open Go.RowKit Go.Shelf
set_option maxHeartbeats 4000000
set_option maxRecDepth 100000

def bsdE (p : Int) (bs : List Bd) (q : Int) (T : List Bd) : Int := if chk p bs = 0 then (if chk q T = 0 then chk (p + q) (bs ++ shf p T) else chk q T) else chk p bs
def bsdL (p : Int) (bs : List Bd) (q : Int) (T : List Bd) : List Bd := if bsdE p bs q T = 0 then bs ++ shf p T else []
theorem shf_len (p : Int) (T : List Bd) : (shf p T).length = T.length := by simp [shf]
theorem shf_take {p : Int} {T : List Bd} {k : Nat} (hk : k < T.length) : shf p (T.take (k + 1)) = shf p (T.take k) ++ [⟨(T.getD k default).frm + p, (T.getD k default).tow + p, (T.getD k default).most, (T.getD k default).bid⟩] := by
  rw [List.take_succ_eq_append_getElem hk]
  simp only [shf, List.map_append, List.map_cons, List.map_nil, List.getD_eq_getElem?_getD, List.getElem?_eq_getElem hk, Option.getD_some]
theorem own_ne {w : World} {base : Nat} {e : TypeId} {size : Nat} {v : Value} {n : Nat} {xs : List Value} {N : Nat} {cs : Array Value} {t : TypeId} {fr : Nat × Nat} (h : w.ownsRow base e size v n xs) (hN : w.heap[N]? = some (.cells cs t fr)) (hte : t ≠ e) : N ∉ v.ownBlock.toList := by
  obtain ⟨hl, ⟨hv, hn⟩ | ⟨g, cap', cur, hv, hbg, hg, hr⟩⟩ := h
  · subst hv; simp [Value.ownBlock]
  · subst hv
    simp [Value.ownBlock]
    intro e'
    subst e'
    rw [hN] at hg
    cases hg
    exact hte rfl

theorem rBeside_any (p : Int) (a : Option Addr) (n cap : Nat) (bs : List Bd) (q : Int) (a2 : Option Addr) (n2 cap2 : Nat) (T : List Bd) (w : World) (hb : BdsAt w a n cap bs) (hb2 : BdsAt w a2 n2 cap2 T) :
    Calls Try.prog 47 #[.agg #[.int .i64 p, .slice a n cap], .agg #[.int .i64 q, .slice a2 n2 cap2]] w fun e w' => ∃ v, e = .returned (.tuple #[.agg #[.int .i64 (if bsdE p bs q T = 0 then p + q else 0), v], .int .i64 (bsdE p bs q T)]) ∧ Below w.heap.size w w' ∧
      w'.ownsRow w.heap.size 39 4 v (bsdL p bs q T).length (bcs (bsdL p bs q T)) := by
  have hB3 : Below w.heap.size w (((w.alloc (Obj.cells #[.int .i64 p, .slice a n cap] 24)).alloc (Obj.cells #[.int .i64 q, .slice a2 n2 cap2] 24)).alloc (Obj.cells #[.int .i64 0, .slice none 0 0] 24)) := by ((repeat (first | assumption | exact Below.refl _ _ | refine Below.alloc ?_ ?_ _ | refine Below.setCell ?_ ?_ _ | refine Below.drew ?_ | refine belowN ?_ | refine Below.up ?_ (by assumption) ?_)) <;> (first | assumption | omega | (simp; done) | (simp; omega)))
  have hbx := hb.below hB3
  have hbx2 := hb2.below hB3
  have hC := rcheck_any p a n cap bs _ hbx
  have hC2 := fun w1 (h : BdsAt w1 a2 n2 cap2 T) => rcheck_any q a2 n2 cap2 T w1 h
  by_cases h0 : chk p bs = 0
  · by_cases h02 : chk q T = 0
    · have hs := chk_400 h0
      have hs2 := chk_400 h02
      have hp := (Sys.of_chk h0).p2
      have hp1 := (Sys.of_chk h0).p1
      have hq := (Sys.of_chk h02).p2
      have hq1 := (Sys.of_chk h02).p1
      have hin := (Sys.of_chk h02).inr
      have hE : bsdE p bs q T = chk (p + q) (bs ++ shf p T) := by unfold bsdE; rw [if_pos h0, if_pos h02]
      have hL : bsdL p bs q T = if chk (p + q) (bs ++ shf p T) = 0 then bs ++ shf p T else [] := by unfold bsdL; rw [hE]
      rw [hE, hL]
      clear hE hL
      simp only [h0, h02] at hC hC2
      obtain rfl := hb.len
      obtain rfl := hb2.len
      have hC3 := fun w1 a c (h : BdsAt w1 a (bs.length + T.length) c (bs ++ shf p T)) => rcheck_any (p + q) a _ c (bs ++ shf p T) w1 h
      generalize chk (p + q) (bs ++ shf p T) = ce at *
      clear h0 h02
      go_enter Try.func47, Try.ntmps47
      go_wp2_with (first
        | (go_at_call 65; have hg := hb1; clear hg; refine (hC2 _ (hbx2.below hb1)).mono ?_; rintro e w2 ⟨rfl, hb2'⟩; obtain ⟨hc2, hf2⟩ := bcell hb2'; have hz2a := lt_size hb2' (b := w.heap.size) (by first | assumption | omega | (simp; done) | (simp; omega)); have hz2b := lt_size hb2' (b := w.heap.size + 1) (by first | assumption | omega | (simp; done) | (simp; omega)); have hz2c := lt_size hb2' (b := w.heap.size + 1 + 1) (by first | assumption | omega | (simp; done) | (simp; omega)))
        | (go_at_call 65; refine (hC).mono ?_; rintro e w1 ⟨rfl, hb1⟩; obtain ⟨hc1, hf1⟩ := bcell hb1; have hz1a := lt_size hb1 (b := w.heap.size) (by first | assumption | omega | (simp; done) | (simp; omega)); have hz1b := lt_size hb1 (b := w.heap.size+1) (by first | assumption | omega | (simp; done) | (simp; omega)); have hz1c := lt_size hb1 (b := w.heap.size+1+1) (by first | assumption | omega | (simp; done) | (simp; omega))))
      have z1 := hb1.size
      have z2 := hb2'.size
      simp only [World.size_alloc] at z1
      have hB2 : Below w.heap.size w w2 := (hB3.trans (hb1.mono (by simp; omega))).trans (hb2'.mono (by omega))
      have q0 : w2.cell? ⟨w.heap.size, 0, none⟩ = some (.int .i64 p) := by simp [go_sem, *]
      have q1 : w2.cell? ⟨w.heap.size, 1, none⟩ = some (.slice a bs.length cap) := by simp [go_sem, *]
      have q2 : w2.cell? ⟨w.heap.size + 1, 0, none⟩ = some (.int .i64 q) := by simp [go_sem, *]
      have q3 : w2.cell? ⟨w.heap.size + 1, 1, none⟩ = some (.slice a2 T.length cap2) := by simp [go_sem, *]
      have k2 : w2.heap[w.heap.size + 2]? = some (.cells #[.int .i64 0, .slice none 0 0] 24 (0, 0)) := by
        have h := World.alloc_heap_new ((w.alloc (Obj.cells #[.int .i64 p, .slice a bs.length cap] 24)).alloc (Obj.cells #[.int .i64 q, .slice a2 T.length cap2] 24)) (Obj.cells #[.int .i64 0, .slice none 0 0] 24)
        rw [World.size_alloc, World.size_alloc] at h
        exact (hb2'.block _ (by omega)).trans ((hb1.block _ (by simp)).trans h)
      have hbw := hb.below hB2
      have hbw2 := hb2.below hB2
      have hwr : IntKind.i64.wrap (p + q) = p + q := IntWalk.i64_in _ (by omega)
      clear hc1 hf1 hc2 hf2 hC hC2 hbx hbx2
      refine SL.rule (by kernel_rfl) [] [24, 25, 26, 27, 28, 29, 30, 31, 32, 8] [
        SL.pu 24 [] (.pointer (some ⟨w.heap.size, 0, none⟩)), SL.pu 25 [0] (.int .i64 p), SL.pu 26 [] (.pointer (some ⟨w.heap.size + 1, 0, none⟩)), SL.pu 27 [2] (.int .i64 q), SL.pu 28 [1, 3] (.int .i64 (p + q)),
        SL.pu 29 [] (.pointer (some ⟨w.heap.size, 1, none⟩)), SL.pu 30 [5] (.slice a bs.length cap),
        SL.row 31 [6] [] w2.heap.size 39 4 bs.length (bcs bs),
        SL.rowIn 32 [4, 7] [7] w2.heap.size 39 4 bs.length (bcs bs) (fun u => .agg #[.int .i64 (p + q), u]),
        SL.box 8 [] [] w2.heap.size 24 #[.int .i64 0, .slice none 0 0],
        SL.boxIn 8 [8, 9] [8, 9] w2.heap.size 24 39 4 bs.length (bcs bs) (fun u => #[.int .i64 (p + q), u])] [10] (by kernel_rfl) (by kernel_rfl) (fun _ => []) (SL.none_held rfl) (by simp) ?_ ?_
      · refine ⟨?_, ?_, ?_, ?_, ?_, ?_, ?_, ?_, ?_, ?_, ?_, trivial⟩
        all_goals refine SL.ob fun us w' Fe hG hu hd hv K hK => ?_
        all_goals simp [SL.frame, SL.put', SL.Used, SL.Seen, SL.pu, SL.row, SL.box, SL.rowIn, SL.boxIn, SL.boxAt, SL.boxAtIn, Bd.v, Bd.cs] at hu hv hK ⊢
        all_goals obtain ⟨hg1, hg2⟩ := bcell hG.below'
        all_goals (have hsz := hG.size; simp only [World.size_drew] at hsz)
        all_goals (have hG' := hG.undrew)
        all_goals (have r0 := (hg1 _ _ (by omega)).trans q0)
        all_goals (have r1 := (hg1 _ _ (by omega)).trans q1)
        all_goals (have r2 := (hg1 _ _ (by omega)).trans q2)
        all_goals clear hg1 hg2 q0 q1 q2 q3
        all_goals try (go_step; refine hK _ _ _ _ (by simp [Act.put, *]; done) (SL.Chg.refl _ _) rfl rfl (by simp))
        · go_step
          refine (rcopied_any _ _ _ _ _ (hbw.below hG.below') (by omega)).mono ?_
          rintro e w3 ⟨v, rfl, ho2, hb3⟩
          exact hK _ v w3 _ (by simp [Act.put, *]) (.of_below hb3) (SL.row_base ho2 hsz) rfl (SL.row_bounds ho2)
        · obtain ⟨⟨u1, _⟩, u2, u3⟩ := hu
          obtain ⟨sa, c, hsl, _⟩ := owns_slice u2
          go_step
          refine hK _ _ _ _ (by simp [Act.put, *]; done) (.refl _ _) _ rfl (hsl ▸ u2) rfl ?_
          rw [u3]; simp [hsl]; exact fun k h => .inl h
        · go_step
          refine hK _ _ _ _ (by simp [Act.put, *]; done) (.alloc _ _ _) _ rfl hsz (heap_alloc_new w' _) rfl (by simp)
        · obtain ⟨⟨u, hu1, u2, u3⟩, N, hu4, hN, u4, u5⟩ := hu
          have hNl : N < w'.heap.size := (Array.getElem?_eq_some_iff.1 u4).1
          obtain ⟨sa, c, hsl, _⟩ := owns_slice u2
          subst hsl
          have c0 := (SL.cells_of u4).1 0
          have c1 := (SL.cells_of u4).1 1
          have f0 := (SL.cells_of u4).2
          simp at c0 c1
          have hne := own_ne u2 u4 (by decide)
          go_step
          refine hK _ undef _ _ (by simp [Act.put, *]; done) (.trans (.setCell _ (by simp [u5]) _) (.setCell _ (by simp [u5]) _)) N hu4 hN _ (SL.heap_set (SL.heap_set u4 _) _) (SL.row_set (SL.row_set u2 hne _) hne _) rfl ?_
          rw [u5, u3]; simp; exact fun k h => .inl (.inl h)
      · intro us w3 Fs hG hu hbd hd
        simp [SL.frame, SL.put', SL.Used, SL.Seen, SL.pu, SL.row, SL.box, SL.rowIn, SL.boxIn, SL.boxAt, SL.boxAtIn, Bd.v, Bd.cs] at hu ⊢
        obtain ⟨N, u7, hN, y, hh, ho, hF⟩ := hu
        clear hbd hd
        have hB23 : Below w2.heap.size w2 w3 := hG.below'
        have z3 := hG.size
        simp only [World.size_drew] at z3
        have hNl : N < w3.heap.size := (Array.getElem?_eq_some_iff.1 hh).1
        simp only [u7]
        have p0 := ((bcell hB23).1 _ _ (by omega)).trans q0
        have p3 := ((bcell hB23).1 _ _ (by omega)).trans q3
        have pk := (hB23.block (w.heap.size + 2) (by omega)).trans k2
        have hax : ∀ z, a2 = some z → z.block < w.heap.size := fun z hz => (hb2.at_ z hz).2.1
        clear u7 hF hG q0 q1 q2 q3 hwr k2 hbw hb1 hb2'
        go_wp2_with fail
        go_loopw [9] (fun i wr => ∃ k : Nat, k ≤ T.length ∧ i = .int .i64 k ∧ Below w2.heap.size w3 wr ∧ ∃ v, wr.heap[N]? = some (.cells #[.int .i64 (p + q), v] 24 (0, 0)) ∧ wr.ownsRow w2.heap.size 39 4 v (bs.length + k) (bcs (bs ++ shf p (T.take k)))) (fun i _ => T.length - (intOf i).toNat)
        case atStart => exact ⟨0, Nat.zero_le _, rfl, Below.refl _ _ |>.mono (by omega), y, hh, by simpa [shf] using ho⟩
        case round =>
          obtain ⟨j, hj, rfl, hB, v, h2, hown⟩ := hrel
          have hBw := hB23.trans hB
          have zr := hBw.size
          obtain ⟨aN, fN⟩ := SL.cells_of h2
          have cN0 := aN 0
          have cN1 := aN 1
          simp at cN0 cN1
          clear aN
          have c0 := ((bcell hB).1 _ _ (by omega)).trans p0
          have c3 := ((bcell hB).1 _ _ (by omega)).trans p3
          have hNr : N < wr.heap.size := (Array.getElem?_eq_some_iff.1 h2).1
          have s0 : w.heap.size < wr.heap.size := by omega
          have s1 : w.heap.size + 1 < wr.heap.size := by omega
          have s2 : w.heap.size + 1 + 1 < wr.heap.size := by omega
          by_cases hlt : j < T.length
          · obtain ⟨b, off, rfl, hbl, d0, d1, d2, d3⟩ := (hbw2.below hBw).get hlt
            have hin' := hin _ (getD_mem hlt)
            obtain ⟨f0, f1, t0, t1, _, _⟩ := hin'
            have Hs := Lib.hid (shf_take (p := p) hlt)
            generalize T.getD j default = x at *
            have hnv := own_ne hown h2 (by decide)
            have hBt : Below wr.heap.size wr ((wr.alloc (Obj.cells #[.int .i64 (x.frm + p), .int .i64 (x.tow + p), .int .i64 x.most, .int .i64 x.bid] 39)).alloc (Obj.cells #[.int .i64 (x.frm + p), .int .i64 (x.tow + p), .int .i64 x.most, .int .i64 x.bid] 39)) := ((Below.refl _ _).alloc (Nat.le_refl _) _).alloc (by simp) _
            have hnew : ((wr.alloc (Obj.cells #[.int .i64 (x.frm + p), .int .i64 (x.tow + p), .int .i64 x.most, .int .i64 x.bid] 39)).alloc (Obj.cells #[.int .i64 (x.frm + p), .int .i64 (x.tow + p), .int .i64 x.most, .int .i64 x.bid] 39)).heap[wr.heap.size + 1]? = some (.cells #[.int .i64 (x.frm + p), .int .i64 (x.tow + p), .int .i64 x.most, .int .i64 x.bid] 39 (0, 0)) := by
              have h := World.alloc_heap_new (wr.alloc (Obj.cells #[.int .i64 (x.frm + p), .int .i64 (x.tow + p), .int .i64 x.most, .int .i64 x.bid] 39)) (Obj.cells #[.int .i64 (x.frm + p), .int .i64 (x.tow + p), .int .i64 x.most, .int .i64 x.bid] 39)
              rw [World.size_alloc] at h
              exact h
            have HN := Lib.hid hnew
            clear hnew
            have hunew := hown.up hBt (Nat.le_refl _)
            go_wp2_with (at_builtin; refine wpList_app elemB rfl _ _ rfl hunew rfl rfl (RowAt.of_heap HN.out) (m := 1) rfl (by simp [Value.oneCell']) ?_ ?_ ?_ ?_)
            · unfold maxLen; omega
            · omega
            · simp; omega
            · intro v' w4 ho4 hg4 hb4 _ _
              have hB4 : Below w2.heap.size wr w4 := (hBt.mono (by omega)).trans hb4
              have h24 : w4.heap[N]? = some (.cells #[.int .i64 (p + q), v] 24 (0, 0)) := by
                have e := hg4.block N (by simp; omega) (fun e => hnv (by rw [← e]; simp))
                exact e.trans ((hBt.block N hNr).trans h2)
              obtain ⟨aM, fM⟩ := SL.cells_of h24
              have cM0 := aM 0
              have cM1 := aM 1
              simp at cM0 cM1
              clear aM cN0 cN1 fN
              obtain ⟨sa, sc, rfl, _⟩ := owns_slice ho4
              have hne4 := own_ne ho4 h24 (by decide)
              go_wp2
              go_roundw
              case rel =>
                refine ⟨j + 1, by omega, by go_num, hB.trans (hB4.setCell (by simp; omega) _), _, SL.heap_set h24 _, ?_⟩
                have e5 : bcs (bs ++ shf p (T.take (j + 1))) = bcs (bs ++ shf p (T.take j)) ++ [.int .i64 (x.frm + p), .int .i64 (x.tow + p), .int .i64 x.most, .int .i64 x.bid] := by
                  rw [Hs.out, ← List.append_assoc, bcs_append (bs ++ _)]; simp [bcs, Bd.cs]
                rw [e5]
                exact SL.row_set ho4 hne4 _
              case measure => simp [intOf]; omega
          · rw [List.take_of_length_le (by omega)] at hown
            obtain rfl : j = T.length := by omega
            obtain ⟨sa, sc, rfl, _⟩ := owns_slice hown
            have hbU := BdsAt.of_owns hown (by simp [shf]; omega)
            have hC3' := hC3 _ _ _ hbU
            have hkr := (hB.block (w.heap.size + 2) (by omega)).trans pk
            obtain ⟨aR, fR⟩ := SL.cells_of hkr
            have cR0 := aR 0
            have cR1 := aR 1
            simp at cR0 cR1
            clear aR
            have hnR := own_ne hown hkr (by decide)
            generalize hUd : bs ++ shf p T = U at *
            by_cases hce : ce = 0
            · subst hce
              go_wp2_with (go_at_call 65; refine hC3'.mono ?_; rintro e w4 ⟨rfl, hb4⟩; obtain ⟨hc4, hf4⟩ := bcell hb4; have hz4 := hb4.size; have s4 : w.heap.size + 1 + 1 < w4.heap.size := (by omega); have s5 : N < w4.heap.size := (by omega))
              refine bodyPost_ret (v := .tuple #[.agg #[.int .i64 (p + q), .slice sa (bs.length + T.length) sc], .int .i64 0]) (by simp [results, Try.results47, go_sem, *]) rfl ⟨_, by simp; rfl, ?_, ?_⟩
              · exact (((hB2.trans (hBw.mono (by omega))).trans (hb4.mono (by omega))).setCell (by simp; omega) _).setCell (by simp; omega) _
              · have hl : U.length = bs.length + T.length := by rw [← hUd]; simp [shf]
                try rw [if_pos rfl]
                rw [hl]
                exact SL.row_base (SL.row_set (SL.row_set (hown.up hb4 (Nat.le_refl _)) hnR _) hnR _) (by omega)
            · have hce' : (ce == 0) = false := by simpa using hce
              go_wp2_with (go_at_call 65; refine hC3'.mono ?_; rintro e w4 ⟨rfl, hb4⟩; obtain ⟨hc4, hf4⟩ := bcell hb4; have hz4 := hb4.size; have s4 : w.heap.size + 1 + 1 < w4.heap.size := (by omega); have s5 : N < w4.heap.size := (by omega))
              refine bodyPost_ret (v := .tuple #[.agg #[.int .i64 0, .slice none 0 0], .int .i64 ce]) (by simp [results, Try.results47, go_sem, *]) rfl ⟨_, rfl, ?_, World.ownsRow_nil _ _ _ _⟩
              exact (((hB2.trans (hBw.mono (by omega))).trans (hb4.mono (by omega))).setCell (by simp; omega) _).setCell (by simp; omega) _
    · have h02' : (chk q T == 0) = false := by simpa using h02
      have hE : bsdE p bs q T = chk q T := by unfold bsdE; rw [if_pos h0, if_neg h02]
      have hL : bsdL p bs q T = [] := by unfold bsdL; rw [hE, if_neg h02]
      rw [hE, hL, if_neg h02]
      clear hE hL
      simp only [h0] at hC
      generalize chk q T = ce at *
      go_enter Try.func47, Try.ntmps47
      go_wp2_with (first
        | (go_at_call 65; have hg := hb1; clear hg; refine (hC2 _ (hbx2.below hb1)).mono ?_; rintro e w2 ⟨rfl, hb2'⟩; obtain ⟨hc2, hf2⟩ := bcell hb2'; have hz2a := lt_size hb2' (b := w.heap.size) (by first | assumption | omega | (simp; done) | (simp; omega)); have hz2b := lt_size hb2' (b := w.heap.size + 1) (by first | assumption | omega | (simp; done) | (simp; omega)); have hz2c := lt_size hb2' (b := w.heap.size + 1 + 1) (by first | assumption | omega | (simp; done) | (simp; omega)))
        | (go_at_call 65; refine (hC).mono ?_; rintro e w1 ⟨rfl, hb1⟩; obtain ⟨hc1, hf1⟩ := bcell hb1; have hz1a := lt_size hb1 (b := w.heap.size) (by first | assumption | omega | (simp; done) | (simp; omega)); have hz1b := lt_size hb1 (b := w.heap.size+1) (by first | assumption | omega | (simp; done) | (simp; omega)); have hz1c := lt_size hb1 (b := w.heap.size+1+1) (by first | assumption | omega | (simp; done) | (simp; omega))))
      have z1 := hb1.size
      simp only [World.size_alloc] at z1
      refine bodyPost_ret (v := .tuple #[.agg #[.int .i64 0, .slice none 0 0], .int .i64 ce]) (by simp [results, Try.results47, go_sem, *]) rfl ⟨_, rfl, ?_, World.ownsRow_nil _ _ _ _⟩
      exact (((hB3.trans (hb1.mono (by simp; omega))).trans (hb2'.mono (by omega))).setCell (by simp; omega) _).setCell (by simp; omega) _
  · have h0' : (chk p bs == 0) = false := by simpa using h0
    have hE : bsdE p bs q T = chk p bs := by unfold bsdE; rw [if_neg h0]
    have hL : bsdL p bs q T = [] := by unfold bsdL; rw [hE, if_neg h0]
    rw [hE, hL, if_neg h0]
    clear hE hL
    generalize chk p bs = ce at *
    go_enter Try.func47, Try.ntmps47
    go_wp2_with (go_at_call 65; refine (hC).mono ?_; rintro e w1 ⟨rfl, hb1⟩; obtain ⟨hc1, hf1⟩ := bcell hb1; have hz1a := lt_size hb1 (b := w.heap.size) (by first | assumption | omega | (simp; done) | (simp; omega)); have hz1b := lt_size hb1 (b := w.heap.size+1) (by first | assumption | omega | (simp; done) | (simp; omega)); have hz1c := lt_size hb1 (b := w.heap.size+1+1) (by first | assumption | omega | (simp; done) | (simp; omega)))
    have z1 := hb1.size
    simp only [World.size_alloc] at z1
    refine bodyPost_ret (v := .tuple #[.agg #[.int .i64 0, .slice none 0 0], .int .i64 ce]) (by simp [results, Try.results47, go_sem, *]) rfl ⟨_, rfl, ?_, World.ownsRow_nil _ _ _ _⟩
    exact ((hB3.trans (hb1.mono (by simp; omega))).setCell (by simp; omega) _).setCell (by simp; omega) _
end Go.Proofs.Ytlkcfohmoeadbaa
