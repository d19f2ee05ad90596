/-
  Lemmas and walks for the laws on roads and boards: what each function of the program answers, for every input.
-/
import Derived.Test.YtodkbfbbpfghiaaGreatPb07
import Derived.Test.YtodkbfbbpfghiaaGreatPb05
import Derived.Test.YtodkbfbbpfghiaaGreatPb06
import Derived.StillTailTactics
set_option linter.unusedSimpArgs false
set_option linter.unusedVariables false
set_option linter.unnecessarySimpa false
namespace Go.Proofs.YtodkbfbbpfghiaaGreat.SL
open Go Go.RowKit Go.Proofs.YtodkbfbbpfghiaaGreat
/-- The blocks of the words held from the beginning: those behind the n operations' words. -/
def heldL (n : Nat) (Ls : List (List Nat)) : Nat → List Nat := fun i => if i < n then [] else Ls.getD (i - n) []
def HeldAll (a0 : Act) (w : World) (F0 : List Nat) : List Sp → List (List Nat) → Prop
  | x :: xs, L :: Ls => (x.A (a0.tmps.getD x.sub undef) w.drew L ∧ ∀ k ∈ L, k ∈ F0 ∧ k < w.heap.size) ∧ HeldAll a0 w F0 xs Ls
  | [], [] => True
  | _, _ => False
theorem HeldAll.get {a0 : Act} {w : World} {F0 : List Nat} : ∀ {xs : List Sp} {Ls : List (List Nat)} (_ : HeldAll a0 w F0 xs Ls) (i : Nat) (y : Sp), xs[i]? = some y →
    y.A (a0.tmps.getD y.sub undef) w.drew (Ls.getD i []) ∧ ∀ k ∈ Ls.getD i [], k ∈ F0 ∧ k < w.heap.size
  | x :: xs, L :: Ls, h, 0, y, hy => by
    simp at hy
    subst hy
    exact h.1
  | x :: xs, L :: Ls, h, i + 1, y, hy => by
    have := h.2.get i y (by simpa using hy)
    simpa using this
  | [], [], _, i, y, hy => by simp at hy
  | [], _ :: _, h, _, _, _ => h.elim
  | _ :: _, [], h, _, _, _ => h.elim
theorem held_all {ops : List Oper} {Γ : List Sp} {a0 : Act} {w : World} {F0 : List Nat} {Ls : List (List Nat)} (xs : List Sp) (hx : Γ.drop ops.length = xs) (h : HeldAll a0 w F0 xs Ls) :
    ∀ i y, ops.length ≤ i → Γ[i]? = some y → y.A (a0.tmps.getD y.sub undef) w.drew (heldL ops.length Ls i) ∧ ∀ k ∈ heldL ops.length Ls i, k ∈ F0 ∧ k < w.heap.size := by
  intro i y hi hy
  unfold heldL
  rw [if_neg (by omega)]
  refine h.get (i - ops.length) y ?_
  rw [← hx, List.getElem?_drop, ← hy]
  congr 1
  omega
theorem heldL_apart {n : Nat} {Ls : List (List Nat)} (h : Ls.Pairwise fun L M => ∀ k ∈ L, k ∉ M) : ∀ i j, i ≠ j → n ≤ i → n ≤ j → ∀ k ∈ heldL n Ls i, k ∉ heldL n Ls j := by
  have key : ∀ i j, i < j → ∀ k ∈ Ls.getD i [], k ∉ Ls.getD j [] := fun i j hij k hk hk' => by
    by_cases hj : j < Ls.length
    · have := List.pairwise_iff_getElem.1 h i j (by omega) hj hij
      simp only [List.getD_eq_getElem?_getD, List.getElem?_eq_getElem hj, List.getElem?_eq_getElem (show i < Ls.length by omega), Option.getD_some] at hk hk'
      exact this k hk hk'
    · rw [List.getD_eq_getElem?_getD, List.getElem?_eq_none (by omega)] at hk'
      simp at hk'
  intro i j hij hi hj k hk hk'
  unfold heldL at hk hk'
  rw [if_neg (by omega)] at hk hk'
  rcases (by omega : i - n < j - n ∨ j - n < i - n) with h' | h'
  · exact key _ _ h' k hk hk'
  · exact key _ _ h' k hk' hk
end Go.Proofs.YtodkbfbbpfghiaaGreat.SL
namespace Go.Proofs.YtodkbfbbpfghiaaGreat
open Go.RowKit Go.Shelf
set_option maxHeartbeats 4000000
set_option maxRecDepth 100000
theorem BB_few {s : List Pn} (hs : OkS s) (i : Nat) : BB s i ≤ s.length := by
  rcases Nat.lt_or_ge i 1001 with h | h
  · exact Nat.le_trans (BB_mono s (by omega)) (least_le_len hs)
  · rw [BB_top hs h]; exact least_le_len hs
theorem set_get {cs : Array Value} {i j : Nat} {v : Value} (hi : i < cs.size) : (cs.setIfInBounds i v)[j]? = if j = i then some v else cs[j]? := by
  rw [Array.getElem?_setIfInBounds]
  by_cases h : i = j
  · subst h; simp [hi]
  · rw [if_neg h, if_neg (fun e => h e.symm)]
/-- The best sums as they lie in a block: those up to k. -/
structure BestAt (w : World) (N : Nat) (s : List Pn) (k m : Nat) : Prop where
  body : ∃ cs : Array Value, w.heap[N]? = some (.cells cs 3 (0, 0)) ∧ cs.size = 1002 ∧ (∀ i, i ≤ k → cs[i]? = some (.int .i64 (BB s i))) ∧ (k + 1 < 1002 → cs[k + 1]? = some (.int .i64 m))
theorem BestAt.below {w w' : World} {N k m : Nat} {s : List Pn} (h : BestAt w N s k m) (hb : Below w.heap.size w w') : BestAt w' N s k m := by
  obtain ⟨cs, h1, h2, h3, h4⟩ := h.body
  exact ⟨cs, (hb.block _ (Array.getElem?_eq_some_iff.1 h1).1).trans h1, h2, h3, h4⟩
theorem BestAt.lt {w : World} {N k m : Nat} {s : List Pn} (h : BestAt w N s k m) : N < w.heap.size := by
  obtain ⟨cs, h1, _⟩ := h.body
  exact (Array.getElem?_eq_some_iff.1 h1).1
theorem BestAt.get {w : World} {N k m : Nat} {s : List Pn} (h : BestAt w N s k m) {i : Nat} (hi : i ≤ k) : w.cell? ⟨N, i, none⟩ = some (.int .i64 (BB s i)) := by
  obtain ⟨cs, h1, h2, h3, h4⟩ := h.body
  rw [(SL.cells_of h1).1, h3 i hi]
theorem BestAt.top {w : World} {N k m : Nat} {s : List Pn} (h : BestAt w N s k m) (hk : k + 1 < 1002) : w.cell? ⟨N, k + 1, none⟩ = some (.int .i64 m) := by
  obtain ⟨cs, h1, h2, h3, h4⟩ := h.body
  rw [(SL.cells_of h1).1, h4 hk]
theorem BestAt.free {w : World} {N k m : Nat} {s : List Pn} (h : BestAt w N s k m) (i : Nat) : w.frozen? ⟨N, i, none⟩ = false := by
  obtain ⟨cs, h1, _⟩ := h.body
  exact (SL.cells_of h1).2 i
theorem BestAt.set {w : World} {N k m : Nat} {s : List Pn} (h : BestAt w N s k m) (hk : k + 1 < 1002) (m' : Nat) : BestAt (w.setCell ⟨N, k + 1, none⟩ (.int .i64 m')) N s k m' := by
  obtain ⟨cs, h1, h2, h3, h4⟩ := h.body
  refine ⟨cs.setIfInBounds (k + 1) (.int .i64 m'), SL.heap_set h1 _, by simp [h2], fun i hi => ?_, fun _ => ?_⟩
  · rw [set_get (by omega), if_neg (by omega)]; exact h3 i hi
  · rw [set_get (by omega), if_pos rfl]
/-- The same, nothing said of the next. -/
structure BestTo (w : World) (N : Nat) (s : List Pn) (k : Nat) : Prop where
  body : ∃ cs : Array Value, w.heap[N]? = some (.cells cs 3 (0, 0)) ∧ cs.size = 1002 ∧ ∀ i, i ≤ k → cs[i]? = some (.int .i64 (BB s i))
theorem BestAt.next {w : World} {N k : Nat} {s : List Pn} (h : BestAt w N s k (BB s (k + 1))) (hk : k + 1 < 1002) : BestTo w N s (k + 1) := by
  obtain ⟨cs, h1, h2, h3, h4⟩ := h.body
  refine ⟨cs, h1, h2, fun i hi => ?_⟩
  rcases Nat.lt_or_ge i (k + 1) with h | h
  · exact h3 i (by omega)
  · obtain rfl : i = k + 1 := by omega
    exact h4 hk
theorem BestTo.set {w : World} {N k : Nat} {s : List Pn} (h : BestTo w N s k) (hk : k + 1 < 1002) (m' : Nat) : BestAt (w.setCell ⟨N, k + 1, none⟩ (.int .i64 m')) N s k m' := by
  obtain ⟨cs, h1, h2, h3⟩ := h.body
  refine ⟨cs.setIfInBounds (k + 1) (.int .i64 m'), SL.heap_set h1 _, by simp [h2], fun i hi => ?_, fun _ => ?_⟩
  · rw [set_get (by omega), if_neg (by omega)]; exact h3 i hi
  · rw [set_get (by omega), if_pos rfl]
theorem BestTo.get {w : World} {N k : Nat} {s : List Pn} (h : BestTo w N s k) {i : Nat} (hi : i ≤ k) : w.cell? ⟨N, i, none⟩ = some (.int .i64 (BB s i)) := by
  obtain ⟨cs, h1, h2, h3⟩ := h.body
  rw [(SL.cells_of h1).1, h3 i hi]
theorem BestTo.some {w : World} {N k : Nat} {s : List Pn} (h : BestTo w N s k) {i : Nat} (hi : i < 1002) : ∃ v, w.cell? ⟨N, i, none⟩ = some v := by
  obtain ⟨cs, h1, h2, h3⟩ := h.body
  exact ⟨cs[i], by rw [(SL.cells_of h1).1]; simp [h2, hi]⟩
theorem BestTo.free {w : World} {N k : Nat} {s : List Pn} (h : BestTo w N s k) (i : Nat) : w.frozen? ⟨N, i, none⟩ = false := by
  obtain ⟨cs, h1, _⟩ := h.body
  exact (SL.cells_of h1).2 i
theorem BestTo.lt {w : World} {N k : Nat} {s : List Pn} (h : BestTo w N s k) : N < w.heap.size := by
  obtain ⟨cs, h1, _⟩ := h.body
  exact (Array.getElem?_eq_some_iff.1 h1).1
theorem run_make_best (w : World) : (Instr.makeSlice 34 (.int .i64 1002) (.int .i64 1002)).run Tryz.prog w = .ok (.slice (some ⟨w.heap.size, 0, none⟩) 1002 1002) (w.alloc (.cells (madeCells #[.int .i64 0] 1002) 3)) := by
  obtain ⟨i, hi, hz, hs, hb⟩ := info_parts (show (Tryz.prog.info? 3).map (fun i => (i.zero, i.size, i.bytes)) = Option.some (Option.some (.int .i64 0), 1, 8) by kernel_rfl)
  have h := run_make (P := Tryz.prog) (w := w) 34 3 i _ Tryz.underlying34 hi hz .i64 .i64 1002 1002 (by omega) (Int.le_refl _) (by rw [hb]; omega) (by omega)
  rw [hs, Nat.mul_one] at h
  exact h
theorem best_made (w : World) (s : List Pn) : BestTo (w.alloc (.cells (madeCells #[.int .i64 0] 1002) 3)) w.heap.size s 0 := by
  refine ⟨_, World.alloc_heap_new w _, by simp [madeCells], fun i hi => ?_⟩
  obtain rfl : i = 0 := by omega
  rw [BB_zero]
  simp [madeCells]
/-- Some part among the first j ends at h. -/
def endB (s : List Pn) (h j : Nat) : Bool := (s.take j).any fun p => decide (p.hi = (h : Int))
theorem endB_succ {s : List Pn} {h j : Nat} (hj : j < s.length) : endB s h (j + 1) = (endB s h j || decide ((s.getD j default).hi = (h : Int))) := by
  unfold endB
  rw [take_get hj, List.any_append]; simp
def bestJ (s : List Pn) (h j : Nat) : Nat := fmax (fun p => decide (p.lo ≤ (h : Int))) (fun p => BB s p.lo.toNat + dem s p.lo h) (s.take j) (BB s h)
theorem bestJ_succ {s : List Pn} {h j : Nat} (hj : j < s.length) : bestJ s h (j + 1) = if (s.getD j default).lo ≤ (h : Int) then max (bestJ s h j) (BB s (s.getD j default).lo.toNat + dem s (s.getD j default).lo h) else bestJ s h j := by
  unfold bestJ
  rw [take_get hj, fmax_snoc]
  simp
theorem BB_end {s : List Pn} {h : Nat} : BB s (h + 1) = if endB s h s.length then bestJ s h s.length else BB s h := by
  rw [BB_succ]
  unfold stepB endB bestJ
  rw [List.take_length]
theorem bestJ_le {s : List Pn} (hs : OkS s) (h j : Nat) : bestJ s h j ≤ 2 * s.length := by
  unfold bestJ
  have h1 := BB_few hs h
  rcases fmax_cases (c := fun p : Pn => decide (p.lo ≤ (h : Int))) (f := fun p : Pn => BB s p.lo.toNat + dem s p.lo h) (l := s.take j) (m := BB s h) with e | ⟨p, _, _, e⟩
  · rw [e]; omega
  · rw [e]
    have := BB_few hs p.lo.toNat
    have := dem_le (s := s) p.lo h
    omega
theorem r6least (a : Option Addr) (n cap : Nat) (ps : List Pt) (w : World) (hp : PtsAt w a n cap ps) (hs : OkS (pns ps)) (hm : ps.length ≤ 1000) :
    Calls Tryz.prog 84 #[.slice a n cap] w fun e w' => e = .returned (.int .i64 (leastN (pns ps))) ∧ Below w.heap.size w w' := by
  obtain rfl := hp.len
  have hmk := run_make_best
  have hB0 := one_alloc w (.cells (madeCells #[.int .i64 0] 1002) 3)
  have hbt := best_made w (pns ps)
  have hpx := hp.below hB0
  have hfew := fun i => BB_few hs i
  have hjle := fun h j => bestJ_le hs h j
  simp only [pns_len] at hfew hjle
  have hsz0 : w.heap.size < (w.alloc (.cells (madeCells #[.int .i64 0] 1002) 3)).heap.size := by simp
  have hne : ∀ x, a = some x → x.block ≠ w.heap.size := fun x hx => by have := (hp.row.at_ x hx).2.1; omega
  obtain ⟨T, hT⟩ : ∃ T, leastN (pns ps) = T := ⟨_, rfl⟩
  have HT : Hid (BB (pns ps) 1001 = T) := Lib.hid hT
  rw [hT]
  clear hT
  go_enter Tryz.func84, Tryz.ntmps84
  go_wp2_with fail
  generalize w.alloc (.cells (madeCells #[.int .i64 0] 1002) 3) = W0 at *
  clear hmk
  go_loopw [4] (fun i wr => ∃ k : Nat, k ≤ 1001 ∧ i = .int .i64 k ∧ Below w.heap.size w wr ∧ BestTo wr w.heap.size (pns ps) k) (fun i _ => 1001 - (RowKit.intOf i).toNat)
  case atStart => exact ⟨0, Nat.zero_le _, rfl, hB0, hbt⟩
  case round =>
    obtain ⟨k, hk, rfl, hB, hbest⟩ := hrel
    have hnn : (0 : Int) ≤ k := by omega
    by_cases hlt : k ≤ 1000
    · have k1 : decide ((k : Int) ≤ 1000) = true := by simp; omega
      have e1 : ((k : Int) + 1).toNat = k + 1 := by omega
      have g0 := hbest.get (Nat.le_refl k)
      obtain ⟨v0, g1⟩ := hbest.some (i := k + 1) (by omega)
      have f1 := hbest.free (k + 1)
      have hfk := hfew k
      have hbs := hbest.set (by omega) (BB (pns ps) k)
      have hB1 : Below w.heap.size w (wr.setCell ⟨w.heap.size, k + 1, none⟩ (.int .i64 (BB (pns ps) k))) := hB.setCell (Nat.le_refl _) _
      have Hend := Lib.hid (@BB_end (pns ps) k)
      have hp1 := fun w2 (h : Below w.heap.size w w2) => hp.below h
      have hbk := fun w2 (h : BestAt w2 w.heap.size (pns ps) k (BB (pns ps) k)) => h
      go_wp2_with fail
      generalize wr.setCell ⟨w.heap.size, k + 1, none⟩ (.int .i64 (BB (pns ps) k)) = w1 at *
      clear g0 g1 f1 hbest hB hbk
      go_loopw [5, 6] (fun en i wr => ∃ j : Nat, j ≤ ps.length ∧ i = .int .i64 j ∧ en = .bool (endB (pns ps) k j) ∧ Below w.heap.size w wr ∧ BestAt wr w.heap.size (pns ps) k (BB (pns ps) k)) (fun _ i _ => ps.length - (RowKit.intOf i).toNat)
      case atStart => exact ⟨0, Nat.zero_le _, rfl, rfl, hB1, hbs⟩
      case round =>
        obtain ⟨j, hj, rfl, rfl, hB2, hb2⟩ := hrel
        have hjn : (0 : Int) ≤ j := by omega
        by_cases hjl : j < ps.length
        · have j1 : (j : Int) < (ps.length : Int) := by omega
          obtain ⟨b, o, rfl, _, d0, d1, d2, d3, d4, d5, d6, d7⟩ := (hp1 _ hB2).get hjl
          have Hs := Lib.hid (@endB_succ (pns ps) k j (by rw [pns_len]; exact hjl))
          rw [pns_get ps hjl] at Hs
          clear d0 d1 d3 d4 d5 d6 d7
          generalize ps.getD j default = p at *
          have hpn : p.n.hi = p.hi := rfl
          rw [hpn] at Hs
          have hdq : decide (p.hi = (k : Int)) = (p.hi == (k : Int)) := by rw [Bool.eq_iff_iff]; simp
          rw [hdq] at Hs
          clear hpn hdq
          generalize endB (pns ps) k j = E at *
          obtain ⟨Q, hQ⟩ : ∃ Q, (p.hi == (k : Int)) = Q := ⟨_, rfl⟩
          rw [hQ] at Hs
          cases E <;> cases Q
          all_goals
            go_wp2_with fail
            go_roundw
            case rel => exact ⟨j + 1, by omega, by go_num, by rw [Hs.out]; rfl, hB2, hb2⟩
            case measure => simp [RowKit.intOf]; omega
        · have hj2 : j = ps.length := by omega
          subst hj2
          have He := Hend.out
          simp only [pns_len] at He
          have HE := Lib.hid He
          clear He
          generalize endB (pns ps) k ps.length = E at *
          cases E
          · rw [if_neg (by simp)] at HE
            go_wp2_with fail
            go_loopw [7] (fun i wr => i = .int .i64 0 ∧ Below w.heap.size w wr ∧ BestAt wr w.heap.size (pns ps) k (BB (pns ps) k)) (fun i _ => 0)
            case atStart => exact ⟨rfl, hB2, hb2⟩
            case round =>
              rename World => wr3
              obtain ⟨rfl, hB3, hb3⟩ := hrel
              cases hpl : decide (0 < ps.length)
              all_goals
                go_wp2_with fail
                go_roundw
                case rel => exact ⟨k + 1, by omega, by go_num, hB3, BestAt.next (by rw [HE.out]; exact hb3) (by omega)⟩
                case measure => simp [RowKit.intOf]; omega
          · rw [if_pos rfl] at HE
            go_wp2_with fail
            go_loopw [7] (fun i wr => ∃ j : Nat, j ≤ ps.length ∧ i = .int .i64 j ∧ Below w.heap.size w wr ∧ BestAt wr w.heap.size (pns ps) k (bestJ (pns ps) k j)) (fun i _ => ps.length - (RowKit.intOf i).toNat)
            case atStart => exact ⟨0, Nat.zero_le _, rfl, hB2, hb2⟩
            case round =>
              rename World => wr3
              obtain ⟨j, hj, rfl, hB3, hb3⟩ := hrel
              have hjn : (0 : Int) ≤ j := by omega
              by_cases hjl : j < ps.length
              · have j1 : (j : Int) < (ps.length : Int) := by omega
                have hp3 := hp1 _ hB3
                have hok := hs _ (Pn.mem (show j < (pns ps).length by rw [pns_len]; exact hjl))
                obtain ⟨b, o, rfl, hbl, d0, d1, d2, d3, d4, d5, d6, d7⟩ := hp3.get hjl
                have Hs := Lib.hid (@bestJ_succ (pns ps) k j (by rw [pns_len]; exact hjl))
                rw [pns_get ps hjl] at Hs hok
                clear d0 d2 d3 d4 d5 d6 d7
                generalize ps.getD j default = p at *
                have hpn : p.n.lo = p.lo ∧ p.n.hi = p.hi := ⟨rfl, rfl⟩
                rw [hpn.1] at Hs hok
                rw [hpn.2] at hok
                obtain ⟨ok0, ok1, ok2⟩ := hok
                clear hpn
                have hmj := hjle k j
                generalize bestJ (pns ps) k j = m at *
                by_cases hle : p.lo ≤ (k : Int)
                · have hd : decide (p.lo ≤ (k : Int)) = true := by simpa using hle
                  rw [if_pos hle] at Hs
                  obtain ⟨L, hL⟩ : ∃ L : Nat, p.lo = L := ⟨p.lo.toNat, by omega⟩
                  rw [hL] at Hs d1 hd
                  simp only [Int.toNat_natCast] at Hs
                  have hbL := hfew L
                  have hLk : L ≤ k := by omega
                  have gL := hb3.get (i := L) (by omega)
                  have gT := hb3.top (by omega)
                  have gf := hb3.free (k + 1)
                  have hD := fun w2 (h : Below w.heap.size w w2) => r6demand (some ⟨b, o, none⟩) _ cap ps L k w2 (hp1 w2 h)
                  have hDl := dem_le (s := pns ps) L k
                  rw [pns_len] at hDl
                  generalize dem (pns ps) L k = D at *
                  obtain ⟨BL, hBL⟩ : ∃ BL, BB (pns ps) L = BL := ⟨_, rfl⟩
                  rw [hBL] at Hs hbL gL
                  have HBL := Lib.hid hBL
                  clear hBL
                  have gLlt : L ≤ 1001 := by omega
                  clear hL hle ok0 ok1 ok2
                  have hwr : IntKind.i64.wrap ((BL : Int) + (D : Int)) = (BL : Int) + D := IntWalk.i64_in _ (by omega)
                  have hwk : IntKind.i64.wrap ((k : Int) + 1) = (k : Int) + 1 := IntWalk.i64_in _ (by omega)
                  have hkt : ((k : Int) + 1).toNat = k + 1 := by omega
                  have hkp : (0 : Int) ≤ (k : Int) + 1 := by omega
                  have hL0 : (0 : Int) ≤ L := by omega
                  obtain ⟨M, hM⟩ : ∃ M : Nat, max m (BL + D) = M := ⟨_, rfl⟩
                  have hmx : (if (m : Int) < (BL : Int) + (D : Int) then (BL : Int) + (D : Int) else (m : Int)) = (M : Int) := by rw [← hM]; split <;> omega
                  have HM := Lib.hid hM
                  clear hM
                  have hd2 : decide (L ≤ k) = true := by simpa using hd
                  have HD := Lib.hid hD
                  clear hD
                  have Hwr := Lib.hid hwr
                  clear hwr
                  have Hwk := Lib.hid hwk
                  clear hwk
                  have Hkt := Lib.hid hkt
                  clear hkt
                  have Hmx := Lib.hid hmx
                  clear hmx
                  clear gT gf gL
                  go_wp2_with fail
                  obtain ⟨cs, c1, c2, c3, c4⟩ := hb3.body
                  have cL := c3 L (by omega)
                  have cT := c4 (by omega)
                  rw [HBL.out] at cL
                  have hzN := (Array.getElem?_eq_some_iff.1 c1).1
                  refine SL.rule (by kernel_rfl) [w.heap.size] [57, 58, 59, 60, 61, 62, 63, 64, 65, 66, 67, 68, 69, 70, 71, 72, 73, 74, 75, 76] [SL.pu 57 [] (.slice (some ⟨w.heap.size, 0, none⟩) 1002 1002), SL.pu 58 [] (.int .i64 k), SL.pu 59 [1] (.int .i64 ((k : Int) + 1)), SL.pu 60 [] (.slice (some ⟨w.heap.size, 0, none⟩) 1002 1002), SL.pu 61 [] (.int .i64 k), SL.pu 62 [4] (.int .i64 ((k : Int) + 1)), SL.pu 63 [3, 5] (.pointer (some ⟨w.heap.size, k + 1, none⟩)), SL.pu 64 [6, 21] (.int .i64 m), SL.pu 65 [] (.slice (some ⟨w.heap.size, 0, none⟩) 1002 1002), SL.pu 66 [] (.int .i64 L), SL.pu 67 [8, 9] (.pointer (some ⟨w.heap.size, L, none⟩)), SL.pu 68 [10, 21] (.int .i64 BL), SL.pu 69 [] (.slice (some ⟨b, o, none⟩) ps.length cap), SL.pu 70 [] (.int .i64 L), SL.pu 71 [] (.int .i64 k), SL.pu 72 [13, 14] (.agg #[.int .i64 L, .int .i64 k]), SL.pu 73 [12, 15] (.int .i64 D), SL.pu 74 [11, 16] (.int .i64 ((BL : Int) + D)), SL.pu 75 [7, 17] (.int .i64 M), SL.pu 76 [0, 2] (.pointer (some ⟨w.heap.size, k + 1, none⟩)), SL.blk [18, 19, 21] [21] w.heap.size 3 (cs.setIfInBounds (k + 1) (.int .i64 M)), SL.blk [] [] w.heap.size 3 cs]
                    [20] (by kernel_rfl) (by kernel_rfl) _ (SL.one_held (N := w.heap.size) rfl rfl ⟨c1, rfl⟩ hzN) SL.one_apart ?_ ?_
                  · refine ⟨?_, ?_, ?_, ?_, ?_, ?_, ?_, ?_, ?_, ?_, ?_, ?_, ?_, ?_, ?_, ?_, ?_, ?_, ?_, ?_, ?_, trivial⟩
                    all_goals refine SL.ob fun us w9 Fe hG hu hd9 hv K hK => ?_
                    all_goals simp [SL.frame, SL.put', SL.Used, SL.Seen, SL.pu, SL.row, SL.box, SL.rowIn, SL.boxIn, SL.boxAt, SL.boxAtIn, Bd.v, Bd.cs, SL.blk] at hu hv hK ⊢
                    all_goals (have hB9 : Below w.heap.size w w9 := hB3.trans (hG.belowF (by omega) (by simp)))
                    all_goals (have hwr' := Hwr.out; have hwk' := Hwk.out; have hkt' := Hkt.out; have hmx' := Hmx.out)
                    all_goals clear hG hd9 hv
                    all_goals try (go_step; refine hK _ _ _ _ (by simp [Act.put, *]; done) (SL.Chg.refl _ _) rfl rfl (by simp))
                    · obtain ⟨⟨u1, _⟩, u2, _⟩ := hu
                      have cc := ((SL.cells_of u2).1 (k + 1)).trans cT
                      clear hwr' hwk' hkt' hmx'
                      go_step
                      exact hK _ _ _ _ (by simp [Act.put, *]; done) (SL.Chg.refl _ _) rfl rfl (by simp)
                    · obtain ⟨⟨u1, _⟩, u2, _⟩ := hu
                      have cc := ((SL.cells_of u2).1 L).trans cL
                      clear hwr' hwk' hkt' hmx'
                      go_step
                      exact hK _ _ _ _ (by simp [Act.put, *]; done) (SL.Chg.refl _ _) rfl rfl (by simp)
                    · clear hwr' hwk' hkt' hmx'
                      go_step
                      refine (HD.out _ hB9).mono ?_
                      rintro e w2 ⟨rfl, hb9⟩
                      exact hK _ _ w2 _ (by simp [Act.put, *]; done) (.of_below hb9) rfl rfl (by simp)
                    · clear hwr' hwk' hkt' hmx'
                      obtain ⟨⟨u1, _⟩, ⟨u2, _⟩, u3, u4⟩ := hu
                      have cc := ((SL.cells_of u3).1 (k + 1)).trans cT
                      have ff := (SL.cells_of u3).2 (k + 1)
                      go_step
                      refine hK _ undef _ _ (by simp [Act.put, *]; done) (.setCell _ (by simp [u4]) _) (SL.heap_set u3 _) rfl ?_
                      rw [u4]; simp
                  · intro us w9 Fs hG hu hbd hd9
                    simp [SL.frame, SL.put', SL.Used, SL.Seen, SL.pu, SL.row, SL.box, SL.rowIn, SL.boxIn, SL.boxAt, SL.boxAtIn, Bd.v, Bd.cs, SL.blk] at hu ⊢
                    have hB9 : Below w.heap.size w w9 := hB3.trans (hG.belowF (by omega) (by simp))
                    clear hbd hd9 hG
                    go_wp2
                    go_roundw
                    case rel => exact ⟨j + 1, by omega, by go_num, hB9, ⟨_, hu.1, by simp [c2], fun i hi => by rw [set_get (by omega), if_neg (by omega)]; exact c3 i hi, fun _ => by rw [set_get (by omega), if_pos rfl, Hs.out, HM.out]⟩⟩
                    case measure => simp [RowKit.intOf]; omega
                · have hd : decide (p.lo ≤ (k : Int)) = false := by simpa using hle
                  rw [if_neg hle] at Hs
                  go_wp2_with fail
                  go_roundw
                  case rel => exact ⟨j + 1, by omega, by go_num, hB3, by rw [Hs.out]; exact hb3⟩
                  case measure => simp [RowKit.intOf]; omega
              · have hj2 : j = ps.length := by omega
                subst hj2
                go_wp2_with fail
                go_roundw
                case rel => exact ⟨k + 1, by omega, by go_num, hB3, BestAt.next (by rw [HE.out]; exact hb3) (by omega)⟩
                case measure => simp [RowKit.intOf]; omega
    · have k1 : decide ((k : Int) ≤ 1000) = false := by simp; omega
      obtain rfl : k = 1001 := by omega
      have g0 := hbest.get (i := 1001) (Nat.le_refl _)
      have HT2 := HT.out
      generalize BB (pns ps) 1001 = B at *
      subst HT2
      go_wp2_with fail
      go_ret
      exact ⟨rfl, hB⟩
def Cs.lst (c : Cs) : Int := if c.chk = 0 then (leastN c.s : Int) else 0
def Cs.most (c : Cs) : Int := if 0 < c.lim then min (c.ps.length : Int) c.lim else c.ps.length
def Cs.num (c : Cs) : (Int × Int) × Bool := if c.chk = 0 ∧ (leastN c.s : Int) ≤ c.most then (((leastN c.s : Int), c.most), true) else ((0, 0), false)
theorem r6Least (c : Cs) (w : World) (hc : CsAt w c) :
    Calls Tryz.prog 42 #[c.v] w fun e w' => e = .returned (.tuple #[.int .i64 c.lst, .int .i64 c.chk]) ∧ Below w.heap.size w w' := by
  have hC := fun w1 (h : CsAt w1 c) => r6chk c w1 h
  have hok := @Cs.chk_zero c
  have hr : c.lst = if c.chk = 0 then (leastN (pns c.ps) : Int) else 0 := rfl
  by_cases h0 : c.chk = 0
  · have hD := fun w1 (h : CsAt w1 c) => r6least c.a _ c.cap c.ps w1 h.ps (hok.1 h0).oks (by have := (hok.1 h0).many; omega)
    rw [if_pos h0] at hr
    simp only [h0] at hC ⊢
    generalize c.lst = R at *
    generalize leastN (pns c.ps) = D at *
    subst hr
    obtain ⟨ware, lim, byr, a, cap, ps⟩ := c
    simp only [Cs.v] at *
    have hB0 := one_alloc w (Obj.cells #[.string ware, .int .i64 lim, .int .i64 byr, .slice a ps.length cap] 24)
    have hbx := hc.below hB0
    clear hok h0
    go_enter Tryz.func42, Tryz.ntmps42
    go_wp2_with (first
      | (go_at_call 59; refine (hC _ hbx).mono ?_; rintro e w1 ⟨rfl, hb1⟩; obtain ⟨hc1, hf1⟩ := bcell hb1; have hz1 := lt_size hb1 (b := w.heap.size) (by first | assumption | omega | (simp; done) | (simp; omega)); have hby := hbx.below hb1)
      | (go_at_call 84; refine (hD _ hby).mono ?_; rintro e w2 ⟨rfl, hb2⟩))
    go_ret2
    exact ⟨rfl, (hB0.ch2 hb1).ch2 hb2⟩
  · rw [if_neg h0] at hr
    rw [hr]
    generalize c.chk = E at *
    have h2 : (E != 0) = true := by simpa using h0
    obtain ⟨ware, lim, byr, a, cap, ps⟩ := c
    simp only [Cs.v] at *
    have hB0 := one_alloc w (Obj.cells #[.string ware, .int .i64 lim, .int .i64 byr, .slice a ps.length cap] 24)
    have hbx := hc.below hB0
    clear hok h0 hr
    go_enter Tryz.func42, Tryz.ntmps42
    go_wp2_with (go_at_call 59; refine (hC _ hbx).mono ?_; rintro e w1 ⟨rfl, hb1⟩)
    go_ret2
    exact ⟨rfl, hB0.ch2 hb1⟩
theorem r6Numbers (c : Cs) (w : World) (hc : CsAt w c) :
    Calls Tryz.prog 45 #[c.v] w fun e w' => e = .returned (.tuple #[.int .i64 c.num.1.1, .int .i64 c.num.1.2, .bool c.num.2, .int .i64 c.chk]) ∧ Below w.heap.size w w' := by
  have hC := fun w1 (h : CsAt w1 c) => r6chk c w1 h
  have hok := @Cs.chk_zero c
  have hr : c.num = if c.chk = 0 ∧ (leastN (pns c.ps) : Int) ≤ c.most then (((leastN (pns c.ps) : Int), c.most), true) else ((0, 0), false) := rfl
  by_cases h0 : c.chk = 0
  · have hD := fun w1 (h : CsAt w1 c) => r6least c.a _ c.cap c.ps w1 h.ps (hok.1 h0).oks (by have := (hok.1 h0).many; omega)
    have hlim := (hok.1 h0).lim
    have hmany := (hok.1 h0).many
    simp only [h0, true_and] at hC hr ⊢
    have hmo : c.most = if 0 < c.lim then min (c.ps.length : Int) c.lim else c.ps.length := rfl
    obtain ⟨R1, hR1⟩ : ∃ R1, c.num.1.1 = R1 := ⟨_, rfl⟩
    obtain ⟨R2, hR2⟩ : ∃ R2, c.num.1.2 = R2 := ⟨_, rfl⟩
    obtain ⟨R3, hR3⟩ : ∃ R3, c.num.2 = R3 := ⟨_, rfl⟩
    rw [hR1, hR2, hR3]
    rw [hr] at hR1 hR2 hR3
    clear hr
    generalize leastN (pns c.ps) = D at *
    generalize c.most = M at *
    obtain ⟨ware, lim, byr, a, cap, ps⟩ := c
    simp only [Cs.v] at *
    have hB0 := one_alloc w (Obj.cells #[.string ware, .int .i64 lim, .int .i64 byr, .slice a ps.length cap] 24)
    have hbx := hc.below hB0
    clear hok h0
    cases hl : decide (0 < lim)
    · rw [if_neg (by simpa using hl)] at hmo
      subst hmo
      cases hg : decide ((ps.length : Int) < (D : Int))
      · have hg2 : decide (ps.length < D) = false := by simpa using hg
        rw [if_pos (by simp at hg; omega)] at hR1 hR2 hR3
        simp only at hR1 hR2 hR3
        subst hR1; subst hR2; subst hR3
        go_enter Tryz.func45, Tryz.ntmps45
        go_wp2_with (first
          | (go_at_call 59; refine (hC _ hbx).mono ?_; rintro e w1 ⟨rfl, hb1⟩; obtain ⟨hc1, hf1⟩ := bcell hb1; have hz1 := lt_size hb1 (b := w.heap.size) (by first | assumption | omega | (simp; done) | (simp; omega)); have hby := hbx.below hb1)
          | (go_at_call 84; refine (hD _ hby).mono ?_; rintro e w2 ⟨rfl, hb2⟩; obtain ⟨hc2, hf2⟩ := bcell hb2))
        refine bodyPost_ret (v := .tuple #[.int .i64 D, .int .i64 ps.length, .bool true, .int .i64 0]) (by simp [results, Tryz.results45, go_sem, *]) rfl ⟨rfl, (hB0.ch2 hb1).ch2 hb2⟩
      · have hg2 : decide (ps.length < D) = true := by simpa using hg
        rw [if_neg (by simp at hg; omega)] at hR1 hR2 hR3
        simp only at hR1 hR2 hR3
        subst hR1; subst hR2; subst hR3
        go_enter Tryz.func45, Tryz.ntmps45
        go_wp2_with (first
          | (go_at_call 59; refine (hC _ hbx).mono ?_; rintro e w1 ⟨rfl, hb1⟩; obtain ⟨hc1, hf1⟩ := bcell hb1; have hz1 := lt_size hb1 (b := w.heap.size) (by first | assumption | omega | (simp; done) | (simp; omega)); have hby := hbx.below hb1)
          | (go_at_call 84; refine (hD _ hby).mono ?_; rintro e w2 ⟨rfl, hb2⟩; obtain ⟨hc2, hf2⟩ := bcell hb2))
        refine bodyPost_ret (v := .tuple #[.int .i64 0, .int .i64 0, .bool false, .int .i64 0]) (by simp [results, Tryz.results45, go_sem, *]) rfl ⟨rfl, (hB0.ch2 hb1).ch2 hb2⟩
    · rw [if_pos (by simpa using hl)] at hmo
      have hmn : (if lim < (ps.length : Int) then lim else (ps.length : Int)) = M := by rw [hmo]; split <;> omega
      have Hmo := Lib.hid hmo
      clear hmo
      cases hg : decide (M < (D : Int))
      · rw [if_pos (by simp at hg; omega)] at hR1 hR2 hR3
        simp only at hR1 hR2 hR3
        subst hR1; subst hR2; subst hR3
        go_enter Tryz.func45, Tryz.ntmps45
        go_wp2_with (first
          | (go_at_call 59; refine (hC _ hbx).mono ?_; rintro e w1 ⟨rfl, hb1⟩; obtain ⟨hc1, hf1⟩ := bcell hb1; have hz1 := lt_size hb1 (b := w.heap.size) (by first | assumption | omega | (simp; done) | (simp; omega)); have hby := hbx.below hb1)
          | (go_at_call 84; refine (hD _ hby).mono ?_; rintro e w2 ⟨rfl, hb2⟩; obtain ⟨hc2, hf2⟩ := bcell hb2))
        refine bodyPost_ret (v := .tuple #[.int .i64 D, .int .i64 M, .bool true, .int .i64 0]) (by simp [results, Tryz.results45, go_sem, *]) rfl ⟨rfl, (hB0.ch2 hb1).ch2 hb2⟩
      · rw [if_neg (by simp at hg; omega)] at hR1 hR2 hR3
        simp only at hR1 hR2 hR3
        subst hR1; subst hR2; subst hR3
        go_enter Tryz.func45, Tryz.ntmps45
        go_wp2_with (first
          | (go_at_call 59; refine (hC _ hbx).mono ?_; rintro e w1 ⟨rfl, hb1⟩; obtain ⟨hc1, hf1⟩ := bcell hb1; have hz1 := lt_size hb1 (b := w.heap.size) (by first | assumption | omega | (simp; done) | (simp; omega)); have hby := hbx.below hb1)
          | (go_at_call 84; refine (hD _ hby).mono ?_; rintro e w2 ⟨rfl, hb2⟩; obtain ⟨hc2, hf2⟩ := bcell hb2))
        refine bodyPost_ret (v := .tuple #[.int .i64 0, .int .i64 0, .bool false, .int .i64 0]) (by simp [results, Tryz.results45, go_sem, *]) rfl ⟨rfl, (hB0.ch2 hb1).ch2 hb2⟩
  · rw [if_neg (fun h => h0 h.1)] at hr
    rw [hr]
    simp only
    generalize c.chk = E at *
    have h2 : (E != 0) = true := by simpa using h0
    obtain ⟨ware, lim, byr, a, cap, ps⟩ := c
    simp only [Cs.v] at *
    have hB0 := one_alloc w (Obj.cells #[.string ware, .int .i64 lim, .int .i64 byr, .slice a ps.length cap] 24)
    have hbx := hc.below hB0
    clear hok h0 hr
    go_enter Tryz.func45, Tryz.ntmps45
    go_wp2_with (go_at_call 59; refine (hC _ hbx).mono ?_; rintro e w1 ⟨rfl, hb1⟩)
    refine bodyPost_ret (v := .tuple #[.int .i64 0, .int .i64 0, .bool false, .int .i64 E]) (by simp [results, Tryz.results45, go_sem, *]) rfl ⟨rfl, hB0.ch2 hb1⟩
/-- The numbers less than n with something. -/
def pickL (f : Nat → Bool) (n : Nat) : List Int := ((List.range n).filter f).map fun (i : Nat) => (i : Int)
theorem pickL_succ (f : Nat → Bool) (k : Nat) : pickL f (k + 1) = pickL f k ++ (if f k then [(k : Int)] else []) := by
  unfold pickL
  rw [List.range_succ, List.filter_append, List.map_append]
  congr 1
  by_cases h : f k = true <;> simp [h]
theorem pickL_len (f : Nat → Bool) (n : Nat) : (pickL f n).length ≤ n := by
  unfold pickL
  rw [List.length_map]
  have := List.length_filter_le f (List.range n)
  simpa using this
def rivL (c : Cs) (x : Int) : List Int := if c.ask [x] = 0 then pickL (fun b => clB c.s x.toNat b) c.ps.length else []
theorem r6Rivals (c : Cs) (x : Int) (w : World) (hc : CsAt w c) :
    Calls Tryz.prog 54 #[c.v, .int .i64 x] w fun e w' => ∃ v, e = .returned (.tuple #[v, .int .i64 (c.ask [x])]) ∧ Below w.heap.size w w' ∧ w'.ownsRow w.heap.size 3 1 v (rivL c x).length ((rivL c x).map (.int .i64)) := by
  have hC := fun w1 a2 n2 c2 (h : CsAt w1 c) (hl : IntsAt w1 a2 n2 c2 [x]) => r6asked c a2 n2 c2 [x] w1 h hl
  have hz := @Cs.ask_zero c [x]
  have hr : rivL c x = if c.ask [x] = 0 then pickL (fun b => clB (pns c.ps) x.toNat b) c.ps.length else [] := rfl
  generalize rivL c x = R at *
  generalize c.ask [x] = E at *
  by_cases h0 : E = 0
  · subst h0
    obtain ⟨hok, hi⟩ := hz rfl
    obtain ⟨X, rfl⟩ : ∃ X : Nat, x = X := ⟨x.toNat, by have := hi x (by simp); omega⟩
    have hx : X < c.ps.length := by have := hi X (by simp); omega
    have hmany := hok.many
    obtain ⟨ware, lim, byr, a, cap, ps⟩ := c
    simp only [Cs.v, Int.toNat_natCast, if_true] at *
    have hB0 := one_alloc w (Obj.cells #[.string ware, .int .i64 lim, .int .i64 byr, .slice a ps.length cap] 24)
    have hbx := hc.below hB0
    have hk := fun w1 (h : CsAt w1 ⟨ware, lim, byr, a, cap, ps⟩) k (hk : k < ps.length) => r6clash_any a _ cap ps X k w1 h.ps hx hk
    have Hr := Lib.hid hr
    clear hz hi hr hok
    go_enter Tryz.func54, Tryz.ntmps54
    go_wp2_with (go_at_call 96; refine (hC _ _ _ _ (hbx.below (one_alloc _ _)) (lit1b _ _ _)).mono ?_; rintro e w1 ⟨rfl, hb1⟩; obtain ⟨hc1, hf1⟩ := bcell hb1; have hz1 := lt_size hb1 (b := w.heap.size) (by first | assumption | omega | (simp; done) | (simp; omega)); have hby := (hbx.below (one_alloc _ _)).below hb1)
    have c0 : w1.cell? ⟨w.heap.size, 3, none⟩ = some (.slice a ps.length cap) := by simp [go_sem, *]
    have hBW : Below w.heap.size w w1 := (hB0.ch2 (one_alloc _ _)).ch2 hb1
    have hzw := hBW.size
    clear hc1 hf1 hb1 hC hB0 hbx
    go_loopw [7, 8] (fun o i wr => ∃ k : Nat, k ≤ ps.length ∧ i = .int .i64 k ∧ Below w1.heap.size w1 wr ∧ wr.ownsRow w1.heap.size 3 1 o (pickL (fun b => clB (pns ps) X b) k).length ((pickL (fun b => clB (pns ps) X b) k).map (.int .i64))) (fun _ i _ => ps.length - (RowKit.intOf i).toNat)
    case atStart => exact ⟨0, Nat.zero_le _, rfl, Below.refl _ _, World.ownsRow_nil _ _ _ _⟩
    case round =>
      obtain ⟨k, hk', rfl, hB, hown⟩ := hrel
      have c1 := ((bcell hB).1 _ 3 hz1).trans c0
      have hnn : (0 : Int) ≤ k := by omega
      by_cases hlt : k < ps.length
      · have i1 : (k : Int) < (ps.length : Int) := by omega
        have Hs := Lib.hid (pickL_succ (fun b => clB (pns ps) X b) k)
        have hL := pickL_len (fun b => clB (pns ps) X b) k
        generalize pickL (fun b => clB (pns ps) X b) k = L at *
        have hkk := hk wr (hby.below hB) k hlt
        have hzr : w.heap.size < wr.heap.size := lt_size hB hz1
        cases hcl : clB (pns ps) X k
        · try simp only [hcl] at hkk
          have Hcl := Lib.hid hcl
          clear hcl
          go_wp2_with (go_at_call 72; refine hkk.mono ?_; rintro e w2 ⟨rfl, hb2⟩)
          go_roundw
          case rel => exact ⟨k + 1, by omega, by go_num, hB.ch2 hb2, by rw [Hs.out, Hcl.out]; simpa using hown.up hb2 (Nat.le_refl _)⟩
          case measure => simp [RowKit.intOf]; omega
        · try simp only [hcl] at hkk
          have Hcl := Lib.hid hcl
          clear hcl
          go_wp2_with (first
            | (go_at_call 72; refine hkk.mono ?_; rintro e w2 ⟨rfl, hb2⟩)
            | (at_builtin; refine wpList_app elemI rfl _ _ rfl ((hown.up hb2 (Nat.le_refl _)).up (one_alloc w2 (Obj.cells #[.int .i64 k] 3)) (Nat.le_refl _)) rfl rfl (RowAt.of_heap (World.alloc_heap_new w2 _)) rfl (ones_int [(k : Int)]) (by unfold maxLen; omega) (by omega) (by have := hB.size; have := hb2.size; simp; omega) ?_))
          intro v' w3 ho hg hb3 _ _
          go_wp2
          go_roundw
          case rel => exact ⟨k + 1, by omega, by go_num, (hB.ch2 hb2).trans (((one_alloc w2 _).mono (by have := hB.size; have := hb2.size; omega)).trans hb3), by rw [Hs.out, Hcl.out]; simpa using ho⟩
          case measure => simp [RowKit.intOf]; omega
      · have hk2 : k = ps.length := by omega
        subst hk2
        go_wp2_with fail
        go_ret2
        rw [Hr.out]
        exact ⟨_, rfl, hBW.ch2 hB, SL.row_base hown hzw⟩
  · have h2 : (E != 0) = true := by simpa using h0
    rw [if_neg h0] at hr
    subst hr
    obtain ⟨ware, lim, byr, a, cap, ps⟩ := c
    simp only [Cs.v] at *
    have hB0 := one_alloc w (Obj.cells #[.string ware, .int .i64 lim, .int .i64 byr, .slice a ps.length cap] 24)
    have hbx := hc.below hB0
    clear h0 hz
    go_enter Tryz.func54, Tryz.ntmps54
    go_wp2_with (go_at_call 96; refine (hC _ _ _ _ (hbx.below (one_alloc _ _)) (lit1b _ _ _)).mono ?_; rintro e w1 ⟨rfl, hb1⟩)
    go_ret2
    exact ⟨_, rfl, (hB0.ch2 (one_alloc _ _)).ch2 hb1, World.ownsRow_nil _ _ _ _⟩
def natL (l : List Int) : List Nat := l.map Int.toNat
theorem natL_get {l : List Int} {k : Nat} (hk : k < l.length) : (natL l).getD k 0 = (l.getD k 0).toNat := by simp [natL, List.getD_eq_getElem?_getD, hk]
/-- All parts up to the k-th, and of the last those up to the m-th, can be of one vessel. -/
def oneN (s : List Pn) (l : List Nat) (k : Nat) : Bool := (List.range k).all fun i => (List.range i).all fun j => !clB s (l.getD i 0) (l.getD j 0)
def oneM (s : List Pn) (l : List Nat) (k m : Nat) : Bool := (List.range m).all fun j => !clB s (l.getD k 0) (l.getD j 0)
theorem oneN_succ (s : List Pn) (l : List Nat) (k : Nat) : oneN s l (k + 1) = (oneN s l k && oneM s l k k) := by
  unfold oneN oneM
  rw [List.range_succ, List.all_append]; simp
theorem oneM_succ (s : List Pn) (l : List Nat) (k m : Nat) : oneM s l k (m + 1) = (oneM s l k m && !clB s (l.getD k 0) (l.getD m 0)) := by
  unfold oneM
  rw [List.range_succ, List.all_append]; simp
theorem oneN_pre {s : List Pn} {l : List Nat} {k n : Nat} (hk : k ≤ n) (h : oneN s l k = false) : oneN s l n = false := by
  unfold oneN at *
  rw [Bool.eq_false_iff] at h ⊢
  intro h2
  apply h
  rw [List.all_eq_true] at h2 ⊢
  exact fun i hi => h2 i (List.mem_range.2 (by have := List.mem_range.1 hi; omega))
theorem oneB_N (s : List Pn) (l : List Nat) : oneB s l = oneN s l l.length := rfl
def Cs.one (c : Cs) (l : List Int) : Bool := decide (c.ask l = 0) && oneB c.s (natL l)
theorem take_mem {l : List Int} {k m : Nat} (hm : m < k) (hk : k ≤ l.length) : l.getD m 0 ∈ l.take k := by
  rw [List.getD_eq_getElem?_getD, List.getElem?_eq_getElem (show m < l.length by omega)]
  exact List.mem_take_iff_getElem.2 ⟨m, by omega, rfl⟩
theorem of_take_mem {l : List Int} {k : Nat} {y : Int} (h : y ∈ l.take k) : ∃ m, m < k ∧ m < l.length ∧ l.getD m 0 = y := by
  obtain ⟨m, hm, rfl⟩ := List.mem_take_iff_getElem.1 h
  exact ⟨m, by omega, by omega, by simp [List.getD_eq_getElem?_getD, List.getElem?_eq_getElem (show m < l.length by omega)]⟩
theorem wit_in {s : List Pn} {l : List Int} {k : Nat} (hk : k < l.length) (h : withinB (l.getD k 0) 0 ((s.length : Int) - 1) = false) : witB s [] l = false := by
  rw [Bool.eq_false_iff] at h ⊢
  intro h2
  apply h
  have := (witB_iff.1 h2).1 _ (mem_getD hk)
  rw [withinB_iff]; omega
theorem pw_at {R : Int → Int → Prop} {l : List Int} (h : l.Pairwise R) {m k : Nat} (hm : m < k) (hk : k < l.length) : R (l.getD m 0) (l.getD k 0) := by
  have := List.pairwise_iff_getElem.1 h m k (by omega) hk hm
  simpa [List.getD_eq_getElem?_getD, List.getElem?_eq_getElem hk, List.getElem?_eq_getElem (show m < l.length by omega)] using this
theorem wit_pr {s : List Pn} {l : List Int} {m k : Nat} (hm : m < k) (hk : k < l.length) (h : ¬ (l.getD m 0 < l.getD k 0 ∧ clB s (l.getD m 0).toNat (l.getD k 0).toNat = true)) : witB s [] l = false := by
  rw [Bool.eq_false_iff]
  intro h2
  exact h (pw_at (witB_iff.1 h2).2 hm hk)
theorem wit_go {s : List Pn} {l : List Int} {k : Nat} (hk : k < l.length) (h0 : witB s [] (l.take k) = true) (h1 : withinB (l.getD k 0) 0 ((s.length : Int) - 1) = true) (h2 : k = 0 ∨ l.getD (k - 1) 0 < l.getD k 0) (h3 : ∀ m, m < k → clB s (l.getD m 0).toNat (l.getD k 0).toNat = true) : witB s [] (l.take (k + 1)) = true := by
  obtain ⟨a, b⟩ := witB_iff.1 h0
  rw [withinB_iff] at h1
  have h1' : 0 ≤ l.getD k 0 ∧ l.getD k 0 < (s.length : Int) := by omega
  rw [take_get hk]
  refine witB_iff.2 ⟨fun x hx => ?_, List.pairwise_append.2 ⟨b, by simp, fun y hy x hx => ?_⟩⟩
  · rcases List.mem_append.1 hx with hx | hx
    · exact a x hx
    · rw [List.mem_singleton] at hx; subst hx
      exact h1'
  · rw [List.mem_singleton] at hx
    subst hx
    change y < l.getD k 0 ∧ clB s y.toNat (l.getD k 0).toNat = true
    obtain ⟨m, hm, hml, rfl⟩ := of_take_mem hy
    refine ⟨?_, h3 m hm⟩
    rcases h2 with e | e
    · omega
    · rcases (by omega : m = k - 1 ∨ m < k - 1) with e2 | e2
      · rw [e2]; exact e
      · have hlt : k - 1 < (l.take k).length := by simp; omega
        have := (pw_at b e2 hlt).1
        simp only [List.getD_eq_getElem?_getD, List.getElem?_take] at this e ⊢
        rw [if_pos (by omega), if_pos (by omega)] at this
        omega
/-- The k-th clashes with all up to the m-th. -/
def clM (s : List Pn) (l : List Int) (k m : Nat) : Prop := ∀ j, j < m → clB s (l.getD j 0).toNat (l.getD k 0).toNat = true
theorem r6witness (a : Option Addr) (n cap : Nat) (ps : List Pt) (al : Option Addr) (m cl : Nat) (l : List Int) (w : World) (hp : PtsAt w a n cap ps) (hl : IntsAt w al m cl l) :
    Calls Tryz.prog 79 #[.slice a n cap, .slice al m cl] w fun e w' => e = .returned (.bool (witB (pns ps) [] l)) ∧ Below w.heap.size w w' := by
  have hps := hp.small
  have hls := hl.small
  obtain rfl := hp.len
  obtain rfl := hl.len
  obtain ⟨T, hT⟩ : ∃ T, witB (pns ps) [] l = T := ⟨_, rfl⟩
  have HT := Lib.hid hT
  rw [hT]
  clear hT
  go_enter Tryz.func79, Tryz.ntmps79
  go_wp2_with fail
  go_loopw [5] (fun i wr => ∃ k : Nat, k ≤ l.length ∧ i = .int .i64 k ∧ Below w.heap.size w wr ∧ witB (pns ps) [] (l.take k) = true) (fun i _ => l.length - (RowKit.intOf i).toNat)
  case atStart => exact ⟨0, Nat.zero_le _, rfl, Below.refl _ _, rfl⟩
  case round =>
    obtain ⟨k, hk, rfl, hB, hall⟩ := hrel
    have Hall := Lib.hid hall
    clear hall
    have hnn : (0 : Int) ≤ k := by omega
    by_cases hlt : k < l.length
    · obtain ⟨b, o, rfl, hbl, d0⟩ := (hl.below hB).get hlt
      have d1 : ∀ (_ : 0 < k), wr.cell? ⟨b, o + (k - 1), none⟩ = some (.int .i64 (l.getD (k - 1) 0)) := fun h0 => by
        obtain ⟨b', o', e, _, d⟩ := (hl.below hB).get (i := k - 1) (by omega)
        simp at e
        obtain ⟨rfl, rfl⟩ := e
        exact d
      have i1 : (k : Int) < (l.length : Int) := by omega
      have Hin := Lib.hid (@wit_in (pns ps) l k hlt)
      have Hpr := Lib.hid (fun m hm h => @wit_pr (pns ps) l m k hm hlt h)
      have Hgo := Lib.hid (@wit_go (pns ps) l k hlt Hall.out)
      rw [pns_len] at Hin Hgo
      have hW := fun w2 => r6within_any (l.getD k 0) 0 ((ps.length : Int) - 1) w2
      cases h1 : withinB (l.getD k 0) 0 ((ps.length : Int) - 1)
      · simp only [h1] at hW
        have Hf := Lib.hid (Hin.out h1)
        clear h1 d1
        generalize l.getD k 0 = x at *
        go_wp2_with fail
        go_quiet ((go_at_call 93; exact Calls.quiet_of_same (hW _)))
        go_wp2
        go_ret
        exact ⟨ret_bool (Hf.out.symm.trans HT.out), belowN hB⟩
      · simp only [h1] at hW
        have H1 := Lib.hid h1
        clear h1
        have hcase : (k = 0 ∨ l.getD (k - 1) 0 < l.getD k 0) ∨ (0 < k ∧ ¬ l.getD (k - 1) 0 < l.getD k 0) := by omega
        rcases hcase with hgd | ⟨hk0, hbad⟩
        · have Hgd := Lib.hid hgd
          have Hwi : Hid (0 ≤ l.getD k 0 ∧ l.getD k 0 < (ps.length : Int)) := Lib.hid (by have := withinB_iff.1 H1.out; omega)
          have Hal : Hid (∀ m, m < k → 0 ≤ l.getD m 0 ∧ l.getD m 0 < (ps.length : Int)) := Lib.hid (fun m hm => by
            have := (witB_iff.1 Hall.out).1 _ (take_mem hm (by omega))
            rw [pns_len] at this
            exact this)
          obtain ⟨x, hx⟩ : ∃ x, l.getD k 0 = x := ⟨_, rfl⟩
          rw [hx] at d0 hW hgd
          have Hx := Lib.hid hx
          clear hx
          rcases Nat.eq_zero_or_pos k with e | e
          · have hgt : decide ((0 : Int) < k) = false := by simp; omega
            have hgt2 : decide (0 < k) = false := by simp; omega
            have He := Lib.hid e
            clear hgd d1 e
            have hB1' := fun n => belowN (n := n) hB
            go_wp2_with fail
            go_quiet ((go_at_call 93; exact Calls.quiet_of_same (hW _)))
            go_wp2_with fail
            have hB1 := hB1' nq
            clear hB1' hB d0
            go_loopw [6] (fun i wr => ∃ m : Nat, m ≤ k ∧ i = .int .i64 m ∧ Below w.heap.size w wr ∧ clM (pns ps) l k m) (fun i _ => k - (RowKit.intOf i).toNat)
            case atStart => exact ⟨0, Nat.zero_le _, rfl, hB1, fun j hj => absurd hj (by omega)⟩
            case round =>
              rename World => wr2
              obtain ⟨m, hm, rfl, hB2, hall2⟩ := hrel
              have hmn : (0 : Int) ≤ m := by omega
              by_cases hmk : m < k
              · have m1 : (m : Int) < (k : Int) := by omega
                have m2 : (m : Int) < (l.length : Int) := by omega
                obtain ⟨b3, o3, e3, bl1, f0⟩ := (hl.below hB2).get hlt
                simp at e3
                obtain ⟨rfl, rfl⟩ := e3
                obtain ⟨b4, o4, e4, bl2, f1⟩ := (hl.below hB2).get (i := m) (by omega)
                simp at e4
                obtain ⟨rfl, rfl⟩ := e4
                have Hpm := Lib.hid (Hpr.out m hmk)
                have Hall2 := Lib.hid hall2
                clear hall2
                have hx1 := Hwi.out
                obtain ⟨X, hX⟩ : ∃ X : Nat, l.getD k 0 = X := ⟨(l.getD k 0).toNat, by omega⟩
                have hy1 := Hal.out m hmk
                obtain ⟨Y, hY⟩ : ∃ Y : Nat, l.getD m 0 = Y := ⟨(l.getD m 0).toNat, by omega⟩
                rw [hX] at f0 hx1
                rw [hY] at f1 hy1
                have hk2 := fun w2 (h : Below wr2.heap.size wr2 w2) => r6clash_any a _ cap ps Y X w2 ((hp.below hB2).below h) (by omega) (by omega)
                rw [hX, hY] at Hpm
                simp only [Int.toNat_natCast] at Hpm
                have HX := Lib.hid hX
                have HY := Lib.hid hY
                clear hX hY hx1 hy1
                obtain ⟨B, hcl⟩ : ∃ B, clB (pns ps) Y X = B := ⟨_, rfl⟩
                rw [hcl] at hk2 Hpm
                have Hcl := Lib.hid hcl
                clear hcl
                go_wp2_with fail
                refine (wpIn_wide (n := 0)).1 ?_
                refine SLF.rule (ro := none) (by kernel_rfl) [] [43, 44, 45, 46, 47, 48, 49, 50, 51, 52, 53] [SLF.pq 43 [] (.slice a ps.length cap), SLF.pq 44 [] (.slice (some ⟨b, o, none⟩) l.length cl), SLF.pq 45 [] (.int .i64 m), SLF.pq 46 [1, 2] (.pointer (some ⟨b, o + m, none⟩)), SLF.pq 47 [3] (.int .i64 Y), SLF.pq 48 [] (.slice (some ⟨b, o, none⟩) l.length cl), SLF.pq 49 [] (.int .i64 k), SLF.pq 50 [5, 6] (.pointer (some ⟨b, o + k, none⟩)), SLF.pq 51 [7] (.int .i64 X), SL.pu 52 [0, 4, 8] (.bool B), SLF.pq 53 [9] (.bool (!B))]
                  [10] (by kernel_rfl) (by kernel_rfl) (fun _ => []) (SL.none_held rfl) (by simp) ?_ ?_
                · refine ⟨?_, ?_, ?_, ?_, ?_, ?_, ?_, ?_, ?_, ?_, ?_, trivial⟩
                  all_goals refine SLF.ob fun us w' Fe hG hu hd hv Kx hK => ?_
                  all_goals simp [SL.frame, SL.put', SL.Used, SL.Seen, SL.pu, SL.row, SL.box, SL.rowIn, SL.boxIn, SL.boxAt, SL.boxAtIn, Bd.v, Bd.cs, SLF.pq] at hu hv hK
                  all_goals (have hB5 : Below wr2.heap.size wr2 w' := hG.below')
                  all_goals (have hcc := (bcell hB5).1)
                  all_goals (rw [← hcc _ _ bl1] at f0 f1)
                  all_goals clear hcc hd hv hG
                  all_goals first
                    | refine SLF.wpo_do (SLF.wanted_free rfl) (by intro c h; cases h) ?_
                    | refine SLF.wpo_do (SLF.wanted_by rfl rfl (by simp [SL.frame, SL.put', hu]; done)) (by intro c h; cases h) ?_
                  all_goals simp [SL.frame, SL.put', SL.Used, SL.Seen, SL.pu, SL.row, SL.box, SL.rowIn, SL.boxIn, SL.boxAt, SL.boxAtIn, Bd.v, Bd.cs]
                  all_goals try (go_step; exact hK _ _ _ _ (by simp [Act.put, *]; done) (SL.Chg.refl _ _) rfl rfl (by simp) (by simp))
                  go_step
                  refine (hk2 _ hB5).mono ?_
                  rintro e w2 ⟨rfl, hb3⟩
                  exact hK _ _ w2 _ (by simp [Act.put, *]; done) (.of_below hb3) rfl rfl (by simp)
                · intro us w5 Fs hG hu hbd hd
                  simp [SL.frame, SL.put', SL.Used, SL.Seen, SL.pu, SL.row, SL.box, SL.rowIn, SL.boxIn, SL.boxAt, SL.boxAtIn, Bd.v, Bd.cs, SLF.pq] at hu ⊢
                  have hB5 : Below wr2.heap.size wr2 w5 := hG.below'
                  obtain ⟨u36, _⟩ := hu
                  simp only [u36]
                  clear hbd hd hG f0 f1
                  cases B
                  · have Hf := Lib.hid (Hpm.out (fun h => by cases h.2))
                    go_wp2_with fail
                    go_ret
                    exact ⟨ret_bool (Hf.out.symm.trans HT.out), hB2.ch2 hB5⟩
                  · go_wp2_with fail
                    go_roundw
                    case rel => exact ⟨m + 1, by omega, by go_num, hB2.ch2 hB5, fun j hj => by
                      rcases (by omega : j < m ∨ j = m) with h | h
                      · exact Hall2.out j h
                      · subst h; rw [HX.out, HY.out]; exact Hcl.out⟩
                    case measure => simp [RowKit.intOf]; omega
              · have hmk' : m = k := by omega
                subst hmk'
                have Hall2 := Lib.hid hall2
                clear hall2
                go_wp2_with fail
                go_roundw
                case rel => exact ⟨m + 1, by omega, by go_num, hB2, Hgo.out H1.out Hgd.out Hall2.out⟩
                case measure => simp [RowKit.intOf]; omega
          · have hgt : decide ((0 : Int) < k) = true := by simp; omega
            have hgt2 : decide (0 < k) = true := by simpa using e
            obtain ⟨y, hy⟩ : ∃ y, l.getD (k - 1) 0 = y := ⟨_, rfl⟩
            have d2 := d1 e
            rw [hy] at d2 hgd
            have Hy := Lib.hid hy
            clear hy
            have hge : decide (x ≤ y) = false := by simp only [decide_eq_false_iff_not]; omega
            have e1 : (k : Int) - 1 = ((k - 1 : Nat) : Int) := by omega
            have i2 : (k : Int) - 1 < (l.length : Int) := by omega
            have i3 : (0 : Int) ≤ (k : Int) - 1 := by omega
            have e2 : ((k : Int) - 1).toNat = k - 1 := by omega
            clear hgd d1
            have hB1' := fun n => belowN (n := n) hB
            go_wp2_with fail
            go_quiet ((go_at_call 93; exact Calls.quiet_of_same (hW _)))
            go_wp2_with fail
            have hB1 := hB1' nq
            clear hB1' hB d0
            go_loopw [6] (fun i wr => ∃ m : Nat, m ≤ k ∧ i = .int .i64 m ∧ Below w.heap.size w wr ∧ clM (pns ps) l k m) (fun i _ => k - (RowKit.intOf i).toNat)
            case atStart => exact ⟨0, Nat.zero_le _, rfl, hB1, fun j hj => absurd hj (by omega)⟩
            case round =>
              rename World => wr2
              obtain ⟨m, hm, rfl, hB2, hall2⟩ := hrel
              have hmn : (0 : Int) ≤ m := by omega
              by_cases hmk : m < k
              · have m1 : (m : Int) < (k : Int) := by omega
                have m2 : (m : Int) < (l.length : Int) := by omega
                obtain ⟨b3, o3, e3, bl1, f0⟩ := (hl.below hB2).get hlt
                simp at e3
                obtain ⟨rfl, rfl⟩ := e3
                obtain ⟨b4, o4, e4, bl2, f1⟩ := (hl.below hB2).get (i := m) (by omega)
                simp at e4
                obtain ⟨rfl, rfl⟩ := e4
                have Hpm := Lib.hid (Hpr.out m hmk)
                have Hall2 := Lib.hid hall2
                clear hall2
                have hx1 := Hwi.out
                obtain ⟨X, hX⟩ : ∃ X : Nat, l.getD k 0 = X := ⟨(l.getD k 0).toNat, by omega⟩
                have hy1 := Hal.out m hmk
                obtain ⟨Y, hY⟩ : ∃ Y : Nat, l.getD m 0 = Y := ⟨(l.getD m 0).toNat, by omega⟩
                rw [hX] at f0 hx1
                rw [hY] at f1 hy1
                have hk2 := fun w2 (h : Below wr2.heap.size wr2 w2) => r6clash_any a _ cap ps Y X w2 ((hp.below hB2).below h) (by omega) (by omega)
                rw [hX, hY] at Hpm
                simp only [Int.toNat_natCast] at Hpm
                have HX := Lib.hid hX
                have HY := Lib.hid hY
                clear hX hY hx1 hy1
                obtain ⟨B, hcl⟩ : ∃ B, clB (pns ps) Y X = B := ⟨_, rfl⟩
                rw [hcl] at hk2 Hpm
                have Hcl := Lib.hid hcl
                clear hcl
                go_wp2_with fail
                refine (wpIn_wide (n := 0)).1 ?_
                refine SLF.rule (ro := none) (by kernel_rfl) [] [43, 44, 45, 46, 47, 48, 49, 50, 51, 52, 53] [SLF.pq 43 [] (.slice a ps.length cap), SLF.pq 44 [] (.slice (some ⟨b, o, none⟩) l.length cl), SLF.pq 45 [] (.int .i64 m), SLF.pq 46 [1, 2] (.pointer (some ⟨b, o + m, none⟩)), SLF.pq 47 [3] (.int .i64 Y), SLF.pq 48 [] (.slice (some ⟨b, o, none⟩) l.length cl), SLF.pq 49 [] (.int .i64 k), SLF.pq 50 [5, 6] (.pointer (some ⟨b, o + k, none⟩)), SLF.pq 51 [7] (.int .i64 X), SL.pu 52 [0, 4, 8] (.bool B), SLF.pq 53 [9] (.bool (!B))]
                  [10] (by kernel_rfl) (by kernel_rfl) (fun _ => []) (SL.none_held rfl) (by simp) ?_ ?_
                · refine ⟨?_, ?_, ?_, ?_, ?_, ?_, ?_, ?_, ?_, ?_, ?_, trivial⟩
                  all_goals refine SLF.ob fun us w' Fe hG hu hd hv Kx hK => ?_
                  all_goals simp [SL.frame, SL.put', SL.Used, SL.Seen, SL.pu, SL.row, SL.box, SL.rowIn, SL.boxIn, SL.boxAt, SL.boxAtIn, Bd.v, Bd.cs, SLF.pq] at hu hv hK
                  all_goals (have hB5 : Below wr2.heap.size wr2 w' := hG.below')
                  all_goals (have hcc := (bcell hB5).1)
                  all_goals (rw [← hcc _ _ bl1] at f0 f1)
                  all_goals clear hcc hd hv hG
                  all_goals first
                    | refine SLF.wpo_do (SLF.wanted_free rfl) (by intro c h; cases h) ?_
                    | refine SLF.wpo_do (SLF.wanted_by rfl rfl (by simp [SL.frame, SL.put', hu]; done)) (by intro c h; cases h) ?_
                  all_goals simp [SL.frame, SL.put', SL.Used, SL.Seen, SL.pu, SL.row, SL.box, SL.rowIn, SL.boxIn, SL.boxAt, SL.boxAtIn, Bd.v, Bd.cs]
                  all_goals try (go_step; exact hK _ _ _ _ (by simp [Act.put, *]; done) (SL.Chg.refl _ _) rfl rfl (by simp) (by simp))
                  go_step
                  refine (hk2 _ hB5).mono ?_
                  rintro e w2 ⟨rfl, hb3⟩
                  exact hK _ _ w2 _ (by simp [Act.put, *]; done) (.of_below hb3) rfl rfl (by simp)
                · intro us w5 Fs hG hu hbd hd
                  simp [SL.frame, SL.put', SL.Used, SL.Seen, SL.pu, SL.row, SL.box, SL.rowIn, SL.boxIn, SL.boxAt, SL.boxAtIn, Bd.v, Bd.cs, SLF.pq] at hu ⊢
                  have hB5 : Below wr2.heap.size wr2 w5 := hG.below'
                  obtain ⟨u36, _⟩ := hu
                  simp only [u36]
                  clear hbd hd hG f0 f1
                  cases B
                  · have Hf := Lib.hid (Hpm.out (fun h => by cases h.2))
                    go_wp2_with fail
                    go_ret
                    exact ⟨ret_bool (Hf.out.symm.trans HT.out), hB2.ch2 hB5⟩
                  · go_wp2_with fail
                    go_roundw
                    case rel => exact ⟨m + 1, by omega, by go_num, hB2.ch2 hB5, fun j hj => by
                      rcases (by omega : j < m ∨ j = m) with h | h
                      · exact Hall2.out j h
                      · subst h; rw [HX.out, HY.out]; exact Hcl.out⟩
                    case measure => simp [RowKit.intOf]; omega
              · have hmk' : m = k := by omega
                subst hmk'
                have Hall2 := Lib.hid hall2
                clear hall2
                go_wp2_with fail
                go_roundw
                case rel => exact ⟨m + 1, by omega, by go_num, hB2, Hgo.out H1.out Hgd.out Hall2.out⟩
                case measure => simp [RowKit.intOf]; omega
        · have d2 := d1 hk0
          clear d1
          have Hf := Lib.hid (Hpr.out (k - 1) (by omega) (fun h => hbad h.1))
          have hgt : decide ((0 : Int) < k) = true := by simp; omega
          have hgt2 : decide (0 < k) = true := by simpa using hk0
          have hge : decide (l.getD k 0 ≤ l.getD (k - 1) 0) = true := by simp only [decide_eq_true_eq]; omega
          have e1 : (k : Int) - 1 = ((k - 1 : Nat) : Int) := by omega
          have i2 : (k : Int) - 1 < (l.length : Int) := by omega
          have i3 : (0 : Int) ≤ (k : Int) - 1 := by omega
          have e2 : ((k : Int) - 1).toNat = k - 1 := by omega
          generalize l.getD k 0 = x at *
          generalize l.getD (k - 1) 0 = y at *
          clear hbad
          go_wp2_with fail
          go_quiet ((go_at_call 93; exact Calls.quiet_of_same (hW _)))
          go_wp2
          go_ret
          exact ⟨ret_bool (Hf.out.symm.trans HT.out), belowN hB⟩
    · rw [List.take_of_length_le (by omega)] at Hall
      go_wp2_with fail
      go_ret
      exact ⟨ret_bool (Hall.out.symm.trans HT.out), hB⟩
end Go.Proofs.YtodkbfbbpfghiaaGreat
