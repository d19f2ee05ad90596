/-
  Lemmas and walks for the laws on bounds and their sums; the parts' own heads say what each proves, for every input.
-/
import Derived.Test.YtlkcfohmoeadbaaGreatPk07
import Derived.Laws.CopyOwn
import Derived.Defers
import Derived.Recover
import Derived.Laws.Pointers
set_option linter.unusedSimpArgs false
set_option linter.unusedVariables false
set_option linter.unnecessarySimpa false
/-
  Gauge, walked: solved, Solve, solvable, empty, from, greatest.
-/
namespace Go.Proofs.YtlkcfohmoeadbaaGreat
open Go.RowKit Go.Shelf
set_option maxHeartbeats 1000000
set_option maxRecDepth 100000

theorem RL.pass_len (far : Int) (bs : List Bd) (s : RL) : ∀ k, (s.pass far bs k).r.length = s.r.length ∧ (s.pass far bs k).last.length = s.last.length
  | 0 => ⟨rfl, rfl⟩
  | k + 1 => by
    obtain ⟨h1, h2⟩ := RL.pass_len far bs s k
    simp only [RL.pass, RL.step]
    split
    · simp [RL.upd, h1, h2]
    · exact ⟨h1, h2⟩
theorem settle_len (far : Int) (bs : List Bd) : ∀ (n : Nat) (s : RL), (settle far bs n s).1.r.length = s.r.length ∧ (settle far bs n s).1.last.length = s.last.length
  | 0, _ => ⟨rfl, rfl⟩
  | n + 1, s => by
    have h := RL.pass_len far bs s bs.length
    simp only [settle]
    split
    · exact h
    · have h2 := settle_len far bs n (s.pass far bs bs.length)
      exact ⟨h2.1.trans h.1, h2.2.trans h.2⟩

/-- The solution, by passes from zeros. -/
def gsol (p : Int) (bs : List Bd) : RL × Bool := settle FAR bs (p + 1).toNat ⟨List.replicate 60 0, List.replicate 60 (-1), 0⟩
def okB (p : Int) (bs : List Bd) : Bool := (gsol p bs).2
def solR (p : Int) (bs : List Bd) : List Int := (gsol p bs).1.r.take p.toNat
theorem gsol_len (p : Int) (bs : List Bd) : (gsol p bs).1.r.length = 60 ∧ (gsol p bs).1.last.length = 60 := by
  have := settle_len FAR bs (p + 1).toNat ⟨List.replicate 60 0, List.replicate 60 (-1), 0⟩
  exact ⟨this.1.trans rfl, this.2.trans rfl⟩
theorem solR_len {p : Int} (bs : List Bd) (h : 1 ≤ p ∧ p ≤ 60) : (solR p bs).length = p.toNat := by
  simp [solR, (gsol_len p bs).1]; omega

/-- What stands of a system that may be reckoned with: its points, its bounds. -/
structure Sys (p : Int) (bs : List Bd) : Prop where
  p1 : 1 ≤ p
  p2 : p ≤ 60
  len : bs.length ≤ 402
  inr : ∀ b ∈ bs, b.inr

theorem Sys.of_chk {p : Int} {bs : List Bd} (h : chk p bs = 0) : Sys p bs := by
  unfold chk at h
  split at h
  · omega
  · rename_i h1
    split at h
    · omega
    · rename_i h2
      refine ⟨by omega, by omega, by omega, fun b hb => ?_⟩
      split at h
      · rename_i h3
        have h4 := List.all_eq_true.1 h3 b hb
        simp only [Bd.ok, Bool.and_eq_true, withinB_iff] at h4
        exact ⟨by omega, by omega, by omega, by omega, by omega, by omega⟩
      · omega

theorem zeros_cells : ints (List.replicate 60 0) = #[.int .i64 0, .int .i64 0, .int .i64 0, .int .i64 0, .int .i64 0, .int .i64 0, .int .i64 0, .int .i64 0, .int .i64 0, .int .i64 0, .int .i64 0, .int .i64 0, .int .i64 0, .int .i64 0, .int .i64 0, .int .i64 0, .int .i64 0, .int .i64 0, .int .i64 0, .int .i64 0, .int .i64 0, .int .i64 0, .int .i64 0, .int .i64 0, .int .i64 0, .int .i64 0, .int .i64 0, .int .i64 0, .int .i64 0, .int .i64 0, .int .i64 0, .int .i64 0, .int .i64 0, .int .i64 0, .int .i64 0, .int .i64 0, .int .i64 0, .int .i64 0, .int .i64 0, .int .i64 0, .int .i64 0, .int .i64 0, .int .i64 0, .int .i64 0, .int .i64 0, .int .i64 0, .int .i64 0, .int .i64 0, .int .i64 0, .int .i64 0, .int .i64 0, .int .i64 0, .int .i64 0, .int .i64 0, .int .i64 0, .int .i64 0, .int .i64 0, .int .i64 0, .int .i64 0, .int .i64 0] := rfl

theorem ints_slice {w : World} {N : Nat} {l : List Int} {t : TypeId} {n cap : Nat} (h : w.heap[N]? = some (.cells (ints l) t (0, 0))) (hn : n ≤ l.length) (hl : l.length ≤ 100000) : IntsAt w (some ⟨N, 0, none⟩) n cap (l.take n) := by
  refine ⟨by simp; omega, by simp; omega, ⟨(fun h => by cases h), fun x hx => ?_⟩⟩
  simp at hx
  subst hx
  refine ⟨rfl, (Array.getElem?_eq_some_iff.1 h).1, fun i u hi => ?_⟩
  rw [Nat.zero_add, (SL.cells_of h).1]
  simp only [List.getElem?_map, List.getElem?_take] at hi
  split at hi
  · simpa [ints] using hi
  · simp at hi

theorem sl_row (w : World) (N : Nat) (p : Int) (h0 : 0 ≤ p) (h1 : p ≤ 60) :
    (Instr.sliceAt 77 (.pointer (some ⟨N, 0, none⟩)) none (some (.int .i64 p)) none).run Tryz.prog w = .ok (.slice (some ⟨N, 0, none⟩) p.toNat 60) w := by
  obtain ⟨i, hi⟩ := Option.isSome_iff_exists.1 (show (Tryz.prog.info? 3).isSome = true by kernel_rfl)
  have hl : Tryz.prog.arrayLen 77 = 60 := by kernel_rfl
  have he : Tryz.prog.elem 77 = 3 := by kernel_rfl
  rw [run_sliceAt_array_h (P := Tryz.prog) (t := 77) (w := w) ⟨N, 0, none⟩ (by rw [hl, he]; exact Tryz.underlying77) .i64 p h0 (by rw [hl]; exact h1), hl, he, run_sizeOf w hi]
  simp [slicedAt, add_none]

theorem gsolved_any (p : Int) (a : Option Addr) (n cap : Nat) (bs : List Bd) (w : World) (hb : BdsAt w a n cap bs) (hs : Sys p bs) :
    Calls Tryz.prog 52 #[.agg #[.int .i64 p, .slice a n cap]] w fun e w' => ∃ v, e = .returned (.tuple #[v, .bool (okB p bs)]) ∧ Below w.heap.size w w' ∧
      (okB p bs = false → v = .slice none 0 0) ∧ (okB p bs = true → w'.ownsRow w.heap.size 3 1 v p.toNat ((solR p bs).map (.int .i64))) := by
  obtain rfl := hb.len
  obtain ⟨p1, p2, h402, hin⟩ := hs
  have hpt : ((p.toNat : Nat) : Int) = p := by omega
  have hlen := gsol_len p bs
  have hok : okB p bs = (gsol p bs).2 := rfl
  have hsol : solR p bs = (gsol p bs).1.r.take p.toNat := rfl
  have hset := fun (w1 : World) (hb1 : BdsAt w1 a bs.length cap bs) (N : Nat) (hN : w1.heap[N]? = some (.cells (ints (List.replicate 60 0)) 77 (0, 0))) (hne : ∀ x, a = some x → x.block ≠ N) =>
    gsettled_any p a bs.length cap bs N (List.replicate 60 0) w1 hb1 h402 hin ⟨p1, p2⟩ hN (by simp) (fun i h0 h1 => by
      have : gi (List.replicate 60 0) i = 0 := by
        unfold gi
        rw [List.getD_eq_getElem?_getD, List.getElem?_replicate]
        split <;> rfl
      rw [this]; unfold FAR; omega) hne
  change ∀ (w1 : World) (_ : BdsAt w1 a bs.length cap bs) (N : Nat) (_ : w1.heap[N]? = some (.cells (ints (List.replicate 60 0)) 77 (0, 0))) (_ : ∀ x, a = some x → x.block ≠ N),
    Calls Tryz.prog 78 #[.agg #[.int .i64 p, .slice a bs.length cap], .pointer (some ⟨N, 0, none⟩)] w1 fun e w' => e = .returned (.tuple #[.agg (ints (gsol p bs).1.last), .bool (gsol p bs).2]) ∧ SL.Chg [N] w1 w' ∧ w'.heap[N]? = some (.cells (ints (gsol p bs).1.r) 77 (0, 0)) at hset
  generalize gsol p bs = g at *
  obtain ⟨⟨gr, gl, gn⟩, gb⟩ := g
  simp only at hlen hok hsol hset
  obtain ⟨hl1, hl2⟩ := hlen
  simp only [hok, hsol]
  clear hok hsol
  have hax : ∀ x, a = some x → x.block < w.heap.size := fun x hx => (hb.at_ x hx).2.1
  have hsl := fun (w' : World) (N : Nat) => sl_row w' N p (by omega) p2
  cases gb <;>
  · go_enter Tryz.func52, Tryz.ntmps52
    go_wp2_with (first
      | (refine wpList_starr_new rfl _ _ rfl rfl rfl rfl rfl hl2 ?_)
      | (go_at_call 78; refine (hset _ (hb.below (by ((repeat (first | assumption | exact Below.refl _ _ | refine Below.alloc ?_ ?_ _ | refine Below.setCell ?_ ?_ _ | refine Below.drew ?_ | refine belowN ?_ | refine Below.up ?_ (by assumption) ?_)) <;> (first | assumption | omega | (simp; done) | (simp; omega))))) _ ((heap_alloc2_new w _ _).trans rfl) (fun x hx => by have := hax x hx; omega)).mono ?_; rintro e w2 ⟨rfl, hc2, hr2⟩
         obtain ⟨hg1, hg2⟩ := SL.Chg.cellsE hc2
         have hg3 := (hg1 w.heap.size 0 (by simp; omega) (by simp))
         have hg4 := (hg1 w.heap.size 1 (by simp; omega) (by simp))
         have hz2 := hc2.size
         simp only [World.size_alloc] at hz2
         have hz3 : w.heap.size < w2.heap.size := by omega
         simp [go_sem] at hg3 hg4
         clear hg1 hg2)
      | (go_at_call 79; refine (gcopiedI_any _ _ _ _ _ (ints_slice (l := gr) ((Below.heap_alloc _ _ _ (by omega)).trans hr2) (by omega) (by omega)) (by simp; omega)).mono ?_; rintro e w3 ⟨v, rfl, ho3, hb3⟩))
    first
      | (refine bodyPost_ret (v := .tuple #[.slice none 0 0, .bool false]) (by simp [results, Tryz.results52, go_sem, *]) rfl ⟨_, rfl, ?_, fun _ => rfl, fun h => by cases h⟩
         exact ((((Below.refl _ w).alloc (Nat.le_refl _) _).alloc (by simp) _).trans (hc2.belowE (by simp; omega) (by simp))).alloc (by omega) _)
      | (refine bodyPost_ret (v := .tuple #[v, .bool true]) (by simp [results, Tryz.results52, go_sem, *]) rfl ⟨_, rfl, ?_, (fun h => by cases h), fun _ => ?_⟩
         · exact (((((Below.refl _ w).alloc (Nat.le_refl _) _).alloc (by simp) _).trans (hc2.belowE (by simp; omega) (by simp))).alloc (by omega) _).trans (hb3.mono (by simp; omega))
         · have h4 := SL.row_base ho3 (base' := w.heap.size) (by simp; omega)
           simpa [hl1, show min p.toNat 60 = p.toNat by omega] using h4)

theorem gsolvable_any (p : Int) (a : Option Addr) (n cap : Nat) (bs : List Bd) (w : World) (hb : BdsAt w a n cap bs) (hs : Sys p bs) :
    Calls Tryz.prog 58 #[.agg #[.int .i64 p, .slice a n cap]] w fun e w' => e = .returned (.int .i64 (if okB p bs then 0 else 10)) ∧ Below w.heap.size w w' := by
  have hbx := hb.below (w' := w.alloc (Obj.cells #[.int .i64 p, .slice a n cap] 24)) ((Below.refl _ _).alloc (Nat.le_refl _) _)
  have hS := fun w1 (hb1 : BdsAt w1 a n cap bs) => gsolved_any p a n cap bs w1 hb1 hs
  generalize okB p bs = o at *
  cases o <;>
  · go_enter Tryz.func58, Tryz.ntmps58
    go_wp2_with (go_at_call 52; refine (hS _ hbx).mono ?_; rintro e w2 ⟨v, rfl, hb2, hn, ho⟩)
    go_ret
    exact ⟨rfl, ((Below.refl _ w).alloc (Nat.le_refl _) _).trans (hb2.mono (by simp))⟩

theorem gSolve_any (p : Int) (a : Option Addr) (n cap : Nat) (bs : List Bd) (w : World) (hb : BdsAt w a n cap bs) :
    Calls Tryz.prog 23 #[.agg #[.int .i64 p, .slice a n cap]] w fun e w' => ∃ v, e = .returned (.tuple #[v, .bool (decide (chk p bs = 0) && okB p bs), .int .i64 (chk p bs)]) ∧ Below w.heap.size w w' ∧
      (¬ (chk p bs = 0 ∧ okB p bs = true) → v = .slice none 0 0) ∧ (chk p bs = 0 → okB p bs = true → w'.ownsRow w.heap.size 3 1 v p.toNat ((solR p bs).map (.int .i64))) := by
  have hbx := hb.below (w' := w.alloc (Obj.cells #[.int .i64 p, .slice a n cap] 24)) ((Below.refl _ _).alloc (Nat.le_refl _) _)
  by_cases h0 : chk p bs = 0
  · have hS := fun w1 (hb1 : BdsAt w1 a n cap bs) => gsolved_any p a n cap bs w1 hb1 (Sys.of_chk h0)
    go_enter Tryz.func23, Tryz.ntmps23
    go_wp2_with (first
      | (go_at_call 10; refine (gcheck_any _ _ _ _ _ _ hbx).mono ?_; rintro e w1 ⟨rfl, hb1⟩; obtain ⟨hc1, hf1⟩ := bcell hb1; have hz1a := lt_size hb1 (b := w.heap.size) (by first | assumption | omega | (simp; done) | (simp; omega)))
      | (go_at_call 52; refine (hS _ (hbx.below hb1)).mono ?_; rintro e w2 ⟨v, rfl, hb2, hn, ho⟩))
    refine bodyPost_ret (v := .tuple #[v, .bool (okB p bs), .int .i64 0]) (by simp [results, Tryz.results23, go_sem, *]) rfl ⟨v, by simp [h0], ?_, fun h => hn (by cases hk : okB p bs with | false => rfl | true => exact absurd ⟨h0, hk⟩ h), fun _ h => SL.row_base (ho h) (by have := hb1.size; simp at this; omega)⟩
    exact (((Below.refl _ w).alloc (Nat.le_refl _) _).trans (hb1.mono (by simp))).trans (hb2.mono (by have := hb1.size; simp at this; omega))
  · have h0' : (chk p bs == 0) = false := by simpa using h0
    go_enter Tryz.func23, Tryz.ntmps23
    go_wp2_with (go_at_call 10; refine (gcheck_any _ _ _ _ _ _ hbx).mono ?_; rintro e w1 ⟨rfl, hb1⟩; obtain ⟨hc1, hf1⟩ := bcell hb1; have hz1a := lt_size hb1 (b := w.heap.size) (by first | assumption | omega | (simp; done) | (simp; omega)))
    refine bodyPost_ret (v := .tuple #[.slice none 0 0, .bool false, .int .i64 (chk p bs)]) (by simp [results, Tryz.results23, go_sem, *]) rfl ⟨_, by simp [h0], ?_, fun _ => rfl, fun h => absurd h h0⟩
    exact ((Below.refl _ w).alloc (Nat.le_refl _) _).trans (hb1.mono (by simp))

/-- far in all points, nothing in one. -/
def empty0 (k : Nat) : List Int := List.replicate k FAR ++ List.replicate (60 - k) 0
theorem empty0_len (k : Nat) (h : k ≤ 60) : (empty0 k).length = 60 := by simp [empty0]; omega
theorem empty0_next (k : Nat) (h : k < 60) : (empty0 k).set k FAR = empty0 (k + 1) := by
  unfold empty0
  rw [List.set_append_right _ _ (by simp)]
  rw [show 60 - k = (60 - (k + 1)) + 1 by omega, List.replicate_succ]
  simp [List.replicate_succ']
def fars : List Int := List.replicate 60 FAR
theorem fars_len : fars.length = 60 := by simp [fars]
theorem empty0_60 : empty0 60 = fars := by simp [empty0, fars]

theorem gempty_any (w : World) : Calls Tryz.prog 64 #[] w fun e w' => e = .returned (.agg (ints fars)) ∧ Below w.heap.size w w' := by
  go_enter Tryz.func64, Tryz.ntmps64
  go_wp2_with fail
  go_loopw [3, 2] (fun i _ wr => ∃ k : Nat, k ≤ 60 ∧ i = .int .i64 k ∧ Below w.heap.size w wr ∧ wr.heap[w.heap.size]? = some (.cells (ints (List.replicate 60 0)) 77 (0, 0)) ∧ wr.heap[w.heap.size + 1]? = some (.cells (ints (empty0 k)) 77 (0, 0))) (fun i _ _ => 60 - (intOf i).toNat)
  case atStart =>
    refine ⟨0, by omega, rfl, by ((repeat (first | assumption | exact Below.refl _ _ | refine Below.alloc ?_ ?_ _ | refine Below.setCell ?_ ?_ _ | refine Below.drew ?_ | refine belowN ?_ | refine Below.up ?_ (by assumption) ?_)) <;> (first | assumption | omega | (simp; done) | (simp; omega))), ?_, ?_⟩
    · exact (Below.heap_alloc _ _ _ (by simp)).trans ((World.alloc_heap_new w _).trans rfl)
    · have h := World.alloc_heap_new (w.alloc (.cells (ints (List.replicate 60 0)) 77)) (.cells (ints (empty0 0)) 77)
      rw [World.size_alloc] at h
      exact h
  case round =>
    obtain ⟨k, hk, rfl, hB, h0, h1⟩ := hrel
    by_cases hlt : k < 60
    · have c2k := ((SL.cells_of h1).1 k).trans (ints_get (empty0 k) k (by rw [empty0_len k hk]; exact hlt))
      have f2k := (SL.cells_of h1).2 k
      have hk0 : (0 : Int) ≤ k := by omega
      go_wp2_with fail
      go_roundw
      case rel =>
        refine ⟨k + 1, by omega, by go_num, by ((repeat (first | assumption | exact Below.refl _ _ | refine Below.alloc ?_ ?_ _ | refine Below.setCell ?_ ?_ _ | refine Below.drew ?_ | refine belowN ?_ | refine Below.up ?_ (by assumption) ?_)) <;> (first | assumption | omega | (simp; done) | (simp; omega))), ?_, ?_⟩
        · rw [← h0]; exact Below.heap_setCell _ _ _ _ (by simp)
        · rw [← empty0_next k hlt, ← ints_set]; exact SL.heap_set h1 _
      case measure => simp [intOf]; omega
    · obtain rfl : k = 60 := by omega
      go_wp2_with (first
        | (refine wpList_ldrow rfl _ rfl rfl h1 (empty0_len 60 (by omega)) ?_)
        | (refine wpList_strow rfl _ _ rfl rfl rfl rfl h0 (by simp [ints]) (empty0_len 60 (by omega)) ?_))
      have hr := setRow_heap wr w.heap.size _ (ints (empty0 60)) 77 _ h0
      have hv := run_var_row hr (empty0_len 60 (by omega))
      refine bodyPost_ret (v := .agg (ints (empty0 60))) (by simp [results, Tryz.results64, asAddr, hv, Act.put]) rfl ⟨by rw [empty0_60], below_setRow hB (Nat.le_refl _) _⟩

theorem setRow_other (w : World) (g : Nat) (cs : Array Value) {k : Nat} (h : k ≠ g) : (w.setRow g cs).heap[k]? = w.heap[k]? := by
  unfold World.setRow; simp [Array.getElem?_modify, Ne.symm h]
theorem chg_setRow {E : List Nat} (w : World) (g : Nat) (cs : Array Value) (h : g ∈ E) : SL.Chg E w (w.setRow g cs) :=
  ⟨rfl, rfl, rfl, by simp [World.setRow], fun k _ hn => setRow_other w g cs (fun e => hn (e ▸ h))⟩

theorem wpList_strow_op {ops : Array Oper} {rest : List Oper} {o : Oper} {a : Act} {w : World} {Q : Exit → Act → World → Prop} (hgd : o.guard = none) (x y : Operand) (ho : o.op = .store 77 x y) (hd : o.dst = none)
    {g : Nat} (hx : a.eval x = .pointer (some ⟨g, 0, none⟩)) {l : List Int} (hy : a.eval y = .agg (ints l)) {t : TypeId} {old : Array Value} (hg : w.heap[g]? = some (.cells old t (0, 0))) (ho' : old.size = 60) (hl : l.length = 60)
    (h : ∀ W', SL.Chg [g] w W' → W'.heap[g]? = some (.cells (ints l) t (0, 0)) → wpList Tryz.prog ops Q rest a W') : wpList Tryz.prog ops Q (o :: rest) a w :=
  wpList_strow hgd x y ho hd hx hy hg ho' hl (h _ (chg_setRow _ _ _ (by simp)) (setRow_heap _ _ _ _ _ _ hg))
theorem wpList_starr_op {ops : Array Oper} {rest : List Oper} {o : Oper} {a : Act} {w : World} {Q : Exit → Act → World → Prop} (hgd : o.guard = none) (x y : Operand) (ho : o.op = .store 76 x y) (hd : o.dst = none)
    {g : Nat} (hx : a.eval x = .pointer (some ⟨g, 0, none⟩)) {l : List Int} (hy : a.eval y = .agg (ints l)) {t : TypeId} {old : Array Value} (hg : w.heap[g]? = some (.cells old t (0, 0))) (ho' : old.size = 60) (hl : l.length = 60)
    (h : ∀ W', SL.Chg [g] w W' → W'.heap[g]? = some (.cells (ints l) t (0, 0)) → wpList Tryz.prog ops Q rest a W') : wpList Tryz.prog ops Q (o :: rest) a w :=
  wpList_starr hgd x y ho hd hx hy hg ho' hl (h _ (chg_setRow _ _ _ (by simp)) (setRow_heap _ _ _ _ _ _ hg))

/-- The sums from one point. -/
def far0 (a : Int) : List Int := fars.set a.toNat 0
theorem far0_len (a : Int) : (far0 a).length = 60 := by simp [far0, fars]
def gfrom (p : Int) (bs : List Bd) (a : Int) : RL × Bool := settle FAR bs (p + 1).toNat ⟨far0 a, List.replicate 60 (-1), 0⟩
def gD (p : Int) (bs : List Bd) (a b : Int) : Int := gi (gfrom p bs a).1.r b
theorem gfrom_len (p : Int) (bs : List Bd) (a : Int) : (gfrom p bs a).1.r.length = 60 ∧ (gfrom p bs a).1.last.length = 60 := by
  have := settle_len FAR bs (p + 1).toNat ⟨far0 a, List.replicate 60 (-1), 0⟩
  exact ⟨this.1.trans (far0_len a), this.2.trans rfl⟩

theorem gfrom_any (p : Int) (a : Option Addr) (n cap : Nat) (bs : List Bd) (at_ : Int) (w : World) (hb : BdsAt w a n cap bs) (hs : Sys p bs) (h0 : 0 ≤ at_) (h1 : at_ < p) :
    Calls Tryz.prog 81 #[.agg #[.int .i64 p, .slice a n cap], .int .i64 at_] w fun e w' => e = .returned (.tuple #[.agg (ints (gfrom p bs at_).1.r), .agg (ints (gfrom p bs at_).1.last)]) ∧ Below w.heap.size w w' := by
  obtain rfl := hb.len
  obtain ⟨p1, p2, h402, hin⟩ := hs
  have hlen := gfrom_len p bs at_
  have hset := fun (w1 : World) (hb1 : BdsAt w1 a bs.length cap bs) (N : Nat) (hN : w1.heap[N]? = some (.cells (ints (far0 at_)) 77 (0, 0))) (hne : ∀ x, a = some x → x.block ≠ N) =>
    gsettled_any p a bs.length cap bs N (far0 at_) w1 hb1 h402 hin ⟨p1, p2⟩ hN (far0_len _) (fun i q0 q1 => by
      have : gi (far0 at_) i = if i = at_ then 0 else FAR := by
        unfold far0
        rw [gi_set h0 (by rw [fars_len]; omega) q0]
        split
        · rfl
        · unfold gi fars
          rw [List.getD_eq_getElem?_getD, List.getElem?_replicate, if_pos (by omega)]
          rfl
      rw [this]; unfold FAR; split <;> omega) hne
  change ∀ (w1 : World) (_ : BdsAt w1 a bs.length cap bs) (N : Nat) (_ : w1.heap[N]? = some (.cells (ints (far0 at_)) 77 (0, 0))) (_ : ∀ x, a = some x → x.block ≠ N),
    Calls Tryz.prog 78 #[.agg #[.int .i64 p, .slice a bs.length cap], .pointer (some ⟨N, 0, none⟩)] w1 fun e w' => e = .returned (.tuple #[.agg (ints (gfrom p bs at_).1.last), .bool (gfrom p bs at_).2]) ∧ SL.Chg [N] w1 w' ∧ w'.heap[N]? = some (.cells (ints (gfrom p bs at_).1.r) 77 (0, 0)) at hset
  generalize gfrom p bs at_ = g at *
  obtain ⟨⟨gr, gl, gn⟩, gb⟩ := g
  simp only at hlen hset
  obtain ⟨hl1, hl2⟩ := hlen
  have hax : ∀ x, a = some x → x.block < w.heap.size := fun x hx => (hb.at_ x hx).2.1
  have hfl := fars_len
  have hsz : (ints fars).size = 60 := by rw [ints_size, fars_len]
  have hc0 : (ints fars)[at_.toNat]? = some (.int .i64 (gi fars at_)) := gi_cell h0 (by rw [fars_len]; omega)
  go_enter Tryz.func81, Tryz.ntmps81
  go_wp2_with (first
    | (go_at_call 64; refine (gempty_any _).mono ?_; rintro e w1 ⟨rfl, hb1⟩
       have hz1 := hb1.size
       simp only [World.size_alloc] at hz1
       have q0 : w1.cell? ⟨w.heap.size, 0, none⟩ = some (.int .i64 p) := by rw [(bcell hb1).1 _ _ (by simp; omega)]; simp [go_sem]
       have q1 : w1.cell? ⟨w.heap.size, 1, none⟩ = some (.slice a bs.length cap) := by rw [(bcell hb1).1 _ _ (by simp; omega)]; simp [go_sem]
       have hS1 : w.heap.size < w1.heap.size := by omega)
    | (refine wpList_strow_new rfl _ _ rfl rfl rfl rfl rfl hfl ?_)
    | (refine wpList_starr_new rfl _ _ rfl rfl rfl rfl rfl hl2 ?_)
    | (go_at_call 78; refine (hset _ (hb.below (by ((repeat (first | assumption | exact Below.refl _ _ | refine Below.alloc ?_ ?_ _ | refine Below.setCell ?_ ?_ _ | refine Below.drew ?_ | refine belowN ?_ | refine Below.up ?_ (by assumption) ?_)) <;> (first | assumption | omega | (simp; done) | (simp; omega))))) _ ((World.alloc_heap_new _ _).trans (by rw [ints_set]; rfl)) (fun x hx => by have := hax x hx; omega)).mono ?_; rintro e w2 ⟨rfl, hc2, hr2⟩))
  have hz2 := hc2.size
  simp only [World.size_alloc] at hz2
  have m0 : (w2.alloc (Obj.cells (ints gl) 76)).heap[w1.heap.size]? = some (.cells (ints gr) 77 (0, 0)) := (Below.heap_alloc _ _ _ (by omega)).trans hr2
  have m1 : (w2.alloc (Obj.cells (ints gl) 76)).heap[w2.heap.size]? = some (.cells (ints gl) 76 (0, 0)) := World.alloc_heap_new _ _
  have low : ∀ k, k < w.heap.size + 3 → (w2.alloc (Obj.cells (ints gl) 76)).heap[k]? = (((w.alloc (Obj.cells #[.int .i64 p, .slice a bs.length cap] 24)).alloc (Obj.cells (ints (List.replicate 60 0)) 77)).alloc (Obj.cells (ints (List.replicate 60 0)) 76)).heap[k]? := fun k hk => by
    rw [Below.heap_alloc _ _ _ (by omega), hc2.block k (by simp; omega) (by simp; omega), Below.heap_alloc _ _ _ (by omega)]
    exact hb1.block k (by simp; omega)
  have m2 : (w2.alloc (Obj.cells (ints gl) 76)).heap[w.heap.size + 1]? = some (.cells (ints (List.replicate 60 0)) 77 (0, 0)) := by
    rw [low _ (by omega), Below.heap_alloc _ _ _ (by simp)]
    have h := World.alloc_heap_new (w.alloc (Obj.cells #[.int .i64 p, .slice a bs.length cap] 24)) (Obj.cells (ints (List.replicate 60 0)) 77)
    rw [World.size_alloc] at h
    exact h
  have m3 : (w2.alloc (Obj.cells (ints gl) 76)).heap[w.heap.size + 1 + 1]? = some (.cells (ints (List.replicate 60 0)) 76 (0, 0)) := by
    rw [low _ (by omega)]
    have h := World.alloc_heap_new ((w.alloc (Obj.cells #[.int .i64 p, .slice a bs.length cap] 24)).alloc (Obj.cells (ints (List.replicate 60 0)) 77)) (Obj.cells (ints (List.replicate 60 0)) 76)
    rw [World.size_alloc, World.size_alloc] at h
    exact h
  have bW : Below w.heap.size w (w2.alloc (Obj.cells (ints gl) 76)) := by
    refine Below.alloc ?_ (by omega) _
    refine Below.trans ?_ (hc2.belowE (B := w.heap.size) (by simp; omega) (by simp; omega))
    refine Below.alloc ?_ (by omega) _
    refine Below.trans ?_ (hb1.mono (by simp; omega))
    ((repeat (first | assumption | exact Below.refl _ _ | refine Below.alloc ?_ ?_ _ | refine Below.setCell ?_ ?_ _ | refine Below.drew ?_ | refine belowN ?_ | refine Below.up ?_ (by assumption) ?_)) <;> (first | assumption | omega | (simp; done) | (simp; omega)))
  have zW : (w2.alloc (Obj.cells (ints gl) 76)).heap.size = w2.heap.size + 1 := by simp
  generalize hW3 : w2.alloc (Obj.cells (ints gl) 76) = W3 at *
  clear hW3 low
  refine SL.rule (by kernel_rfl) [w.heap.size + 1, w.heap.size + 1 + 1] [17, 18] [SL.pu 17 [] (.agg (ints gr)), SL.pu 18 [] (.agg (ints gl)), SLF.at_ 0 [0, 4] [4] (w.heap.size + 1) 77 (ints gr), SLF.at_ 0 [1, 5] [5] (w.heap.size + 1 + 1) 76 (ints gl),
    SLF.at_ 0 [] [] (w.heap.size + 1) 77 (ints (List.replicate 60 0)), SLF.at_ 0 [] [] (w.heap.size + 1 + 1) 76 (ints (List.replicate 60 0))] [2, 3] (by kernel_rfl) (by kernel_rfl) _ (SLF.two_held rfl rfl rfl ⟨m2, rfl⟩ ⟨m3, rfl⟩ (by omega) (by omega)) (SLF.two_apart (by omega)) ?_ ?_
  · refine ⟨?_, ?_, ?_, ?_, trivial⟩
    all_goals refine SL.ob fun us w' Fe hG hu hd hv K hK => ?_
    all_goals simp only [SL.frame, SL.put', SL.Used, SL.Seen, SL.pu, SL.row, SL.box, SL.rowIn, SL.boxIn, SL.boxAt, SL.boxAtIn, Bd.v, Bd.cs, SLF.at_] at hu
    · have hN2 : w'.heap[w1.heap.size]? = some (.cells (ints gr) 77 (0, 0)) := (hG.block _ (by simp; omega) (by simp; omega)).trans m0
      refine wp_load_row _ _ rfl w1.heap.size (by simp [Act.eval, SL.frame, SL.put']) _ _ _ _ hN2 Tryz.underlying77 rfl (by rw [ints_size, hl1]; kernel_rfl) ?_
      exact hK _ _ _ _ rfl trivial (SL.Chg.refl _ _) ⟨rfl, rfl⟩ (by simp)
    · have hN2 : w'.heap[w2.heap.size]? = some (.cells (ints gl) 76 (0, 0)) := (hG.block _ (by simp; omega) (by simp; omega)).trans m1
      refine wp_load_row _ _ rfl w2.heap.size (by simp [Act.eval, SL.frame, SL.put']) _ _ _ _ hN2 Tryz.underlying76 rfl (by rw [ints_size, hl2]; kernel_rfl) ?_
      exact hK _ _ _ _ rfl trivial (SL.Chg.refl _ _) ⟨rfl, rfl⟩ (by simp)
    · obtain ⟨⟨u1, _⟩, ⟨hh, hF⟩, _⟩ := hu
      refine wp_store_row _ _ _ rfl (w.heap.size + 1) (ints gr) (by simp [Act.eval, SL.frame, SL.put']) (by simp [Act.eval, SL.frame, SL.put', u1]) _ _ hh (by rw [ints_size, hl1]; kernel_rfl) (by rw [ints_size, ints_size, hl1]; rfl) (ints_one _) ?_
      exact hK _ undef _ _ rfl trivial (chg_setRow _ _ _ (by simp [SLF.at_, hF])) ⟨setRow_heap _ _ _ _ _ _ hh, rfl⟩ (by simp [SLF.at_, hF])
    · obtain ⟨⟨u1, _⟩, ⟨hh, hF⟩, _⟩ := hu
      refine wp_store_row _ _ _ rfl (w.heap.size + 1 + 1) (ints gl) (by simp [Act.eval, SL.frame, SL.put']) (by simp [Act.eval, SL.frame, SL.put', u1]) _ _ hh (by rw [ints_size, hl2]; kernel_rfl) (by rw [ints_size, ints_size, hl2]; rfl) (ints_one _) ?_
      exact hK _ undef _ _ rfl trivial (chg_setRow _ _ _ (by simp [SLF.at_, hF])) ⟨setRow_heap _ _ _ _ _ _ hh, rfl⟩ (by simp [SLF.at_, hF])
  · intro us w' Fs hG hu hbd hd
    simp only [SL.frame, SL.put', SL.Used, SL.Seen, SL.pu, SL.row, SL.box, SL.rowIn, SL.boxIn, SL.boxAt, SL.boxAtIn, Bd.v, Bd.cs, SLF.at_] at hu
    obtain ⟨⟨hh1, _⟩, ⟨hh2, _⟩, _⟩ := hu
    simp [SL.frame, SL.put']
    go_wp2
    have v1 := run_var_row hh1 hl1
    have v2 := run_var_arr hh2 hl2
    refine bodyPost_ret (v := .tuple #[.agg (ints gr), .agg (ints gl)]) (by simp [results, Tryz.results81, asAddr, v1, v2]) rfl ⟨rfl, bW.trans (hG.belowF (by omega) (by simp; omega))⟩
end Go.Proofs.YtlkcfohmoeadbaaGreat

/-
  Gauge, walked: greatest, points, tried.
-/
namespace Go.Proofs.YtlkcfohmoeadbaaGreat
open Go.RowKit Go.Shelf
set_option maxHeartbeats 1000000
set_option maxRecDepth 100000

theorem ggreatest_any (p : Int) (a : Option Addr) (n cap : Nat) (bs : List Bd) (x y : Int) (w : World) (hb : BdsAt w a n cap bs) (hs : Sys p bs) (hx0 : 0 ≤ x) (hx1 : x < p) (hy0 : 0 ≤ y) (hy1 : y < p) :
    Calls Tryz.prog 55 #[.agg #[.int .i64 p, .slice a n cap], .int .i64 x, .int .i64 y] w fun e w' => e = .returned (.int .i64 (gD p bs x y)) ∧ Below w.heap.size w w' := by
  have hbx := hb.below (w' := w.alloc (Obj.cells #[.int .i64 p, .slice a n cap] 24)) ((Below.refl _ _).alloc (Nat.le_refl _) _)
  have hlen := gfrom_len p bs x
  have hgD : gD p bs x y = gi (gfrom p bs x).1.r y := rfl
  have hF := fun w1 (hb1 : BdsAt w1 a n cap bs) => gfrom_any p a n cap bs x w1 hb1 hs hx0 hx1
  have hp2 := hs.p2
  rw [hgD]
  clear hgD
  generalize gfrom p bs x = g at *
  obtain ⟨⟨gr, gl, gn⟩, gb⟩ := g
  simp only at hlen hF ⊢
  obtain ⟨hl1, hl2⟩ := hlen
  have hsz : (ints gr).size = 60 := by rw [ints_size, hl1]
  have hc0 : (ints gr)[y.toNat]? = some (.int .i64 (gi gr y)) := gi_cell hy0 (by omega)
  go_enter Tryz.func55, Tryz.ntmps55
  go_wp2_with (first
    | (go_at_call 81; refine (hF _ hbx).mono ?_; rintro e w1 ⟨rfl, hb1⟩; have hz1 := hb1.size; simp only [World.size_alloc] at hz1)
    | (refine wpList_strow_op rfl _ _ rfl rfl (g := w1.heap.size) rfl rfl ((Below.heap_alloc _ _ _ (by simp)).trans (World.alloc_heap_new _ _)) rfl hl1 ?_; intro W2 hc2 hh2
       have hz2 := hc2.size
       simp only [World.size_alloc] at hz2)
    | (refine wpList_starr_op rfl _ _ rfl rfl (g := w1.heap.size + 1) rfl rfl ((hc2.block _ (by simp) (by simp)).trans (heap_alloc2_new _ _ _)) rfl hl2 ?_; intro W3 hc3 hh3
       have hz3 := hc3.size
       have hh4 := (hc3.block w1.heap.size (by omega) (by simp)).trans hh2
       have hc5 := ((SL.cells_of hh4).1 y.toNat).trans hc0))
  go_ret
  refine ⟨rfl, ?_⟩
  refine Below.trans ?_ (hc3.belowE (B := w.heap.size) (by omega) (by simp; omega))
  refine Below.trans ?_ (hc2.belowE (B := w.heap.size) (by simp; omega) (by simp; omega))
  exact ((((Below.refl _ w).alloc (Nat.le_refl _) _).trans (hb1.mono (by simp))).alloc (by omega) _).alloc (by simp; omega) _

def inP (p x : Int) : Bool := withinB x 0 (p - 1)
theorem take_all {f : Int → Bool} {l : List Int} {k : Nat} (hk : k < l.length) (h : (l.take k).all f = true) (hx : f (l.getD k 0) = true) : (l.take (k + 1)).all f = true := by
  rw [List.take_succ_eq_append_getElem hk, List.all_append, h]
  simpa [List.getD_eq_getElem?_getD, List.getElem?_eq_getElem hk] using hx
theorem not_all {f : Int → Bool} {l : List Int} {k : Nat} (hk : k < l.length) (hx : f (l.getD k 0) = false) : l.all f = false := by
  rw [List.all_eq_false]
  exact ⟨l[k], List.getElem_mem hk, by simpa [List.getD_eq_getElem?_getD, List.getElem?_eq_getElem hk] using hx⟩

theorem gpoints_any (p : Int) (a : Option Addr) (n cap : Nat) (al : Option Addr) (m c : Nat) (xs : List Int) (w : World) (hx : IntsAt w al m c xs) (hp : 1 ≤ p ∧ p ≤ 60) :
    Calls Tryz.prog 57 #[.agg #[.int .i64 p, .slice a n cap], .slice al m c] w fun e w' => e = (if xs.all (inP p) then .returned (.tuple #[]) else .panicked gaveUp) ∧ Below w.heap.size w w' := by
  have hlen := hx.small
  obtain rfl := hx.len
  generalize hR : (if xs.all (inP p) = true then Ending.returned (Value.tuple #[]) else Ending.panicked gaveUp) = R
  have HR := Lib.hid hR
  clear hR
  go_enter Tryz.func57, Tryz.ntmps57
  go_wp2_with fail
  go_loopw [8, 5] (fun i _ wr => ∃ k : Nat, k ≤ xs.length ∧ i = .int .i64 k ∧ Below w.heap.size w wr ∧ wr.cell? ⟨w.heap.size, 0, none⟩ = some (.int .i64 p) ∧ (xs.take k).all (inP p) = true) (fun i _ _ => xs.length - (intOf i).toNat)
  case atStart => exact ⟨0, Nat.zero_le _, rfl, by ((repeat (first | assumption | exact Below.refl _ _ | refine Below.alloc ?_ ?_ _ | refine Below.setCell ?_ ?_ _ | refine Below.drew ?_ | refine belowN ?_ | refine Below.up ?_ (by assumption) ?_)) <;> (first | assumption | omega | (simp; done) | (simp; omega))), by simp [go_sem], rfl⟩
  case round =>
    obtain ⟨k, hk, rfl, hB, hc, hall⟩ := hrel
    have Hall := Lib.hid hall
    clear hall
    by_cases hlt : k < xs.length
    · obtain ⟨b, off, rfl, hbl, d0⟩ := (hx.below hB).get hlt
      generalize hy : xs.getD k 0 = y at *
      have Hy := Lib.hid hy
      clear hy
      cases hin : inP p y with
      | true =>
        have hin' : withinB y 0 (p - 1) = true := hin
        go_wp2_with (first
          | (go_at_call 35; refine (gwithin_any _ _ _ _).mono ?_; rintro e w1 ⟨rfl, rfl⟩; rw [hin'])
          | (go_at_call 34; refine (gneed_yes _).mono ?_; rintro e w1 ⟨rfl, rfl⟩))
        go_roundw
        case rel => exact ⟨k + 1, by omega, by go_num, hB, hc, take_all hlt Hall.out (by rw [Hy.out]; exact hin)⟩
        case measure => simp [intOf]; omega
      | false =>
        have hin' : withinB y 0 (p - 1) = false := hin
        go_wp2_with (first
          | (go_at_call 35; refine (gwithin_any _ _ _ _).mono ?_; rintro e w1 ⟨rfl, rfl⟩; rw [hin'])
          | (go_at_call 34; refine (gneed_no _).mono ?_; rintro e w1 ⟨rfl, rfl⟩))
        refine ⟨rfl, ?_, hB⟩
        rw [← HR.out, not_all hlt (by rw [Hy.out]; exact hin)]; rfl
    · go_wp2_with fail
      go_end0
      rw [List.take_of_length_le (by omega)] at Hall
      exact ⟨by rw [← HR.out, Hall.out]; rfl, hB⟩
end Go.Proofs.YtlkcfohmoeadbaaGreat

/-
  Gauge, walked: tried, with its recover.
-/
namespace Go.Proofs.YtlkcfohmoeadbaaGreat
open Go.RowKit Go.Shelf
set_option maxHeartbeats 1000000
set_option maxRecDepth 100000

theorem as_foreign (v : Value) (w : World) : (Instr.typeAssert (.iface 93 v) 20 93 true).run Tryz.prog w = .ok (.tuple #[v, .bool true]) w := by kernel_rfl

theorem grec_idle (N : Nat) (w : World) : CallsD Tryz.prog 71 #[.pointer (some ⟨N, 0, none⟩)] .returning w fun e u' w' => e = .returned (.tuple #[]) ∧ u' = .returning ∧ w' = w := by
  refine callsD_of_wpS Tryz.func71 rfl fun c₀ cs hu => ?_
  apply wpS_seq
  apply wpS_region
  simp [wpOpsS, go_sem, recoverD, hu, Tryz.ntmps71, Exit.thenS]
  refine wpS_of_wp ?_
  go_wp2
  refine ⟨rfl, .returning, by rw [← hu], .tuple #[], results_none rfl _ _ _, rfl, rfl, rfl⟩

theorem grec_panic (N : Nat) (old : Value) (w : World) (hN : w.heap[N]? = some (.cells #[old] 30 (0, 0))) : CallsD Tryz.prog 71 #[.pointer (some ⟨N, 0, none⟩)] (.panicking gaveUp) w fun e u' w' =>
    e = .returned (.tuple #[]) ∧ u' = .panicking [{ v := foreign, recovered := true }] ∧ SL.Chg [N] w w' ∧ w'.heap[N]? = some (.cells #[.int .i64 1] 30 (0, 0)) := by
  have hc := (SL.cells_of hN).1 0
  have hf := (SL.cells_of hN).2 0
  have hNl : N < w.heap.size := (Array.getElem?_eq_some_iff.1 hN).1
  simp at hc
  refine callsD_of_wpS Tryz.func71 rfl fun c₀ cs hu => ?_
  apply wpS_seq
  apply wpS_region
  simp [wpOpsS, go_sem, recoverD, hu, Tryz.ntmps71, Exit.thenS, gaveUp, foreign]
  have has := as_foreign
  refine wpS_of_wp ?_
  go_wp2
  exact ⟨rfl, _, rfl, .tuple #[], results_none rfl _ _ _, rfl, rfl, SL.Chg.trans (SL.Chg.setCell w (p := ⟨N, 0, none⟩) (by simp) _) (SL.Chg.alloc _ _ _), (Below.heap_alloc _ _ _ (by simpa using hNl)).trans (SL.heap_set hN _)⟩

theorem SL.Chg.up {E : List Nat} {w w2 w3 : World} (h : SL.Chg E w w2) (hb : Below w.heap.size w2 w3) : SL.Chg E w w3 :=
  ⟨hb.os.trans h.os, hb.tape.trans h.tape, hb.output.trans h.output, Nat.le_trans h.size hb.size, fun k hk hn => (hb.block k hk).trans (h.block k hk hn)⟩

theorem row_chg {w w' : World} {base : Nat} {t : TypeId} {size n : Nat} {v : Value} {xs : List Value} {E : List Nat} (h : w.ownsRow base t size v n xs) (hc : SL.Chg E w w') (hE : ∀ k ∈ E, k < base) : w'.ownsRow base t size v n xs :=
  SL.row_stab h fun k hk => by
    obtain ⟨h1, h2⟩ := SL.row_bounds h k hk
    exact hc.block k h2 (fun hm => by have := hE k hm; omega)
theorem heap_chg {w w' : World} {N : Nat} {o : Obj} {E : List Nat} (h : w.heap[N]? = some o) (hc : SL.Chg E w w') (hE : N ∉ E) : w'.heap[N]? = some o :=
  (hc.block N (Array.getElem?_eq_some_iff.1 h).1 hE).trans h

theorem gtried_any (p : Int) (a : Option Addr) (n cap : Nat) (bs : List Bd) (k : Nat) (caps : Array Value) (w : World) (hb : BdsAt w a n cap bs) (E : List Nat) (hE : ∀ i ∈ E, i < w.heap.size) (R : Int → World → Prop) (Rp : World → Prop)
    (hR : ∀ c w1 w2, R c w1 → SL.Chg [w.heap.size + 1] w1 w2 → R c w2) (hRp : ∀ w1 w2, Rp w1 → SL.Chg [w.heap.size + 1] w1 w2 → Rp w2) (hent : ∀ args w, (callFunc k args).run Tryz.prog w = .ok (.enter k args) w)
    (hdo : chk p bs = 0 → ∀ w1, Below w.heap.size w w1 → w.heap.size + 2 ≤ w1.heap.size → Calls Tryz.prog k caps w1 fun e w' => SL.Chg E w1 w' ∧ ((∃ c, e = .returned (.int .i64 c) ∧ R c w') ∨ (e = .panicked gaveUp ∧ Rp w'))) :
    Calls Tryz.prog 32 #[.agg #[.int .i64 p, .slice a n cap], .func (.func k) #[] caps] w fun e w' => ∃ c, e = .returned (.int .i64 c) ∧ SL.Chg E w w' ∧ (chk p bs ≠ 0 → c = chk p bs ∧ Below w.heap.size w w') ∧ (chk p bs = 0 → R c w' ∨ (c = 1 ∧ Rp w')) := by
  have hmf := makeFunc_run
  have hbx := hb.below (w' := (w.alloc (Obj.cells #[.int .i64 p, .slice a n cap] 24)).alloc (Obj.cells #[.int .i64 0] 30)) (by ((repeat (first | assumption | exact Below.refl _ _ | refine Below.alloc ?_ ?_ _ | refine Below.setCell ?_ ?_ _ | refine Below.drew ?_ | refine belowN ?_ | refine Below.up ?_ (by assumption) ?_)) <;> (first | assumption | omega | (simp; done) | (simp; omega))))
  by_cases h0 : chk p bs = 0
  · go_enter_defers Tryz.func32, Tryz.ntmps32
    go_wp2_with (go_at_call 10; refine (gcheck_any _ _ _ _ _ _ hbx).mono ?_; rintro e w1 ⟨rfl, hb1⟩; obtain ⟨hc1, hf1⟩ := bcell hb1; have hz1a := lt_size hb1 (b := w.heap.size) (by first | assumption | omega | (simp; done) | (simp; omega)); have hz1b := lt_size hb1 (b := w.heap.size+1) (by first | assumption | omega | (simp; done) | (simp; omega)))
    have hE1 : w1.heap[w.heap.size + 1]? = some (.cells #[.int .i64 0] 30 (0, 0)) := (hb1.block _ (by simp)).trans (heap_alloc2_new _ _ _)
    have hB1 : Below w.heap.size w w1 := Below.trans (by ((repeat (first | assumption | exact Below.refl _ _ | refine Below.alloc ?_ ?_ _ | refine Below.setCell ?_ ?_ _ | refine Below.drew ?_ | refine belowN ?_ | refine Below.up ?_ (by assumption) ?_)) <;> (first | assumption | omega | (simp; done) | (simp; omega)))) (hb1.mono (by simp; omega))
    have hz1 := hb1.size
    simp only [World.size_alloc] at hz1
    clear hc1 hf1
    refine (hdo h0 w1 hB1 (by omega)).mono ?_
    rintro e w2 ⟨hC, (⟨c, rfl, hRc⟩ | ⟨rfl, hP⟩)⟩
    · have hE2 := (hC.block (w.heap.size + 1) (by omega) (fun h => by have := hE _ h; omega)).trans hE1
      have c2 := (SL.cells_of hE2).1 0
      have f2 := (SL.cells_of hE2).2 0
      simp at c2
      go_wp2
      refine leaves_cons (f := 71) (args := #[.pointer (some ⟨w.heap.size + 1, 0, none⟩)]) (by simp) (by simp [go_sem]) ?_
      refine (grec_idle _ _).mono ?_
      rintro e u' w3 ⟨rfl, rfl, rfl⟩
      simp [Leaves, Go.settle, results, Tryz.results32, go_sem, c2]
      have bS : Below w.heap.size w2 (w2.setCell ⟨w.heap.size + 1, 0, none⟩ (.int .i64 c)) := (Below.refl _ _).setCell (by simp) _
      exact ⟨((SL.Chg.of_below hB1).trans hC).up bS, fun h => absurd h0 h, fun _ => .inl (hR _ _ _ hRc (.setCell _ (by simp) _))⟩
    · have hE2 := (hC.block (w.heap.size + 1) (by omega) (fun h => by have := hE _ h; omega)).trans hE1
      go_wp2
      refine leaves_cons (f := 71) (args := #[.pointer (some ⟨w.heap.size + 1, 0, none⟩)]) (by simp) (by simp [go_sem]) ?_
      refine (grec_panic _ _ _ hE2).mono ?_
      rintro e u' w3 ⟨rfl, rfl, hC3, hE3⟩
      have c3 := (SL.cells_of hE3).1 0
      simp at c3
      simp [Leaves, Go.settle, results, Tryz.results32, go_sem, c3]
      have bS : Below w.heap.size w2 w3 := hC3.belowE (by have := hC.size; omega) (by simp)
      exact ⟨((SL.Chg.of_below hB1).trans hC).up bS, fun h => absurd h0 h, fun _ => .inr (hRp _ _ hP hC3)⟩
  · have h0' : (chk p bs == 0) = false := by simpa using h0
    go_enter_defers Tryz.func32, Tryz.ntmps32
    go_wp2_with (go_at_call 10; refine (gcheck_any _ _ _ _ _ _ hbx).mono ?_; rintro e w1 ⟨rfl, hb1⟩; obtain ⟨hc1, hf1⟩ := bcell hb1; have hz1a := lt_size hb1 (b := w.heap.size) (by first | assumption | omega | (simp; done) | (simp; omega)); have hz1b := lt_size hb1 (b := w.heap.size+1) (by first | assumption | omega | (simp; done) | (simp; omega)))
    have hB1 : Below w.heap.size w w1 := Below.trans (by ((repeat (first | assumption | exact Below.refl _ _ | refine Below.alloc ?_ ?_ _ | refine Below.setCell ?_ ?_ _ | refine Below.drew ?_ | refine belowN ?_ | refine Below.up ?_ (by assumption) ?_)) <;> (first | assumption | omega | (simp; done) | (simp; omega)))) (hb1.mono (by simp; omega))
    have hE1 : w1.heap[w.heap.size + 1]? = some (.cells #[.int .i64 0] 30 (0, 0)) := (hb1.block _ (by simp)).trans (heap_alloc2_new _ _ _)
    have c2 := (SL.cells_of hE1).1 0
    simp at c2
    have hB2 : Below w.heap.size w (w1.setCell ⟨w.heap.size + 1, 0, none⟩ (.int .i64 (chk p bs))) := hB1.setCell (by simp) _
    simp [bodyPostD, Leaves, Go.settle, results, Tryz.results32, go_sem, c2, h0]
    exact ⟨.of_below hB2, hB2⟩
end Go.Proofs.YtlkcfohmoeadbaaGreat
