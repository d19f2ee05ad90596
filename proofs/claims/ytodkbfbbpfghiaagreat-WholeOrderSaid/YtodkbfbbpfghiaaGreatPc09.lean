/-
  Lemmas and walks for the laws on roads and boards: what each function of the program answers, for every input.
-/
import Derived.Test.YtodkbfbbpfghiaaGreatPc07
import Derived.Test.YtodkbfbbpfghiaaGreatPc08
import Derived.Test.YtodkbfbbpfghiaaGreatPc06
import Derived.Lib.ConvBytes
import Derived.Test.YtodkbfbbpfghiaaGreatPc02
import Derived.Maps.OwnSet
import Derived.Laws.Tables
set_option linter.unusedSimpArgs false
set_option linter.unusedVariables false
set_option linter.unnecessarySimpa false
namespace Go.Proofs.YtodkbfbbpfghiaaGreat
open Go.RowKit Go.Shelf
set_option maxHeartbeats 4000000
set_option maxRecDepth 100000
theorem elemF : Elem Tryz.prog 81 4 (.bool false) 1 1 := ⟨Tryz.underlying81, info_parts (by kernel_rfl), rfl, by decide⟩
theorem wranged (lo hi lob hib : Int) (w : World) :
    Calls Tryz.prog 143 #[.agg #[.int .i64 lo, .int .i64 hi, .int .i64 lob, .int .i64 hib]] w fun e w' => e = .returned (.agg #[.int .i64 lo, .int .i64 hi]) ∧ Below w.heap.size w w' := by
  go_enter Tryz.func143, Tryz.ntmps143
  go_wp2_with fail
  refine bodyPost_ret (v := .agg #[.int .i64 lo, .int .i64 hi]) (by simp [results, Tryz.results143, go_sem]) rfl ⟨rfl, ?_⟩
  have hBE := (one_alloc w (Obj.cells #[.int .i64 lo, .int .i64 hi, .int .i64 lob, .int .i64 hib] 47))
  (repeat (first | (with_reducible exact hBE) | ((with_reducible refine Below.setCell ?_ ?_ _); rotate_left; focus (first | omega | (simp; done) | (simp; omega))) | ((with_reducible refine Below.alloc ?_ ?_ _); rotate_left; focus (first | omega | (simp; done) | (simp; omega)))))
/-- The spans of the parts up to k, as they lie in a world, in rows of their own. -/
def spA (ps : List Pt) (k : Nat) : List (Int × Int) := (ps.take k).map fun p => (p.lo, p.hi)
def spF (ps : List Pt) (k : Nat) : List Bool := (ps.take k).map (·.ft)
structure SpRel (B N R : Nat) (ps : List Pt) (k : Nat) (w : World) (va vf : Value) : Prop where
  box : w.heap[N]? = some (.cells #[va, vf] 83 (0, 0))
  res : w.heap[R]? = some (.cells #[.slice none 0 0, .slice none 0 0] 83 (0, 0))
  at_ : w.ownsRow B 33 2 va k (rcs (spA ps k))
  ft : w.ownsRow B 4 1 vf k ((spF ps k).map Value.bool)
  apart : ∀ j ∈ va.ownBlock.toList, j ∉ vf.ownBlock.toList
theorem spA_succ {ps : List Pt} {k : Nat} (h : k < ps.length) : spA ps (k + 1) = spA ps k ++ [((ps.getD k default).lo, (ps.getD k default).hi)] := by
  unfold spA
  rw [take_get h, List.map_append]; rfl
theorem spF_succ {ps : List Pt} {k : Nat} (h : k < ps.length) : spF ps (k + 1) = spF ps k ++ [(ps.getD k default).ft] := by
  unfold spF
  rw [take_get h, List.map_append]; rfl
theorem spA_all (ps : List Pt) : spA ps ps.length = (pns ps).map fun p => (p.lo, p.hi) := by unfold spA pns; rw [List.take_length, List.map_map]; rfl
theorem spF_all (ps : List Pt) : spF ps ps.length = (pns ps).map (·.ft) := by unfold spF pns; rw [List.take_length, List.map_map]; rfl
/-- Spans in rows of their own. -/
structure OwnSp (w : World) (base : Nat) (a : Option Addr) (ca : Nat) (f : Option Addr) (cf : Nat) (s : List Pn) : Prop where
  at_ : w.ownsRow base 33 2 (.slice a s.length ca) s.length (rcs (s.map fun p => (p.lo, p.hi)))
  ft : w.ownsRow base 4 1 (.slice f s.length cf) s.length ((s.map (·.ft)).map Value.bool)
theorem OwnSp.spans {w : World} {base : Nat} {a f : Option Addr} {ca cf : Nat} {s : List Pn} (h : OwnSp w base a ca f cf s) (hs : s.length ≤ 100000) : SpansAt w a ca f cf s.length s :=
  ⟨RngsAt.of_owns h.at_ (by rw [List.length_map]; omega), BoolsAt.of_owns h.ft (by rw [List.length_map]; omega)⟩
def OwnSp.blocks (a : Option Addr) (ca : Nat) (f : Option Addr) (cf n : Nat) : List Nat := (Value.slice a n ca).ownBlock.toList ++ (Value.slice f n cf).ownBlock.toList
theorem OwnSp.stab {w w' : World} {base : Nat} {a f : Option Addr} {ca cf : Nat} {s : List Pn} (h : OwnSp w base a ca f cf s) (hk : ∀ k ∈ OwnSp.blocks a ca f cf s.length, w'.heap[k]? = w.heap[k]?) : OwnSp w' base a ca f cf s :=
  ⟨SL.row_stab h.at_ fun k hm => hk k (List.mem_append.2 (.inl hm)), SL.row_stab h.ft fun k hm => hk k (List.mem_append.2 (.inr hm))⟩
theorem OwnSp.base {w : World} {base base' : Nat} {a f : Option Addr} {ca cf : Nat} {s : List Pn} (h : OwnSp w base a ca f cf s) (hb : base' ≤ base) : OwnSp w base' a ca f cf s := ⟨SL.row_base h.at_ hb, SL.row_base h.ft hb⟩
theorem OwnSp.up {w w' : World} {base : Nat} {a f : Option Addr} {ca cf : Nat} {s : List Pn} (h : OwnSp w base a ca f cf s) (hb : Below w.heap.size w w') : OwnSp w' base a ca f cf s := ⟨h.at_.up hb (Nat.le_refl _), h.ft.up hb (Nat.le_refl _)⟩
theorem OwnSp.bounds {w : World} {base : Nat} {a f : Option Addr} {ca cf : Nat} {s : List Pn} (h : OwnSp w base a ca f cf s) : ∀ k ∈ OwnSp.blocks a ca f cf s.length, base ≤ k ∧ k < w.heap.size := fun k hk => by
  rcases List.mem_append.1 hk with hk | hk
  · exact SL.row_bounds h.at_ k hk
  · exact SL.row_bounds h.ft k hk
abbrev SL.As.osp (base : Nat) (a : Option Addr) (ca : Nat) (f : Option Addr) (cf : Nat) (s : List Pn) : SL.As := { A := fun w F => OwnSp w base a ca f cf s ∧ F = OwnSp.blocks a ca f cf s.length, st := fun _ _ _ h hk _ => ⟨h.1.stab (h.2 ▸ hk), h.2⟩ }
def SpansPost (w : World) (s : List Pn) (e : Ending) (w' : World) : Prop := ∃ a ca f cf, e = .returned (.agg #[.slice a s.length ca, .slice f s.length cf]) ∧ Below w.heap.size w w' ∧ OwnSp w' w.heap.size a ca f cf s
theorem heap_put0 {w : World} {N : Nat} {a b : Value} {t : TypeId} (h : w.heap[N]? = some (.cells #[a, b] t (0, 0))) (v : Value) : (w.setCell ⟨N, 0, none⟩ v).heap[N]? = some (.cells #[v, b] t (0, 0)) := by
  have := SL.heap_set h v (i := 0)
  simpa using this
theorem heap_put1 {w : World} {N : Nat} {a b : Value} {t : TypeId} (h : w.heap[N]? = some (.cells #[a, b] t (0, 0))) (v : Value) : (w.setCell ⟨N, 1, none⟩ v).heap[N]? = some (.cells #[a, v] t (0, 0)) := by
  have := SL.heap_set h v (i := 1)
  simpa using this
theorem wspansOf (c : Cs) (w : World) (hc : CsAt w c) (hm : c.ps.length ≤ 1000) : Calls Tryz.prog 113 #[c.v] w (SpansPost w (pns c.ps)) := by
  obtain ⟨ware, lim, byr, a, cap, ps⟩ := c
  simp only [Cs.v] at *
  have hR := fun lo hi lob hib w1 => wranged lo hi lob hib w1
  go_enter Tryz.func113, Tryz.ntmps113
  go_wp2_with fail
  obtain ⟨w3, hw3⟩ : ∃ w3, w3 = ((w.alloc (Obj.cells #[.string ware, .int .i64 lim, .int .i64 byr, .slice a ps.length cap] 24)).alloc (Obj.cells #[.slice none 0 0, .slice none 0 0] 83)).alloc (Obj.cells #[.slice none 0 0, .slice none 0 0] 83) := ⟨_, rfl⟩
  rw [← hw3]
  have hB3 : Below w.heap.size w w3 := by rw [hw3]; ((repeat (first | assumption | exact Below.refl _ _ | refine Below.alloc ?_ ?_ _ | refine Below.setCell ?_ ?_ _ | refine Below.drew ?_ | refine belowN ?_ | refine Below.up ?_ (by assumption) ?_)) <;> (first | assumption | omega | (simp; done) | (simp; omega)))
  have hz3 : w3.heap.size = w.heap.size + 1 + 1 + 1 := by rw [hw3]; simp
  have HZ := Lib.hid hz3
  have hst : SpRel (w.heap.size + 1 + 1 + 1) (w.heap.size + 1 + 1) (w.heap.size + 1) ps 0 w3 (.slice none 0 0) (.slice none 0 0) := by
    refine ⟨?_, ?_, World.ownsRow_nil _ _ _ _, World.ownsRow_nil _ _ _ _, by simp [Value.ownBlock]⟩
    · rw [hw3]; simpa using World.alloc_heap_new ((w.alloc (Obj.cells #[.string ware, .int .i64 lim, .int .i64 byr, .slice a ps.length cap] 24)).alloc (Obj.cells #[.slice none 0 0, .slice none 0 0] 83)) (Obj.cells #[.slice none 0 0, .slice none 0 0] 83)
    · rw [hw3, heap_allocC _ _ (by simp)]; exact heap_alloc2_new w _ _
  clear hz3 hw3
  go_loopw [9] (fun i wr => ∃ k : Nat, k ≤ ps.length ∧ i = .int .i64 k ∧ Below w.heap.size w wr ∧ w.heap.size + 1 + 1 < wr.heap.size ∧ ∃ va vf, SpRel (w.heap.size + 1 + 1 + 1) (w.heap.size + 1 + 1) (w.heap.size + 1) ps k wr va vf) (fun i _ => ps.length - (RowKit.intOf i).toNat)
  case atStart => exact ⟨0, Nat.zero_le _, rfl, hB3, by rw [HZ.out]; omega, _, _, hst⟩
  case round =>
    obtain ⟨k, hk, rfl, hB, hsz, va, vf, hS⟩ := hrel
    clear hst hB3
    have hnn : (0 : Int) ≤ k := by omega
    by_cases hlt : k < ps.length
    · have i1 : (k : Int) < (ps.length : Int) := by omega
      obtain ⟨b1, o1, rfl, bl1, d0, d1, d2, d3, d4, d5, d6, d7⟩ := (hc.ps.below hB).get hlt
      simp only at d0 d1 d2 d3 d4 d5 d6 d7
      have Ha := Lib.hid (spA_succ hlt)
      have Hf := Lib.hid (spF_succ hlt)
      generalize ps.getD k default = p at *
      obtain ⟨sa, sc, rfl, _⟩ := owns_slice hS.at_
      obtain ⟨fa, fc, rfl, _⟩ := owns_slice hS.ft
      go_wp2_with fail
      obtain ⟨wa, hwa⟩ : ∃ wa, wa = wr.alloc (Obj.cells #[.slice p.sa p.sh.length p.sc, .int .i64 p.lo, .int .i64 p.hi, .int .i64 p.lob, .int .i64 p.hib, .bool p.ft, .int .i64 p.fby, .slice p.ra p.re.length p.rc] 49) := ⟨_, rfl⟩
      rw [← hwa]
      have hpx : wa.heap[wr.heap.size]? = some (.cells #[.slice p.sa p.sh.length p.sc, .int .i64 p.lo, .int .i64 p.hi, .int .i64 p.lob, .int .i64 p.hib, .bool p.ft, .int .i64 p.fby, .slice p.ra p.re.length p.rc] 49 (0, 0)) := by rw [hwa]; exact World.alloc_heap_new _ _
      have hBw : Below wr.heap.size wr wa := by rw [hwa]; exact one_alloc _ _
      have hza : wr.heap.size < wa.heap.size := by rw [hwa]; simp
      have hbx := (hBw.block _ hsz).trans hS.box
      have hrx := (hBw.block _ (by omega)).trans hS.res
      have hrow1 := hS.at_.up hBw (Nat.le_refl _)
      have hrow2 := hS.ft.up hBw (Nat.le_refl _)
      have hap := hS.apart
      have hb1 := SL.row_bounds hS.at_
      have hb2 := SL.row_bounds hS.ft
      have hBa : Below w.heap.size w wa := hB.ch2 hBw
      obtain ⟨p0, p1, p2, p3, p4, p5, p6, p7, pf, _⟩ := cell8w hpx
      clear d0 d1 d2 d3 d4 d5 d6 d7 hwa hS
      have hF0 : ∀ j ∈ (w.heap.size + 1 + 1) :: ((Value.slice sa k sc).ownBlock.toList ++ (Value.slice fa k fc).ownBlock.toList), w.heap.size ≤ j := fun j hj => by
        rcases List.mem_cons.1 hj with rfl | hj
        · omega
        · rcases List.mem_append.1 hj with h | h
          · have := hb1 _ h; omega
          · have := hb2 _ h; omega
      have hn0 : wr.heap.size ∉ (w.heap.size + 1 + 1) :: ((Value.slice sa k sc).ownBlock.toList ++ (Value.slice fa k fc).ownBlock.toList) := fun hj => by
        rcases List.mem_cons.1 hj with h | hj
        · omega
        · rcases List.mem_append.1 hj with h | h
          · have := hb1 _ h; omega
          · have := hb2 _ h; omega
      have hn1 : w.heap.size + 1 ∉ (w.heap.size + 1 + 1) :: ((Value.slice sa k sc).ownBlock.toList ++ (Value.slice fa k fc).ownBlock.toList) := fun hj => by
        rcases List.mem_cons.1 hj with h | hj
        · omega
        · rcases List.mem_append.1 hj with h | h
          · have := hb1 _ h; omega
          · have := hb2 _ h; omega
      have HF0 := Lib.hid hF0
      have hApart : ([[w.heap.size + 1 + 1], (Value.slice sa k sc).ownBlock.toList, (Value.slice fa k fc).ownBlock.toList] : List (List Nat)).Pairwise fun L M => ∀ k ∈ L, k ∉ M := by
        simp only [List.pairwise_cons, List.mem_cons, List.not_mem_nil, or_false, forall_eq_or_imp, forall_eq, List.Pairwise.nil, and_true, false_implies, implies_true]
        exact ⟨⟨fun h => by have := hb1 _ h; omega, fun h => by have := hb2 _ h; omega⟩, hap⟩
      apply SLG.rule0 ?hm1 ((w.heap.size + 1 + 1) :: ((Value.slice sa k sc).ownBlock.toList ++ (Value.slice fa k fc).ownBlock.toList)) [13, 14, 15, 16, 17, 18, 19, 20, 21, 22, 23, 24, 25, 26, 27] [SLF.pq 13 [] _, SL.pu 14 [0, 17] (Value.slice sa k sc), SLF.pq 15 [] _, SLF.pq 16 [2] _, SL.pu 17 [3] (.agg #[.int .i64 p.lo, .int .i64 p.hi]), SL.row 18 [4] [] (w.heap.size + 1 + 1 + 1) 33 2 1 [.int .i64 p.lo, .int .i64 p.hi], SL.row 19 [1, 5, 18] [18] (w.heap.size + 1 + 1 + 1) 33 2 (k + 1) (rcs (spA ps k) ++ [.int .i64 p.lo, .int .i64 p.hi]), SLF.pq 20 [] _, SL.pu 21 [7, 17] (Value.slice fa k fc), SLF.pq 22 [] _, SLF.pq 23 [9] _, SL.row 24 [10] [] (w.heap.size + 1 + 1 + 1) 4 1 1 [.bool p.ft], SL.row 25 [8, 11, 19] [19] (w.heap.size + 1 + 1 + 1) 4 1 (k + 1) ((spF ps k).map Value.bool ++ [.bool p.ft]), SLF.pq 26 [] _, SL.aw 0 [6, 13, 17] [6, 17] (fun _ => .ex fun y : Value => .sepd (.blk 0 (w.heap.size + 1 + 1) 83 #[y, (Value.slice fa k fc)]) (.row (w.heap.size + 1 + 1 + 1) 33 2 y (k + 1) (rcs (spA ps k) ++ [.int .i64 p.lo, .int .i64 p.hi]))), SLF.pq 27 [] _, SL.aw 0 [12, 14, 15] [12, 14] (fun _ => .ex fun y : Value => .ex fun z : Value => .sepd (.blk 0 (w.heap.size + 1 + 1) 83 #[y, z]) (.sepd (.row (w.heap.size + 1 + 1 + 1) 33 2 y (k + 1) (rcs (spA ps k) ++ [.int .i64 p.lo, .int .i64 p.hi])) (.row (w.heap.size + 1 + 1 + 1) 4 1 z (k + 1) ((spF ps k).map Value.bool ++ [.bool p.ft])))), SL.blk [] [] (w.heap.size + 1 + 1) 83 #[(Value.slice sa k sc), (Value.slice fa k fc)], SL.aw 0 [] [] (fun _ => .row (w.heap.size + 1 + 1 + 1) 33 2 (Value.slice sa k sc) k (rcs (spA ps k))), SL.aw 0 [] [] (fun _ => .row (w.heap.size + 1 + 1 + 1) 4 1 (Value.slice fa k fc) k ((spF ps k).map Value.bool))] [16] ?hck1 ?hkp1 (SL.heldL 17 [[w.heap.size + 1 + 1], (Value.slice sa k sc).ownBlock.toList, (Value.slice fa k fc).ownBlock.toList]) ?hin1 ?hdj1 ?hfr1 ?ob1 ?en1
      case hm1 => kernel_rfl
      case hin1 => exact SL.held_all [SL.blk [] [] (w.heap.size + 1 + 1) 83 #[(Value.slice sa k sc), (Value.slice fa k fc)], SL.aw 0 [] [] (fun _ => .row (w.heap.size + 1 + 1 + 1) 33 2 (Value.slice sa k sc) k (rcs (spA ps k))), SL.aw 0 [] [] (fun _ => .row (w.heap.size + 1 + 1 + 1) 4 1 (Value.slice fa k fc) k ((spF ps k).map Value.bool))] rfl ⟨⟨⟨hbx, rfl⟩, fun j hj => ⟨by simp at hj; simp [hj], by simp at hj; omega⟩⟩, ⟨SL.aw_in ⟨hrow1, rfl⟩, fun j hj => ⟨by simp at hj ⊢; simp [hj], (SL.row_bounds hrow1 j hj).2⟩⟩, ⟨SL.aw_in ⟨hrow2, rfl⟩, fun j hj => ⟨by simp at hj ⊢; simp [hj], (SL.row_bounds hrow2 j hj).2⟩⟩, trivial⟩
      case hdj1 => exact SL.heldL_apart hApart
      case hfr1 => intro us; simp only [SL.frame, SL.put']; simp; exact rfl
      case ob1 =>
        refine ⟨?_, ?_, ?_, ?_, ?_, ?_, ?_, ?_, ?_, ?_, ?_, ?_, ?_, ?_, ?_, ?_, ?_, trivial⟩
        all_goals first
          | (intro us w' Fe hG hu hd hv Kx hK
             try dsimp only
             simp [SL.Used, SL.pu, SL.row, SL.box, SL.rowIn, SL.boxIn, SL.boxAt, SL.boxAtIn, SLF.pq, Act.put, SL.aw_sub, SL.aw_use, SL.aw_eat, SL.aw_V, SL.aw_quiet, SL.blk] at hu hK
             have hB5 : Below w.heap.size w w' := hBa.trans (hG.belowF hBa.size HF0.out)
             obtain ⟨hc5, hf5⟩ := bcell hB5
             have hs5 := hB5.size
             obtain ⟨hc6, hf6⟩ := hG.cellsF
             clear hv
             refine SLF.wpo_do (SLF.wanted_free rfl) ?hd1 ?_
             case hd1 => intro c h; cases h
             clear hd
             first
               | (go_step; exact hK _ _ _ (SL.Chg.refl _ _) (by first | exact rfl | (simp only [hu]; exact rfl)) rfl (by simp) rfl)
               | exact hK _ _ _ (SL.Chg.refl _ _) rfl rfl (by simp) rfl)
          | skip
        · refine SLG.ob_sp rfl rfl rfl fun us w' Fe hG hu hd Kx hK => ?_
          try dsimp only
          simp [SL.Used, SL.pu, SL.row, SL.box, SL.rowIn, SL.boxIn, SL.boxAt, SL.boxAtIn, SLF.pq, Act.put, SL.aw_sub, SL.aw_use, SL.aw_eat, SL.aw_V, SL.aw_quiet, SL.blk] at hu
          have hB5 : Below w.heap.size w w' := hBa.trans (hG.belowF hBa.size HF0.out)
          obtain ⟨hc5, hf5⟩ := bcell hB5
          have hs5 := hB5.size
          obtain ⟨hc6, hf6⟩ := hG.cellsF
          refine SLF.wpo_do (SLF.wanted_free rfl) ?hd1 ?_
          case hd1 => intro c h; cases h
          obtain ⟨⟨e0, _⟩, hbl, _⟩ := hu
          obtain ⟨y0, y1, yf, yl⟩ := cell2w hbl
          go_step
          exact hK _ _ _ [] (by simp [Act.put]; done) (SL.Chg.refl _ _) ⟨rfl, rfl⟩ (fun j hj => by cases hj)
        · refine SLG.ob_sp rfl rfl rfl fun us w' Fe hG hu hd Kx hK => ?_
          try dsimp only
          simp [SL.Used, SL.pu, SL.row, SL.box, SL.rowIn, SL.boxIn, SL.boxAt, SL.boxAtIn, SLF.pq, Act.put, SL.aw_sub, SL.aw_use, SL.aw_eat, SL.aw_V, SL.aw_quiet, SL.blk] at hu
          have hB5 : Below w.heap.size w w' := hBa.trans (hG.belowF hBa.size HF0.out)
          obtain ⟨hc5, hf5⟩ := bcell hB5
          have hs5 := hB5.size
          obtain ⟨hc6, hf6⟩ := hG.cellsF
          refine SLF.wpo_do (SLF.wanted_free rfl) ?hd1 ?_
          case hd1 => intro c h; cases h
          go_step
          refine (hR _ _ _ _ _).mono ?_
          rintro e w6 ⟨rfl, hb6⟩
          exact hK _ _ w6 [] (by simp [Act.put]; done) (.of_below hb6) ⟨rfl, rfl⟩ (fun j hj => by cases hj)
        · refine SLG.ob_sp rfl rfl rfl fun us w' Fe hG hu hd Kx hK => ?_
          try dsimp only
          simp [SL.Used, SL.pu, SL.row, SL.box, SL.rowIn, SL.boxIn, SL.boxAt, SL.boxAtIn, SLF.pq, Act.put, SL.aw_sub, SL.aw_use, SL.aw_eat, SL.aw_V, SL.aw_quiet, SL.blk] at hu
          have hB5 : Below w.heap.size w w' := hBa.trans (hG.belowF hBa.size HF0.out)
          obtain ⟨hc5, hf5⟩ := bcell hB5
          have hs5 := hB5.size
          obtain ⟨hc6, hf6⟩ := hG.cellsF
          refine SLF.wpo_do (SLF.wanted_free rfl) ?hd1 ?_
          case hd1 => intro c h; cases h
          have hs6 : wa.heap.size ≤ w'.heap.size := hG.size
          go_step
          exact hK _ (.slice (some ⟨w'.heap.size, 0, none⟩) 1 1) _ _ (by simp [Act.put]; done) (.alloc _ _ _) ⟨World.ownsRow_lit w' #[.int .i64 p.lo, .int .i64 p.hi] 1 (by omega) (by decide) rfl, rfl⟩ (fun j hj => .inr (by simp [Value.ownBlock] at hj; subst hj; simp))
        · refine SLG.ob_sp rfl rfl rfl fun us w' Fe hG hu hd Kx hK => ?_
          try dsimp only
          simp [SL.Used, SL.pu, SL.row, SL.box, SL.rowIn, SL.boxIn, SL.boxAt, SL.boxAtIn, SLF.pq, Act.put, SL.aw_sub, SL.aw_use, SL.aw_eat, SL.aw_V, SL.aw_quiet, SL.blk] at hu
          have hB5 : Below w.heap.size w w' := hBa.trans (hG.belowF hBa.size HF0.out)
          obtain ⟨hc5, hf5⟩ := bcell hB5
          have hs5 := hB5.size
          obtain ⟨hc6, hf6⟩ := hG.cellsF
          refine SLF.wpo_do (SLF.wanted_free rfl) ?hd1 ?_
          case hd1 => intro c h; cases h
          have hs6 : wa.heap.size ≤ w'.heap.size := hG.size
          obtain ⟨⟨e1, _⟩, ⟨ho, e2⟩, h3⟩ := hu
          obtain ⟨hr, e3⟩ := SL.aw_out h3
          obtain ⟨a5, c5, e18, _⟩ := owns_slice ho
          rw [e18] at ho
          refine wp_app elemR _ _ rfl hr e1 e18 (RowAt.of_owns ho) rfl (fun u hu => rcs_one [(p.lo, p.hi)] u (by rw [rcs_one1]; exact hu)) (by unfold maxLen; omega) (by omega) (by omega) ?_
          intro v' w6 ho6 hg6 hb6 _ hat
          refine hK _ v' w6 _ (by simp [Act.put]; done) (.of_own hg6 (fun j e => by simp [SL.row, e3, e])) ⟨ho6, rfl⟩ (fun j hj => ?_)
          rcases SL.app_bounds hr ho6 hat j hj with h | h
          · exact .inl (by simpa [SL.row, e3] using h)
          · exact .inr h
        · refine SLG.ob_sp rfl rfl rfl fun us w' Fe hG hu hd Kx hK => ?_
          try dsimp only
          simp [SL.Used, SL.pu, SL.row, SL.box, SL.rowIn, SL.boxIn, SL.boxAt, SL.boxAtIn, SLF.pq, Act.put, SL.aw_sub, SL.aw_use, SL.aw_eat, SL.aw_V, SL.aw_quiet, SL.blk] at hu
          have hB5 : Below w.heap.size w w' := hBa.trans (hG.belowF hBa.size HF0.out)
          obtain ⟨hc5, hf5⟩ := bcell hB5
          have hs5 := hB5.size
          obtain ⟨hc6, hf6⟩ := hG.cellsF
          refine SLF.wpo_do (SLF.wanted_free rfl) ?hd1 ?_
          case hd1 => intro c h; cases h
          obtain ⟨⟨e0, _⟩, hbl, _⟩ := hu
          obtain ⟨y0, y1, yf, yl⟩ := cell2w hbl
          go_step
          exact hK _ _ _ [] (by simp [Act.put]; done) (SL.Chg.refl _ _) ⟨rfl, rfl⟩ (fun j hj => by cases hj)
        · refine SLG.ob_sp rfl rfl rfl fun us w' Fe hG hu hd Kx hK => ?_
          try dsimp only
          simp [SL.Used, SL.pu, SL.row, SL.box, SL.rowIn, SL.boxIn, SL.boxAt, SL.boxAtIn, SLF.pq, Act.put, SL.aw_sub, SL.aw_use, SL.aw_eat, SL.aw_V, SL.aw_quiet, SL.blk] at hu
          have hB5 : Below w.heap.size w w' := hBa.trans (hG.belowF hBa.size HF0.out)
          obtain ⟨hc5, hf5⟩ := bcell hB5
          have hs5 := hB5.size
          obtain ⟨hc6, hf6⟩ := hG.cellsF
          refine SLF.wpo_do (SLF.wanted_free rfl) ?hd1 ?_
          case hd1 => intro c h; cases h
          have hs6 : wa.heap.size ≤ w'.heap.size := hG.size
          go_step
          exact hK _ (.slice (some ⟨w'.heap.size, 0, none⟩) 1 1) _ _ (by simp [Act.put]; done) (.alloc _ _ _) ⟨World.ownsRow_lit w' #[.bool p.ft] 1 (by omega) (by decide) rfl, rfl⟩ (fun j hj => .inr (by simp [Value.ownBlock] at hj; subst hj; simp))
        · refine SLG.ob_sp rfl rfl rfl fun us w' Fe hG hu hd Kx hK => ?_
          try dsimp only
          simp [SL.Used, SL.pu, SL.row, SL.box, SL.rowIn, SL.boxIn, SL.boxAt, SL.boxAtIn, SLF.pq, Act.put, SL.aw_sub, SL.aw_use, SL.aw_eat, SL.aw_V, SL.aw_quiet, SL.blk] at hu
          have hB5 : Below w.heap.size w w' := hBa.trans (hG.belowF hBa.size HF0.out)
          obtain ⟨hc5, hf5⟩ := bcell hB5
          have hs5 := hB5.size
          obtain ⟨hc6, hf6⟩ := hG.cellsF
          refine SLF.wpo_do (SLF.wanted_free rfl) ?hd1 ?_
          case hd1 => intro c h; cases h
          have hs6 : wa.heap.size ≤ w'.heap.size := hG.size
          obtain ⟨⟨e1, _⟩, ⟨ho, e2⟩, h3⟩ := hu
          obtain ⟨hr, e3⟩ := SL.aw_out h3
          obtain ⟨a5, c5, e18, _⟩ := owns_slice ho
          rw [e18] at ho
          refine wp_app elemF _ _ rfl hr e1 e18 (RowAt.of_owns ho) rfl (fun u hu => by simp at hu; subst hu; rfl) (by unfold maxLen; omega) (by omega) (by omega) ?_
          intro v' w6 ho6 hg6 hb6 _ hat
          refine hK _ v' w6 _ (by simp [Act.put]; done) (.of_own hg6 (fun j e => by simp [SL.row, e3, e])) ⟨ho6, rfl⟩ (fun j hj => ?_)
          rcases SL.app_bounds hr ho6 hat j hj with h | h
          · exact .inl (by simpa [SL.row, e3] using h)
          · exact .inr h
        · refine SLG.ob_no rfl rfl rfl fun us w' Fe hG hu hd Kx hK => ?_
          try dsimp only
          simp [SL.Used, SL.pu, SL.row, SL.box, SL.rowIn, SL.boxIn, SL.boxAt, SL.boxAtIn, SLF.pq, Act.put, SL.aw_sub, SL.aw_use, SL.aw_eat, SL.aw_V, SL.aw_quiet, SL.blk] at hu
          have hB5 : Below w.heap.size w w' := hBa.trans (hG.belowF hBa.size HF0.out)
          obtain ⟨hc5, hf5⟩ := bcell hB5
          have hs5 := hB5.size
          obtain ⟨hc6, hf6⟩ := hG.cellsF
          refine SLF.wpo_do (SLF.wanted_free rfl) ?hd1 ?_
          case hd1 => intro c h; cases h
          obtain ⟨⟨ho, e1⟩, ⟨e13, _⟩, hbl, e17⟩ := hu
          have hd1 := hd 6 17 (by simp [SL.aw_use]) (by simp [SL.aw_use]) (by simp)
          rw [e1, e17] at hd1
          obtain ⟨a5, c5, e19, _⟩ := owns_slice ho
          rw [e19] at ho e1 hd1
          have n1 : w.heap.size + 1 + 1 ∉ (Value.slice a5 (k + 1) c5).ownBlock.toList := fun h => hd1 _ h (by simp)
          obtain ⟨y0, y1, yf, yl⟩ := cell2w hbl
          go_step
          refine hK _ _ (.setCell _ (by simp [SL.aw_eat, e17]) _) (SL.aw_in ⟨_, _, _, ⟨Nat.zero_le _, heap_put0 hbl _, rfl⟩, ⟨SL.row_set ho n1 _, rfl⟩, fun j hj hj2 => n1 (by simp at hj; subst hj; exact hj2), rfl⟩) ?_
          intro j hj
          left
          simp [SL.aw_eat, e1, e17] at hj ⊢
          grind
        · refine SLG.ob_no rfl rfl rfl fun us w' Fe hG hu hd Kx hK => ?_
          try dsimp only
          simp [SL.Used, SL.pu, SL.row, SL.box, SL.rowIn, SL.boxIn, SL.boxAt, SL.boxAtIn, SLF.pq, Act.put, SL.aw_sub, SL.aw_use, SL.aw_eat, SL.aw_V, SL.aw_quiet, SL.blk] at hu
          have hB5 : Below w.heap.size w w' := hBa.trans (hG.belowF hBa.size HF0.out)
          obtain ⟨hc5, hf5⟩ := bcell hB5
          have hs5 := hB5.size
          obtain ⟨hc6, hf6⟩ := hG.cellsF
          refine SLF.wpo_do (SLF.wanted_free rfl) ?hd1 ?_
          case hd1 => intro c h; cases h
          obtain ⟨⟨ho, e1⟩, h2, e27, _⟩ := hu
          obtain ⟨y, F1, F2, ⟨_, hbl, rfl⟩, ⟨hy, rfl⟩, hdj, e14⟩ := SL.aw_out h2
          have hd1 := hd 12 14 (by simp [SL.aw_use]) (by simp [SL.aw_use]) (by simp)
          rw [e1, e14] at hd1
          obtain ⟨a5, c5, e25, _⟩ := owns_slice ho
          rw [e25] at ho e1 hd1
          obtain ⟨a6, c6, rfl, _⟩ := owns_slice hy
          have n1 : w.heap.size + 1 + 1 ∉ (Value.slice a5 (k + 1) c5).ownBlock.toList := fun h => hd1 _ h (by simp)
          have n2 : w.heap.size + 1 + 1 ∉ (Value.slice a6 (k + 1) c6).ownBlock.toList := fun h => hdj _ (by simp) h
          obtain ⟨y0, y1, yf, yl⟩ := cell2w hbl
          go_step
          refine hK _ _ (.setCell _ (by simp [SL.aw_eat, e14]) _) (SL.aw_in ⟨_, _, _, _, ⟨Nat.zero_le _, heap_put1 hbl _, rfl⟩, ⟨_, _, ⟨SL.row_set hy n2 _, rfl⟩, ⟨SL.row_set ho n1 _, rfl⟩, fun j h1 h2 => hd1 j h2 (by simp at h1; simp [h1]), rfl⟩, fun j hj hj2 => ?_, rfl⟩) ?_
          · simp only [List.mem_singleton] at hj
            subst hj
            rcases List.mem_append.1 hj2 with h | h
            · exact n2 h
            · exact n1 h
          · intro j hj
            left
            simp [SL.aw_eat, e1, e14] at hj ⊢
            grind
      case hck1 => kernel_rfl
      case hkp1 => kernel_rfl
      intro us w5 Fs hG hu hbd hd
      simp [SL.Used, SL.aw_sub] at hu
      obtain ⟨y, z, F1, F2, ⟨_, hbl, rfl⟩, ⟨F3, F4, ⟨hy, rfl⟩, ⟨hz, rfl⟩, hdyz, rfl⟩, _, _⟩ := SL.aw_out hu
      have hB5 : Below w.heap.size w w5 := hBa.trans (hG.belowF hBa.size HF0.out)
      have hs5 : wa.heap.size ≤ w5.heap.size := hG.size
      have hr5 := (hG.block (w.heap.size + 1) (by show w.heap.size + 1 < wa.heap.size; omega) hn1).trans hrx
      have hS5 : SpRel (w.heap.size + 1 + 1 + 1) (w.heap.size + 1 + 1) (w.heap.size + 1) ps (k + 1) w5 y z :=
        ⟨hbl, hr5, by rw [Ha.out, rcs_append, rcs_one1]; exact hy, by rw [Hf.out, List.map_append]; exact hz, hdyz⟩
      clear hu hbd hd hG hr5
      go_wp2_with fail
      go_roundw
      case rel => exact ⟨k + 1, by omega, by go_num, hB5, by omega, y, z, hS5⟩
      case measure => simp [RowKit.intOf]; omega
    · have hk2 : k = ps.length := by omega
      subst hk2
      obtain ⟨sa, sc, rfl, _⟩ := owns_slice hS.at_
      obtain ⟨fa, fc, rfl, _⟩ := owns_slice hS.ft
      have hbox := hS.box
      have hres := hS.res
      have hn1 := SL.row_bounds hS.at_
      have hn2 := SL.row_bounds hS.ft
      have ho1 := hS.at_
      have ho2 := hS.ft
      rw [spA_all] at ho1
      rw [spF_all] at ho2
      have hps := (pns_len ps).symm
      obtain ⟨x0, x1, xf, xl⟩ := cell2w hbox
      obtain ⟨y0, y1, yf, yl⟩ := cell2w hres
      have m1 : (⟨w.heap.size + 1, 0, none⟩ : Addr).block ∉ (Value.slice sa ps.length sc).ownBlock.toList := fun h => by have := hn1 _ h; simp only at this; omega
      have m2 : (⟨w.heap.size + 1, 0, none⟩ : Addr).block ∉ (Value.slice fa ps.length fc).ownBlock.toList := fun h => by have := hn2 _ h; simp only at this; omega
      have hf1 : OwnSp ((wr.setCell ⟨w.heap.size + 1, 0, none⟩ (.slice sa ps.length sc)).setCell ⟨w.heap.size + 1, 1, none⟩ (.slice fa ps.length fc)) w.heap.size sa sc fa fc (pns ps) := by
        have k1 := SL.row_set (SL.row_set ho1 m1 (.slice sa ps.length sc)) (p := ⟨w.heap.size + 1, 1, none⟩) m1 (.slice fa ps.length fc)
        have k2 := SL.row_set (SL.row_set ho2 m2 (.slice sa ps.length sc)) (p := ⟨w.heap.size + 1, 1, none⟩) m2 (.slice fa ps.length fc)
        rw [hps] at k1 k2
        rw [pns_len] at hps
        exact OwnSp.base ⟨by simpa only [pns_len] using k1, by simpa only [pns_len] using k2⟩ (show w.heap.size ≤ w.heap.size + 1 + 1 + 1 by omega)
      have Hf1 := Lib.hid hf1
      clear hf1 hS hbox hres ho1 ho2 m1 m2 hn1 hn2
      have Hps := Lib.hid hps
      clear hps
      go_wp2_with fail
      refine bodyPost_ret (v := .agg #[.slice sa ps.length sc, .slice fa ps.length fc]) (by simp [results, Tryz.results113, go_sem, *]) rfl ⟨sa, sc, fa, fc, by rw [← Hps.out], ?_, Hf1.out⟩
      exact (hB.setCell (by simp) _).setCell (by simp) _
/-- What matters of parts, as a value. -/
def spV (a : Option Addr) (ca : Nat) (f : Option Addr) (cf n : Nat) : Value := .agg #[.slice a n ca, .slice f n cf]
theorem wclash (a : Option Addr) (ca : Nat) (f : Option Addr) (cf n : Nat) (s : List Pn) (i k : Nat) (w : World) (hs : SpansAt w a ca f cf n s) (hi : i < s.length) (hk : k < s.length) :
    Calls Tryz.prog 68 #[spV a ca f cf n, .int .i64 i, .int .i64 k] w fun e w' => e = .returned (.bool (clB s i k)) ∧ Below w.heap.size w w' := by
  have he : clB s i k = (decide (i ≠ k) && (((s.getD i default).ft && (s.getD k default).ft) || decide ((s.getD i default).hi < (s.getD k default).lo) || decide ((s.getD k default).hi < (s.getD i default).lo))) := by
    unfold clB
    rw [show (i != k) = decide (i ≠ k) by rw [Bool.eq_iff_iff]; simp]
  obtain rfl := hs.len
  have hsm := hs.small
  unfold spV
  obtain ⟨b1, o1, b2, o2, rfl, rfl, l1, l2, c1, c2, c3⟩ := hs.get hi
  obtain ⟨b3, o3, b4, o4, e1, e2, _, _, d1, d2, d3⟩ := hs.get hk
  simp at e1 e2
  obtain ⟨rfl, rfl⟩ := e1
  obtain ⟨rfl, rfl⟩ := e2
  have hB0 := one_alloc w (Obj.cells #[.slice (some ⟨b1, o1, none⟩) s.length ca, .slice (some ⟨b2, o2, none⟩) s.length cf] 83)
  generalize clB s i k = T at *
  generalize s.getD i default = p at *
  generalize s.getD k default = q at *
  obtain ⟨plo, phi, pf⟩ := p
  obtain ⟨qlo, qhi, qf⟩ := q
  simp only at *
  have i1 : (i : Int) < (s.length : Int) := by omega
  have i2 : (k : Int) < (s.length : Int) := by omega
  have i3 : (0 : Int) ≤ i := by omega
  have i4 : (0 : Int) ≤ k := by omega
  by_cases hik : i = k
  · subst hik
    have HE : Hid (T = false) := Lib.hid (by rw [he]; simp)
    have hne : ((i : Int) != i) = false := by simp
    clear he hs
    go_enter Tryz.func68, Tryz.ntmps68
    go_wp2_with fail
    go_quiet (fail)
    go_wp2
    go_ret
    exact ⟨ret_bool (by rw [HE.out]; try simp), hB0.ch2 (belowN (Below.refl _ _))⟩
  · have hne : ((i : Int) != k) = true := by simp; omega
    have hE : T = (pf && qf || decide (phi < qlo) || decide (qhi < plo)) := by rw [he]; simp [hik]
    clear he hs hik
    cases pf <;> cases qf <;> cases h1 : decide (phi < qlo) <;> cases h2 : decide (qhi < plo)
    all_goals
      rw [h1, h2] at hE
      have HE := Lib.hid hE
      clear hE
      go_enter Tryz.func68, Tryz.ntmps68
      go_wp2_with fail
      go_quiet (fail)
      go_wp2
      go_ret
      exact ⟨ret_bool (by rw [HE.out]; try simp), hB0.ch2 (belowN (Below.refl _ _))⟩
theorem wisName1_any (c : UInt8) (w : World) :
    Calls Tryz.prog 136 #[.int .u8 c.toNat] w fun e w' => e = .returned (.bool (!chrB c)) ∧ Below w.heap.size w w' := by
  have he : (!chrB c) = !chrI (c.toNat : Int) := by rw [chrB_I]
  generalize (!chrB c) = T at *
  have hc0 : (0 : Int) ≤ (c.toNat : Int) := by omega
  have hc1 : (c.toNat : Int) ≤ 255 := by have := c.toNat_lt; omega
  have He := Lib.hid he
  clear he
  generalize (c.toNat : Int) = x at *
  go_enter Tryz.func136, Tryz.ntmps136
  go_wp2
  all_goals
    go_ret
    refine ⟨ret_bool ?_, Below.refl _ _⟩
    rw [He.out]
    unfold chrI
    first
      | grind
      | (trace_state; fail)
theorem all_any (l : List UInt8) : (l.any fun c => !chrB c) = !(l.all chrB) := by
  induction l with
  | nil => rfl
  | cons x l ih => simp only [List.any_cons, List.all_cons, ih]; cases chrB x <;> simp
theorem bysW (w : World) (e : TypeId) (s : ByteArray) (hs : s.size ≤ 140737488351232) : BysAt (Lib.bytesWorld w e s) (some ⟨w.heap.size, 0, none⟩) s.size (grownCap w s.size 0 e) s.data.toList ∧ Below w.heap.size w (Lib.bytesWorld w e s) := by
  refine ⟨⟨by simp, by simpa using hs, fun h => (by cases h), fun x hx => ?_⟩, ?_⟩
  · obtain rfl := Option.some.inj hx
    refine ⟨rfl, by rw [Lib.bytesWorld_size]; exact Nat.lt_succ_self _, fun i u hi => ?_⟩
    have hl : i < s.size := by have := (List.getElem?_eq_some_iff.1 hi).1; simpa using this
    simp only [Nat.zero_add]
    rw [Lib.bytesWorld_cell w e s i hl, ← hi]
    simp [List.getD_eq_getElem?_getD, hl]
  · exact ⟨rfl, rfl, rfl, by rw [Lib.bytesWorld_size]; omega, fun k hk => Lib.bytesWorld_at_old w e s k hk⟩
theorem wisName_any (s : ByteArray) (w : World) (hs : s.size ≤ maxLen) :
    Calls Tryz.prog 99 #[.string s] w fun e w' => e = .returned (.bool (nameB s.data.toList)) ∧ Below w.heap.size w w' := by
  unfold maxLen at hs
  have he := nameB_eq s
  generalize nameB s.data.toList = T at *
  obtain ⟨A, hA⟩ : ∃ A, s.data.toList.all chrB = A := ⟨_, rfl⟩
  rw [hA] at he
  have He := Lib.hid he
  clear he
  have hW := fun w1 => wwithin_any (s.size : Int) 1 24 w1
  have hent : ∀ args w, (callFunc 136 args).run Tryz.prog w = .ok (.enter 136 args) w := enters_of Tryz.func136 (by kernel_rfl) rfl
  have hCon := fun a cap w1 (h : BysAt w1 a s.size cap s.data.toList) => conB_any 136 #[] (fun c => !chrB c) a s.size cap s.data.toList w1 h hent (fun x _ w2 _ => wisName1_any x w2)
  rw [all_any, hA] at hCon
  clear hA
  by_cases h0 : 0 < s.size ∧ s.size ≤ 24
  · obtain ⟨h0, h1⟩ := h0
    have hw : withinB (s.size : Int) 1 24 = true := by unfold withinB; simp; omega
    rw [hw] at hW
    have hb0 := Lib.hid (by_at h0)
    have hr0 : (0 : Int) ≤ (s[0]).toNat := by omega
    have hcv := fun w1 => Lib.run_convert_string_bytes (P := Tryz.prog) w1 9 145 5 s Tryz.underlying9 Tryz.underlying145 Tryz.underlying5
    have hbw := fun w1 => bysW w1 5 s (by omega)
    go_enter Tryz.func99, Tryz.ntmps99
    go_wp2_with (first
      | (go_at_call 100; (with_reducible refine (hW _).mono ?_); rintro e w1 ⟨rfl, rfl⟩)
      | (go_at_call 135; refine (hCon _ _ _ (hbw _).1).mono ?_; rintro e w2 ⟨rfl, hb2⟩))
    all_goals
      go_ret
      refine ⟨ret_bool ?_, by first | exact (hbw _).2.ch2 hb2 | exact Below.refl _ _⟩
      rw [He.out]
      have z := hb0.out
      generalize ((s[0]).toNat : Int) = y at *
      subst z
      clear hcv hbw hCon hW hent
      rw [decide_eq_true h0, decide_eq_true h1]
      generalize by_ s 0 = y at *
      first
        | (cases A <;> simp <;> omega)
        | (trace_state; fail)
  · have hw : withinB (s.size : Int) 1 24 = false := by unfold withinB; rw [Bool.eq_false_iff]; simp; omega
    rw [hw] at hW
    have hF : (decide (0 < s.size) && decide (s.size ≤ 24)) = false := by rw [Bool.eq_false_iff]; simp; omega
    have HF := Lib.hid hF
    clear hF
    go_enter Tryz.func99, Tryz.ntmps99
    go_wp2_with (go_at_call 100; (with_reducible refine (hW _).mono ?_); rintro e w1 ⟨rfl, rfl⟩)
    go_ret
    refine ⟨ret_bool ?_, Below.refl _ _⟩
    rw [He.out, HF.out]
    rfl
open Go.Maps
theorem plainElem_bool_inv {P : Program} {e : TypeId} {H : Type} (he : P.underlying e = some .bool) {v : Value} {z : DataW H × List MemPlace} (h : plainElem P e v = some z) : ∃ c, v = .bool c ∧ z = (.lit (.bool c), []) := by
  unfold plainElem at h
  rw [he] at h
  cases v <;> simp at h
  exact ⟨_, rfl, h.symm⟩
theorem wpList_lookup_own_bool {H : Type} {P : Program} (w : World) {ops : Array Oper} {rest : List Oper} {o : Oper} {a : Act} {Q : Exit → Act → World → Prop}
    (hg : o.guard = none) (m x : Operand) (t : TypeId) (hop : o.op = Op.lookup t m x false)
    (k e : TypeId) (K : Keyed P k) (ht : P.underlying t = some (.map k e)) (he : P.underlying e = some .bool) (hz : (zeroValue e).run P w = .ok (.bool false) w) (b n : Nat) (D : DataW H)
    (hm : a.eval m = .map (some b)) (hown : w.ownsMap P k (plainElem P e) b n D) (key : Value) (kl : Lit) (hx : a.eval x = key) (hkey : keyOf P k key = some kl) (c : Bool) (hat : D.atKey kl (.lit (.bool false)) = .lit (.bool c))
    (hK : wpList P ops Q rest (a.put o.dst (.bool c)) w) :
    wpList P ops Q (o :: rest) a w := by
  refine wpList_plain hg fun K' hK' => ?_
  obtain ⟨v, ps, hrun, hv⟩ := hown.lookup K ht hz (plainElem_bool he false) hkey
  obtain ⟨c', rfl, hc⟩ := plainElem_bool_inv he hv
  have hcc : c' = c := by
    have h1 := congrArg Prod.fst hc
    simp only at h1
    rw [hat] at h1
    injection h1 with h1
    injection h1 with h1
    exact h1.symm
  subst hcc
  unfold Oper.wp
  simp [execOp, hop, hm, hx, hrun, Result.andThen]
  exact hK' _ _ hK
/-- A set of ints: of each number whether it is in the list. -/
structure SeenIs (D : DataW Unit) (xs : List Int) : Prop where
  map : IsMap D
  at_ : ∀ x : Int, D.atKey (.int .i64 x) (.lit (.bool false)) = .lit (.bool (decide (x ∈ xs)))
theorem SeenIs.nil : SeenIs (.map []) [] := ⟨isMap_empty, fun x => by simp [DataW.atKey]⟩
theorem SeenIs.put {D : DataW Unit} {xs : List Int} (h : SeenIs D xs) (x : Int) : SeenIs (D.put (.int .i64 x) (.lit (.bool true))) (xs ++ [x]) := by
  refine ⟨h.map.put _ _, fun y => ?_⟩
  by_cases e : y = x
  · subst e
    rw [atKey_put_same h.map (show WideAt.IsKeyLit (.int .i64 y) from trivial)]
    simp
  · rw [atKey_put_other (fun h => e (by injection h with _ h)), h.at_]
    simp [e]
theorem below_grown {w w' : World} (h : Below w.heap.size w w') : w.grownBy w' none := ⟨h.os, h.tape, h.output, h.size, fun k hk _ => h.block k hk⟩
/-- The sherds of the parts up to k. -/
def shs (ps : List Pt) (k : Nat) : List Int := (List.range k).flatMap fun i => (ps.getD i default).sh
theorem shs_succ (ps : List Pt) (k : Nat) : shs ps (k + 1) = shs ps k ++ (ps.getD k default).sh := by unfold shs; rw [List.range_succ, List.flatMap_append]; simp
theorem mem_shs {ps : List Pt} {k : Nat} {x : Int} : x ∈ shs ps k ↔ ∃ i, i < k ∧ x ∈ (ps.getD i default).sh := by
  unfold shs
  simp only [List.mem_flatMap, List.mem_range]
theorem shs_no {ps : List Pt} {k : Nat} {x : Int} (h : x ∈ shs ps k) (hx : x ∈ (ps.getD k default).sh) : disN ps k = false := by
  obtain ⟨i, hi, hm⟩ := mem_shs.1 h
  rw [Bool.eq_false_iff]
  exact fun h2 => disN_iff.1 h2 i hi x hm hx
theorem shs_yes {ps : List Pt} {k : Nat} (h : ∀ x ∈ (ps.getD k default).sh, x ∉ shs ps k) : disN ps k = true :=
  disN_iff.2 fun i hi x hx hn => h x hn (mem_shs.2 ⟨i, hi, hx⟩)
theorem asc_take {l : List Int} (h : Asc l) {j : Nat} (hj : j < l.length) : l.getD j 0 ∉ l.take j := by
  intro hm
  rw [List.mem_take_iff_getElem] at hm
  obtain ⟨i, hi, e⟩ := hm
  have := List.pairwise_iff_getElem.1 h i j (by omega) hj (by omega)
  rw [getI hj] at e
  omega
theorem keyI : Keyed Tryz.prog 3 := int_keyed Tryz.underlying3
theorem zvB (w : World) : (zeroValue 4).run Tryz.prog w = .ok (.bool false) w := by simp [go_sem]
theorem wcheck (c : Cs) (w : World) (hc : CsAt w c) :
    Calls Tryz.prog 58 #[c.v] w fun e w' => e = .returned (.int .i64 c.chk) ∧ Below w.heap.size w w' := by
  have he : c.chk = if 40 < c.ps.length then 2 else if headB c.ware.data.toList c.lim c.byr && caseN c.ps c.ps.length then 0 else 1 := cchk_N _ _ _ _
  generalize c.chk = T at *
  obtain ⟨ware, lim, byr, a, cap, ps⟩ := c
  simp only [Cs.v] at *
  have hws := hc.ware
  simp only at hws
  have hps := hc.ps.small
  simp only at hps
  have hB0 := one_alloc w (Obj.cells #[.string ware, .int .i64 lim, .int .i64 byr, .slice a ps.length cap] 24)
  by_cases hm : 40 < ps.length
  · rw [if_pos hm] at he
    have h1 : decide ((40 : Int) < (ps.length : Int)) = true := by simp; omega
    have h2 : decide (40 < ps.length) = true := by simp; omega
    have He := Lib.hid he
    clear he
    go_enter Tryz.func58, Tryz.ntmps58
    go_wp2_with fail
    go_ret
    exact ⟨ret_int He.out.symm, hB0⟩
  · rw [if_neg hm] at he
    have h1 : decide ((40 : Int) < (ps.length : Int)) = false := by simp; omega
    have h2 : decide (40 < ps.length) = false := by simp; omega
    have hN := fun w1 => wisName_any ware w1 hws
    have hW := fun w1 => wwithin_any lim 0 40 w1
    have hT := fun w1 => wtold_any byr (lim == 0) w1
    have hh : headB ware.data.toList lim byr = (nameB ware.data.toList && withinB lim 0 40 && toldB byr (lim == 0)) := by
      unfold headB withinB
      congr 2
    rw [hh] at he
    generalize nameB ware.data.toList = N at *
    generalize withinB lim 0 40 = W at *
    generalize toldB byr (lim == 0) = TT at *
    have hmm := @run_makeMap Tryz.prog
    cases hA : (N && W && TT)
    · rw [hA] at he
      have HA := Lib.hid hA
      have He := Lib.hid (show T = 1 by rw [he]; rfl)
      clear he hA hh
      go_enter Tryz.func58, Tryz.ntmps58
      go_wp2_with (first
        | (go_at_call 99; (with_reducible refine (hN _).mono ?_); rintro e w1 ⟨rfl, hb1⟩; obtain ⟨hc1, hf1⟩ := bcell hb1; have hz1 := lt_size hb1 (b := w.heap.size) (by first | assumption | omega | (simp; done) | (simp; omega)))
        | (go_at_call 100; (with_reducible refine (hW _).mono ?_); rintro e w1 ⟨rfl, rfl⟩)
        | (go_at_call 101; (with_reducible refine (hT _).mono ?_); rintro e w1 ⟨rfl, rfl⟩))
      all_goals first
        | (go_ret
           exact ⟨ret_int He.out.symm, hB0.ch2 hb1⟩)
        | (exfalso
           have hh := HA.out
           simp_all)
    · have hAA := hA
      simp only [Bool.and_eq_true] at hAA
      obtain ⟨⟨rfl, rfl⟩, rfl⟩ := hAA
      rw [hA, Bool.true_and] at he
      have He := Lib.hid he
      clear he hA hh
      go_enter Tryz.func58, Tryz.ntmps58
      go_wp2_with (first
        | (go_at_call 99; (with_reducible refine (hN _).mono ?_); rintro e w1 ⟨rfl, hb1⟩; obtain ⟨hc1, hf1⟩ := bcell hb1; have hz1 := lt_size hb1 (b := w.heap.size) (by first | assumption | omega | (simp; done) | (simp; omega)))
        | (go_at_call 100; (with_reducible refine (hW _).mono ?_); rintro e w1 ⟨rfl, rfl⟩)
        | (go_at_call 101; (with_reducible refine (hT _).mono ?_); rintro e w1 ⟨rfl, rfl⟩))
      have hB1 := hB0.ch2 hb1
      have hzz := hB1.size
      clear hc1 hf1 hN hW hT hb1
      go_loopw [35] (fun i wr => ∃ k : Nat, k ≤ ps.length ∧ i = .int .i64 k ∧ Below w.heap.size w wr ∧ (∃ D : DataW Unit, wr.ownsMap Tryz.prog 3 (plainElem Tryz.prog 4) w1.heap.size (k * 40) D ∧ SeenIs D (shs ps k)) ∧ caseN ps k = true) (fun i _ => ps.length - (RowKit.intOf i).toNat)
      case atStart => exact ⟨0, Nat.zero_le _, rfl, hB1.alloc hzz _, ⟨.map [], World.ownsMap_made _ _ _ _, SeenIs.nil⟩, rfl⟩
      case round =>
        obtain ⟨k, hk, rfl, hB, ⟨D, hown, hsee⟩, hall⟩ := hrel
        have Hall := Lib.hid hall
        have Hsee := Lib.hid hsee
        clear hall hsee
        have hnn : (0 : Int) ≤ k := by omega
        by_cases hlt : k < ps.length
        · have i1 : (k : Int) < (ps.length : Int) := by omega
          obtain ⟨b1, o1, rfl, bl1, d0, d1, d2, d3, d4, d5, d6, d7⟩ := (hc.ps.below hB).get hlt
          have hpk := (hc.ps.below hB).each _ (Pt.mem hlt)
          have hpk0 := hc.ps.each _ (Pt.mem hlt)
          have Hsu := Lib.hid (caseN_succ ps k)
          have Hpre := Lib.hid (@caseN_pre ps (k + 1) ps.length (by omega))
          have Hsh := Lib.hid (shs_succ ps k)
          have Hno := Lib.hid (fun x => @shs_no ps k x)
          have Hyes := Lib.hid (@shs_yes ps k)
          simp only at d0 d1 d2 d3 d4 d5 d6 d7 hpk hpk0
          generalize ps.getD k default = p at *
          have hR := fun w2 h => wright_any p w2 h
          have hsm := @ptB_small p
          have hlt0 := hown.lt
          cases hpB : ptB p
          · rw [hpB] at hR
            have Hpf := Lib.hid hpB
            have HF : Hid (T = 1) := Lib.hid (by rw [He.out, Hpre.out (by rw [Hsu.out, Hpf.out]; simp)]; rfl)
            clear hpB hsm
            simp only [Pt.v] at hR
            go_wp2_with (go_at_call 102; (with_reducible refine (hR _ (hpk.below (one_alloc wr _))).mono ?_); rintro e w2 ⟨rfl, hb2⟩)
            go_ret
            exact ⟨ret_int HF.out.symm, (hB.alloc (by have := hB.size; omega) _).ch2 hb2⟩
          · rw [hpB] at hR
            have Hpt := Lib.hid hpB
            have hptp := ptB_parts hpB
            obtain ⟨⟨_, hs40, hris⟩, _⟩ := hptp
            obtain ⟨hasc, hrg⟩ := risB_iff.1 hris
            have Hasc := Lib.hid hasc
            have Hrg := Lib.hid hrg
            clear hpB hsm hris hasc hrg
            simp only [Pt.v] at hR
            go_wp2_with (go_at_call 102; (with_reducible refine (hR _ (hpk.below (one_alloc wr _))).mono ?_); rintro e w2 ⟨rfl, hb2⟩; obtain ⟨hc2, hf2⟩ := bcell hb2; have hzr := lt_size hb2 (b := wr.heap.size) (by first | assumption | omega | (simp; done) | (simp; omega)))
            have hB2 : Below w.heap.size w w2 := (hB.alloc (by have := hB.size; omega) _).ch2 hb2
            have hown2 := (hown.alloc (Obj.cells #[.slice p.sa p.sh.length p.sc, .int .i64 p.lo, .int .i64 p.hi, .int .i64 p.lob, .int .i64 p.hib, .bool p.ft, .int .i64 p.fby, .slice p.ra p.re.length p.rc] 49)).kept (below_grown hb2) (by simp)
            clear hc2 hf2 hb2 hpk hR d0 d1 d2 d3 d4 d5 d6 d7 hown
            have hsm := hpk0.sh.small
            go_loopw [45] (fun i wr => ∃ j : Nat, j ≤ p.sh.length ∧ i = .int .i64 j ∧ Below w.heap.size w wr ∧ (∃ D : DataW Unit, wr.ownsMap Tryz.prog 3 (plainElem Tryz.prog 4) w1.heap.size (k * 40 + j) D ∧ SeenIs D (shs ps k ++ p.sh.take j)) ∧ (∀ x ∈ p.sh.take j, x ∉ shs ps k)) (fun i _ => p.sh.length - (RowKit.intOf i).toNat)
            case atStart => exact ⟨0, Nat.zero_le _, rfl, hB2, ⟨D, hown2, by rw [List.take_zero, List.append_nil]; exact Hsee.out⟩, by simp⟩
            case round =>
              obtain ⟨j, hj, rfl, hBj, ⟨D2, hown3, hsee3⟩, hnot⟩ := hrel
              have Hsee3 := Lib.hid hsee3
              have Hnot := Lib.hid hnot
              clear hsee3 hnot
              have hjn : (0 : Int) ≤ j := by omega
              have hlt3 := hown3.lt
              by_cases hjl : j < p.sh.length
              · have j1 : (j : Int) < (p.sh.length : Int) := by omega
                obtain ⟨b2, o2, e2, bl2, g0⟩ := (hpk0.sh.below hBj).get hjl
                have Htk := Lib.hid (show p.sh.take (j + 1) = p.sh.take j ++ [p.sh.getD j 0] from take_get hjl)
                have hxr := Hrg.out _ (mem_getD hjl)
                have Hmem := Lib.hid (mem_getD hjl)
                have Hat := Lib.hid (asc_take Hasc.out hjl)
                obtain ⟨x, hx⟩ : ∃ x, p.sh.getD j 0 = x := ⟨_, rfl⟩
                rw [hx] at g0 hxr Htk Hmem Hat
                have hkey : keyOf Tryz.prog 3 (.int .i64 x) = some (.int .i64 x) := keyOf_int_mk Tryz.underlying3 (WalkArith.wf_i64 (by omega))
                have Hkey := Lib.hid hkey
                clear hx hkey
                have hl := Hsee3.out.at_ x
                have hzv := zvB wr
                by_cases hin : x ∈ shs ps k
                · have hd : decide (x ∈ shs ps k ++ p.sh.take j) = true := by simp [hin]
                  rw [hd] at hl
                  have Hl := Lib.hid hl
                  have HF : Hid (T = 1) := Lib.hid (by rw [He.out, Hpre.out (by rw [Hsu.out, Hno.out x hin Hmem.out]; simp)]; rfl)
                  clear hl hd hin
                  rw [e2]
                  go_wp2_with (at_lookup; refine wpList_lookup_own_bool _ rfl _ _ 116 rfl 3 4 keyI Tryz.underlying116 Tryz.underlying4 (zvB _) w1.heap.size _ D2 rfl hown3 _ _ rfl Hkey.out true Hl.out ?_)
                  go_ret
                  exact ⟨ret_int HF.out.symm, hBj⟩
                · have hd : decide (x ∈ shs ps k ++ p.sh.take j) = false := by
                    simp only [decide_eq_false_iff_not, List.mem_append, not_or]
                    exact ⟨hin, Hat.out⟩
                  rw [hd] at hl
                  have Hl := Lib.hid hl
                  have Hin := Lib.hid hin
                  clear hl hd hin
                  rw [e2]
                  go_wp2_with (first
                    | (at_lookup; refine wpList_lookup_own_bool _ rfl _ _ 116 rfl 3 4 keyI Tryz.underlying116 Tryz.underlying4 (zvB _) w1.heap.size _ D2 rfl hown3 _ _ rfl Hkey.out false Hl.out ?_)
                    | (at_mapUpdate; refine wpList_mapUpdate_own _ rfl _ _ _ 116 rfl 3 4 keyI Tryz.underlying116 _ w1.heap.size _ _ rfl hown3 (by unfold maxLen; omega) _ _ _ rfl rfl Hkey.out _ [] (plainElem_bool Tryz.underlying4 true) ?_; intro w4 hown4 hgrow4))
                  go_roundw
                  case rel => exact ⟨j + 1, by omega, by go_num, hBj.grown hgrow4 (by omega) (by simp; omega), ⟨_, hown4, by rw [Htk.out, ← List.append_assoc]; exact Hsee3.out.put x⟩, fun y hy => by
                    rw [Htk.out] at hy
                    rcases List.mem_append.1 hy with hy | hy
                    · exact Hnot.out y hy
                    · simp at hy; subst hy; exact Hin.out⟩
                  case measure => simp [RowKit.intOf]; omega
              · have hj2 : j = p.sh.length := by omega
                subst hj2
                have Hy := Lib.hid (Hyes.out (fun x hx => Hnot.out x (by rw [List.take_length]; exact hx)))
                go_wp2_with fail
                go_roundw
                case rel => exact ⟨k + 1, by omega, by go_num, hBj, ⟨D2, hown3.mono (by omega), by rw [Hsh.out]; have := Hsee3.out; rwa [List.take_length] at this⟩, by rw [Hsu.out, Hall.out, Hpt.out, Hy.out]; rfl⟩
                case measure => simp [RowKit.intOf]; omega
        · have hk2 : k = ps.length := by omega
          subst hk2
          have Hk : Hid (T = 0) := Lib.hid (by rw [He.out, Hall.out]; rfl)
          go_wp2_with fail
          go_ret
          exact ⟨ret_int Hk.out.symm, hB⟩
end Go.Proofs.YtodkbfbbpfghiaaGreat
namespace Go.Proofs.YtodkbfbbpfghiaaGreat
open Go.RowKit Go.Shelf
set_option maxHeartbeats 4000000
set_option maxRecDepth 100000
def isB : Value → Bool
  | .bool _ => true
  | _ => false
theorem isB_some {v : Value} (h : isB v = true) : ∃ b, v = .bool b := by
  cases v <;> simp [isB] at h
  exact ⟨_, rfl⟩
theorem tget {z : Array Value} {i j : Nat} {v : Value} (h : i ≠ j) : (z.setIfInBounds i v)[j]? = z[j]? := by rw [Array.getElem?_setIfInBounds, if_neg h]
theorem tsame {z : Array Value} {i : Nat} {v : Value} (h : i < z.size) : (z.setIfInBounds i v)[i]? = some v := by rw [Array.getElem?_setIfInBounds, if_pos rfl, if_pos h]
theorem six_set {n : Nat} (z : Array Value) (hs : z.size = n) (h6 : 6 < n) (x0 x1 x2 x3 x4 x5 : Value) (w : Array Value) (hw : w = (((((z.setIfInBounds 0 x0).setIfInBounds 1 x1).setIfInBounds 2 x2).setIfInBounds 3 x3).setIfInBounds 4 x4).setIfInBounds 5 x5) :
    w.size = n ∧ w[0]? = some x0 ∧ w[1]? = some x1 ∧ w[2]? = some x2 ∧ w[3]? = some x3 ∧ w[4]? = some x4 ∧ w[5]? = some x5 ∧ ∀ q, 6 ≤ q → w[q]? = z[q]? := by
  subst hw
  refine ⟨by simp [hs], ?_, ?_, ?_, ?_, ?_, ?_, fun q hq => ?_⟩
  · rw [tget (by omega), tget (by omega), tget (by omega), tget (by omega), tget (by omega), tsame (by omega)]
  · rw [tget (by omega), tget (by omega), tget (by omega), tget (by omega), tsame (by simp; omega)]
  · rw [tget (by omega), tget (by omega), tget (by omega), tsame (by simp; omega)]
  · rw [tget (by omega), tget (by omega), tsame (by simp; omega)]
  · rw [tget (by omega), tsame (by simp; omega)]
  · rw [tsame (by simp; omega)]
  · rw [tget (by omega), tget (by omega), tget (by omega), tget (by omega), tget (by omega), tget (by omega)]
/-- A table's cells: a case, its spans, and 40 times 40 bools. -/
structure TabC (n : Nat) (cs : Array Value) (x0 x1 x2 x3 x4 x5 : Value) : Prop where
  size : cs.size = n
  h0 : cs[0]? = some x0
  h1 : cs[1]? = some x1
  h2 : cs[2]? = some x2
  h3 : cs[3]? = some x3
  h4 : cs[4]? = some x4
  h5 : cs[5]? = some x5
  hb : ∀ q, 6 ≤ q → q < n → ∃ b, cs[q]? = some (.bool b)
theorem tabZ (x0 x1 x2 x3 x4 x5 : Value) : TabC 1606 ((((((Tryz.zeroCells87.setIfInBounds 0 x0).setIfInBounds 1 x1).setIfInBounds 2 x2).setIfInBounds 3 x3).setIfInBounds 4 x4).setIfInBounds 5 x5) x0 x1 x2 x3 x4 x5 := by
  have hs : Tryz.zeroCells87.size = 1606 := by kernel_rfl
  have hb : ((Tryz.zeroCells87.toList.drop 6).all isB) = true := by kernel_rfl
  generalize Tryz.zeroCells87 = z at *
  obtain ⟨a0, a1, a2, a3, a4, a5, a6, a7⟩ := six_set z hs (by omega) x0 x1 x2 x3 x4 x5 _ rfl
  refine ⟨a0, a1, a2, a3, a4, a5, a6, fun q k1 k2 => ?_⟩
  have hq : z[q]? = some z[q] := Array.getElem?_eq_getElem (by omega)
  have hm : isB z[q] = true := List.all_eq_true.1 hb z[q] (by
    rw [List.mem_drop_iff_getElem]
    exact ⟨q - 6, by simp; omega, by simp [show 6 + (q - 6) = q by omega]⟩)
  obtain ⟨b, e⟩ := isB_some hm
  exact ⟨b, by rw [a7 q k1, hq, e]⟩
theorem TabC.set {n : Nat} {cs : Array Value} {x0 x1 x2 x3 x4 x5 : Value} (h : TabC n cs x0 x1 x2 x3 x4 x5) {q : Nat} (hq : 6 ≤ q) (b : Bool) : TabC n (cs.setIfInBounds q (.bool b)) x0 x1 x2 x3 x4 x5 := by
  refine ⟨by rw [Array.size_setIfInBounds]; exact h.size, ?_, ?_, ?_, ?_, ?_, ?_, fun p h1 h2 => ?_⟩
  · rw [tget (by omega)]; exact h.h0
  · rw [tget (by omega)]; exact h.h1
  · rw [tget (by omega)]; exact h.h2
  · rw [tget (by omega)]; exact h.h3
  · rw [tget (by omega)]; exact h.h4
  · rw [tget (by omega)]; exact h.h5
  · by_cases e : q = p
    · subst e
      exact ⟨b, tsame (by rw [h.size]; exact h2)⟩
    · rw [tget e]; exact h.hb p h1 h2
end Go.Proofs.YtodkbfbbpfghiaaGreat
