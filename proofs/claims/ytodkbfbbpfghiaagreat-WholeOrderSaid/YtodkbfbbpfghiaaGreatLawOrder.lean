/-
  The law Order, walked, and its statement.
-/
import Derived.Test.YtodkbfbbpfghiaaGreatPc25
import Derived.Test.YtodkbfbbpfghiaaGreatPc23
import Derived.Test.YtodkbfbbpfghiaaGreatPc12
import Derived.Test.YtodkbfbbpfghiaaGreatRows
import Derived.OpenShut
set_option linter.unusedSimpArgs false
set_option linter.unusedVariables false
set_option linter.unnecessarySimpa false
namespace Go.Proofs.YtodkbfbbpfghiaaGreat
open Go.RowKit Go.Shelf Go.Lib
set_option maxHeartbeats 8000000
set_option maxRecDepth 100000
theorem okWide_u8 {P : Program} {w : World} {base : Nat} {t : TypeId} {v : Value} (ht : P.underlying t = some (.int .u8)) (h : Value.okWide P w .any base t v) : ∃ n : Nat, n < 256 ∧ v = .int .u8 n := by
  simp only [Value.okWide, ht, Cell.okWide] at h
  cases v with
  | int k n =>
    simp only [Cell.ok, ht] at h
    obtain ⟨rfl, h1, h2⟩ := h
    have h1 : (0 : Int) ≤ n := h1
    have h2 : n ≤ 255 := h2
    exact ⟨n.toNat, by omega, by rw [Int.toNat_of_nonneg h1]⟩
  | _ => simp_all [Cell.ok]
/-- The parts in another order: the same numbers. -/
theorem ord_same {c d : Cs} (hw : d.ware = c.ware) (hl : d.lim = c.lim) (hb : d.byr = c.byr) (hp : d.ps.Perm c.ps) : d.leastI = c.leastI ∧ d.chk = c.chk ∧ d.num = c.num := by
  have h1 : d.chk = c.chk := by unfold Cs.chk; rw [hw, hl, hb]; exact cchk_perm hp
  have h2 : leastN d.s = leastN c.s := least_perm (pns_perm hp)
  have h3 : d.most = c.most := by unfold Cs.most; rw [hl, hp.length_eq]
  refine ⟨?_, h1, ?_⟩
  · unfold Cs.leastI; rw [h1, h2]
  · unfold Cs.num; rw [h1, h2, h3]
/-- A part of a row of one's own. -/
theorem row8v {w : World} {base : Nat} {t : TypeId} {n G cap : Nat} {qs : List Pt} (h : w.ownsRow base t 8 (.slice (some ⟨G, 0, none⟩) n cap) n (pcs qs)) {i : Nat} (hi : i < qs.length) :
    w.cell? ⟨G, i * 8, none⟩ = some (.slice (qs.getD i default).sa (qs.getD i default).sh.length (qs.getD i default).sc) ∧ w.cell? ⟨G, i * 8 + 1, none⟩ = some (.int .i64 (qs.getD i default).lo) ∧
    w.cell? ⟨G, i * 8 + 2, none⟩ = some (.int .i64 (qs.getD i default).hi) ∧ w.cell? ⟨G, i * 8 + 3, none⟩ = some (.int .i64 (qs.getD i default).lob) ∧ w.cell? ⟨G, i * 8 + 4, none⟩ = some (.int .i64 (qs.getD i default).hib) ∧
    w.cell? ⟨G, i * 8 + 5, none⟩ = some (.bool (qs.getD i default).ft) ∧ w.cell? ⟨G, i * 8 + 6, none⟩ = some (.int .i64 (qs.getD i default).fby) ∧
    w.cell? ⟨G, i * 8 + 7, none⟩ = some (.slice (qs.getD i default).ra (qs.getD i default).re.length (qs.getD i default).rc) ∧ (∀ i, w.frozen? ⟨G, i, none⟩ = false) ∧ G < w.heap.size := by
  have g := fun j hj => flat_get (f := Pt.cs) (k := 8) (fun _ => rfl) qs i j hi hj
  have hl := h.1
  have hpl := pcs_length qs
  have k := fun (j : Nat) (hj : j < 8) (u : Value) (hu : (Pt.cs (qs.getD i default))[j]? = some u) => (show w.cell? ⟨G, i * 8 + j, none⟩ = some u by
    have := (g j hj).trans hu
    rw [h.cellAt (i * 8 + j) (by omega)]
    exact this)
  exact ⟨k 0 (by omega) _ rfl, k 1 (by omega) _ rfl, k 2 (by omega) _ rfl, k 3 (by omega) _ rfl, k 4 (by omega) _ rfl, k 5 (by omega) _ rfl, k 6 (by omega) _ rfl, k 7 (by omega) _ rfl, fun i => h.frozenAt i, (SL.row_bounds h G (by simp [Value.ownBlock])).2⟩
theorem swap_perm {qs : List Pt} {i j : Nat} (hi : i < qs.length) (hj : j < qs.length) : ((qs.set i (qs.getD j default)).set j (qs.getD i default)).Perm qs := by
  rw [List.getD_eq_getElem?_getD, List.getD_eq_getElem?_getD, List.getElem?_eq_getElem hi, List.getElem?_eq_getElem hj]
  exact List.set_set_perm hi hj
theorem rot_perm (ps : List Pt) (k : Nat) : (ps.drop k ++ ps.take k).Perm ps := by
  have := List.perm_append_comm (l₁ := ps.drop k) (l₂ := ps.take k)
  rwa [List.take_append_drop] at this
/-- What the turning holds. -/
structure OrdIn (w W : World) (c : Cs) (BD G dc : Nat) (qs : List Pt) : Prop where
  s : LS w W w.heap.size c
  box : W.heap[BD]? = some (.cells #[.string c.ware, .int .i64 c.lim, .int .i64 c.byr, .slice (some ⟨G, 0, none⟩) c.ps.length dc] 24 (0, 0))
  row : W.ownsRow w.heap.size 49 8 (.slice (some ⟨G, 0, none⟩) c.ps.length dc) c.ps.length (pcs qs)
  perm : qs.Perm c.ps
theorem OrdIn.below {w W W' : World} {c : Cs} {BD G dc : Nat} {qs : List Pt} (h : OrdIn w W c BD G dc qs) (hb : Below W.heap.size W W') : OrdIn w W' c BD G dc qs :=
  ⟨h.s.ch hb, (hb.block _ (heap_lt h.box)).trans h.box, h.row.up hb (Nat.le_refl _), h.perm⟩
/-- Two parts in each other's places. -/
theorem OrdIn.put {w W : World} {c : Cs} {BD G dc i : Nat} {qs : List Pt} (hs : LS w W w.heap.size c) (hbox : W.heap[BD]? = some (.cells #[.string c.ware, .int .i64 c.lim, .int .i64 c.byr, .slice (some ⟨G, 0, none⟩) c.ps.length dc] 24 (0, 0)))
    (hrow : W.ownsRow w.heap.size 49 8 (.slice (some ⟨G, 0, none⟩) c.ps.length dc) c.ps.length (pcs qs)) (hi : i < qs.length) (hG : w.heap.size ≤ G) (hGB : ¬ BD = G) (hwG : ¬ w.heap.size = G) (g : Pt) {W' : World}
    (hW : W' = ((((((((W.setCell ⟨G, i * 8, none⟩ (.slice g.sa g.sh.length g.sc)).setCell ⟨G, i * 8 + 1, none⟩ (.int .i64 g.lo)).setCell ⟨G, i * 8 + 2, none⟩ (.int .i64 g.hi)).setCell ⟨G, i * 8 + 3, none⟩ (.int .i64 g.lob)).setCell ⟨G, i * 8 + 4, none⟩ (.int .i64 g.hib)).setCell ⟨G, i * 8 + 5, none⟩ (.bool g.ft)).setCell ⟨G, i * 8 + 6, none⟩ (.int .i64 g.fby)).setCell ⟨G, i * 8 + 7, none⟩ (.slice g.ra g.re.length g.rc))) (hc : CsAt w c) :
    LS w W' w.heap.size c ∧ W'.heap[BD]? = some (.cells #[.string c.ware, .int .i64 c.lim, .int .i64 c.byr, .slice (some ⟨G, 0, none⟩) c.ps.length dc] 24 (0, 0)) ∧ W'.ownsRow w.heap.size 49 8 (.slice (some ⟨G, 0, none⟩) c.ps.length dc) c.ps.length (pcs (qs.set i g)) ∧ SL.Chg [G] W W' := by
  have hch : SL.Chg [G] W W' := by rw [hW]; exact chg_at8 W (by simp) ..
  have hB : Below w.heap.size w W' := hs.below.trans (hch.belowW hs.below.size (by simp; omega))
  refine ⟨⟨hB, (hch.block _ (heap_lt hs.x1) (by simp; omega)).trans hs.x1, hc.below hB⟩, (hch.block _ (heap_lt hbox) (by simp; omega)).trans hbox, ?_, hch⟩
  rw [hW, pcs_put hi g]
  exact row_at8 hrow ..
theorem owns_type {w : World} {base : Nat} {e : TypeId} {size n G cap : Nat} {xs : List Value} (h : w.ownsRow base e size (.slice (some ⟨G, 0, none⟩) n cap) n xs) : ∃ cur, w.heap[G]? = some (.cells cur e (0, 0)) := by
  obtain ⟨hl, ⟨hv, h0⟩ | ⟨g, cap', cur, hv, hb, hg, hc, _⟩⟩ := h
  · simp at hv
  · simp at hv
    obtain ⟨rfl, _⟩ := hv
    exact ⟨cur, hg⟩
theorem law_order (c : Cs) (t : Nat) (ht : t < 256) (w : World) (hc : CsAt w c) (hcr : c.ps.length ≤ c.cap) :
    Calls Tryz.prog 6 #[c.v, .int .u8 t] w fun e w' => e = .returned (.bool true) ∧ Below w.heap.size w w' := by
  have fSm := fun W (h : CsAt W c) => lsmall c 12 W h
  have fL := fun (d : Cs) W (h : CsAt W d) => wLeast d W h
  have fN := fun (d : Cs) W (h : CsAt W d) => wNumbers d W h
  simp only [Cs.v] at fSm fL fN ⊢
  have S0 := LS.start w hc
  obtain ⟨y0, y1, y2, y3, yl⟩ := S0.cells
  have S0 := Lib.hid S0
  by_cases hn0 : c.ps.length = 0
  · have n0 : ((c.ps.length : Int) == 0) = true := by rw [hn0]; rfl
    clear hn0 fL fN
    go_enter Tryz.func6, Tryz.ntmps6
    go_wp2_with (first
      | (go_at_call 27; (with_reducible refine (fSm _ S0.out.c1).mono ?_); rintro e w1 ⟨b, rfl, hb1, _⟩; have S1 := (S0.out).ch hb1; clear y0 y1 y2 y3 yl; obtain ⟨y0, y1, y2, y3, yl⟩ := S1.cells; have S1 := Lib.hid S1; cases b; clear hb1)
      | (go_at_call 17; (with_reducible refine (ltold _).mono ?_); rintro e wT ⟨rfl, hbT⟩))
    all_goals go_ret
    all_goals exact ⟨rfl, S1.out.below.ch2 hbT⟩
  have n0 : ((c.ps.length : Int) == 0) = false := by rw [beq_eq_false_iff_ne]; omega
  have hpos : 0 < c.ps.length := by omega
  have hne : ¬ c.ps = [] := fun e => by rw [e] at hpos; simp at hpos
  clear hn0
  obtain ⟨k, hk⟩ : ∃ k, t % c.ps.length = k := ⟨_, rfl⟩
  have hkl : k < c.ps.length := by rw [← hk]; exact Nat.mod_lt _ hpos
  have hkm : (t : Int) % (c.ps.length : Int) = (k : Int) := by rw [← hk]; rfl
  have hsm := hc.ps.small
  have HK := Lib.hid hkl
  have HP := Lib.hid hpos
  have HC := Lib.hid hcr
  have h0t : (0 : Int) ≤ (t : Int) := by omega
  have ht2 : (t : Int) ≤ 255 := by omega
  clear hk hkl hpos
  go_enter Tryz.func6, Tryz.ntmps6
  go_wp2_with (first
    | (go_at_call 27; (with_reducible refine (fSm _ S0.out.c1).mono ?_); rintro e w1 ⟨b, rfl, hb1, hb12⟩; have S1 := (S0.out).ch hb1; clear y0 y1 y2 y3 yl; obtain ⟨y0, y1, y2, y3, yl⟩ := S1.cells; have S1 := Lib.hid S1; have HB12 := Lib.hid hb12; cases b; clear hb1 hb12)
    | (go_at_call 17; (with_reducible refine (ltold _).mono ?_); rintro e wT ⟨rfl, hbT⟩))
  · go_ret
    exact ⟨rfl, S1.out.below.ch2 hbT⟩
  have H12 := (by have := HB12.out; simpa using this : (c.ps.length : Int) ≤ 12)
  have hpos := HP.out
  have hkl := HK.out
  have hcr := HC.out
  obtain ⟨b1, o1, ha, bl1, _⟩ := hc.ps.get hpos
  have Ha := Lib.hid ha
  rw [ha] at y3
  have hT : RowAt w (some ⟨b1, o1, none⟩) c.cap (pcs c.ps) := by rw [← ha]; exact hc.ps.row
  rw [ha]
  simp only [hkm]
  clear hkm
  obtain ⟨w2, hw2⟩ : ∃ w2, w1.alloc (Obj.cells #[.string c.ware, .int .i64 c.lim, .int .i64 c.byr, .slice (some ⟨b1, o1, none⟩) c.ps.length c.cap] 24) = w2 := ⟨_, rfl⟩
  rw [hw2]
  have S2 := S1.out.ch (one_alloc w1 (Obj.cells #[.string c.ware, .int .i64 c.lim, .int .i64 c.byr, .slice (some ⟨b1, o1, none⟩) c.ps.length c.cap] 24))
  rw [hw2] at S2
  have hbox : w2.heap[w1.heap.size]? = some (.cells #[.string c.ware, .int .i64 c.lim, .int .i64 c.byr, .slice (some ⟨b1, o1, none⟩) c.ps.length c.cap] 24 (0, 0)) := by rw [← hw2]; exact World.alloc_heap_new _ _
  have hz2 : w1.heap.size < w2.heap.size := by rw [← hw2]; simp
  have hz1 := yl
  have hBW := S2.below
  have zw : w.heap.size ≤ w1.heap.size := by omega
  obtain ⟨BD, hBD⟩ : ∃ BD, w1.heap.size = BD := ⟨_, rfl⟩
  rw [hBD] at hbox hz1 hz2 zw ⊢
  have hx1 := S2.x1
  clear y0 y1 y2 y3 yl hw2 hBD
  obtain ⟨y0, y1, y2, y3, yl⟩ := S2.cells
  rw [ha] at y3 hx1
  have S2 := Lib.hid S2
  have x1 : (k : Int) ≤ (c.cap : Int) := by omega
  have x2 : (k : Int) ≤ (c.ps.length : Int) := by omega
  have x3 : (0 : Int) ≤ (k : Int) := by omega
  have x9 : (c.ps.length : Int) ≤ (c.cap : Int) := by omega
  have y1' : ((k : Int) == (c.cap : Int)) = false := by simp; omega
  have y2' : (k == c.cap) = false := by simp; omega
  have nB : ¬ w.heap.size = BD := by omega
  have hzz := hBW.size
  obtain ⟨T1, hT1⟩ : ∃ T1, pcs (c.ps.drop k) = T1 := ⟨_, rfl⟩
  obtain ⟨T2, hT2⟩ : ∃ T2, pcs (c.ps.take k) = T2 := ⟨_, rfl⟩
  have Hl1 := Lib.hid (show T1.length = (c.ps.length - k) * 8 by rw [← hT1, pcs_length, List.length_drop])
  have Hl2 := Lib.hid (show T2.length = k * 8 by rw [← hT2, pcs_length, List.length_take]; congr 1; omega)
  have ho1 : ∀ u ∈ T1, u.oneCell' = true := by rw [← hT1]; exact pcs_one _
  have ho2 : ∀ u ∈ T2, u.oneCell' = true := by rw [← hT2]; exact pcs_one _
  have HT1 := Lib.hid hT1
  have HT2 := Lib.hid hT2
  have hr1 : ∀ W c', Below w.heap.size w W → RowAt W (some ⟨b1, o1 + k * 8, none⟩) c' T1 := fun W c' h => by
    have := rowDrop (a2 := some ⟨b1, o1 + k * 8, none⟩) (c2 := c') (hT.below h) (k * 8) (.inl rfl)
    rwa [pcs_drop (by omega), hT1] at this
  have hr2 : ∀ W c', Below w.heap.size w W → RowAt W (some ⟨b1, o1, none⟩) c' T2 := fun W c' h => by
    have := rowTake (hT.below h) (k * 8) c' (fun h => by cases h)
    rwa [pcs_take (by omega), hT2] at this
  clear hT1 hT2 hT ha
  apply SLG.rule0 ?hm1 [BD] [39, 40, 41, 42, 43, 44, 45, 46, 47, 48, 49, 50] [SL.row 39 [] [] w.heap.size 49 8 0 [], SLF.pq 40 [] _, SLF.pq 41 [1] _, SLF.pq 42 [] _, SLF.pq 43 [2, 3] _, SL.row 44 [0, 4] [0] w.heap.size 49 8 (c.ps.length - k) T1, SLF.pq 45 [] _, SLF.pq 46 [6] _, SLF.pq 47 [] _, SLF.pq 48 [7, 8] _, SL.row 49 [5, 9] [5] w.heap.size 49 8 (c.ps.length - k + k) (T1 ++ T2), SLF.pq 50 [] _, SL.boxAtIn 6 [10, 11, 13] [10, 13] BD 24 w.heap.size 49 8 (c.ps.length - k + k) (T1 ++ T2) (fun y => #[.string c.ware, .int .i64 c.lim, .int .i64 c.byr, y]), SL.boxAt 6 [] [] BD 24 #[.string c.ware, .int .i64 c.lim, .int .i64 c.byr, .slice (some ⟨b1, o1, none⟩) c.ps.length c.cap]] [12] ?hck1 ?hkp1 (fun i => if i = 13 then [BD] else []) ?hin1 ?hdj1 ?hfr1 ?ob1 ?en1
  case hm1 => kernel_rfl
  case hin1 => exact SL.one_held rfl rfl ⟨rfl, hbox, rfl⟩ hz2
  case hdj1 => exact SL.one_apart
  case hfr1 => intro us; simp only [SL.frame, SL.put']; simp; exact rfl
  case ob1 =>
    refine ⟨?_, ?_, ?_, ?_, ?_, ?_, ?_, ?_, ?_, ?_, ?_, ?_, ?_, trivial⟩
    all_goals first
      | (intro us w' Fe hG hu hd hv Kx hK
         try dsimp only
         simp [SL.Used, SL.pu, SL.row, SL.box, SL.rowIn, SL.boxIn, SL.boxAt, SL.boxAtIn, SLF.pq, Act.put, SL.aw_sub, SL.aw_use, SL.aw_eat, SL.aw_V, SL.aw_quiet] at hu hK
         have hB5 : Below w.heap.size w w' := hBW.trans (hG.belowF hBW.size (by simp; omega))
         obtain ⟨hc5, hf5⟩ := bcell hB5
         have hs5 := hB5.size
         obtain ⟨hc6, hf6⟩ := hG.cellsF
         clear hv
         refine SLF.wpo_do (SLF.wanted_free rfl) ?hd1 ?_
         case hd1 => intro c h; cases h
         clear hd
         first
           | (go_step; exact hK _ _ _ (SL.Chg.refl _ _) (by first | exact rfl | (simp only [hu]; exact rfl)) rfl (by simp) rfl)
           | exact hK _ _ _ (SL.Chg.refl _ _) rfl rfl (by simp) rfl)
      | skip
    · refine SLG.ob_sp rfl rfl rfl fun us w' Fe hG hu hd Kx hK => ?_
      try dsimp only
      simp [SL.Used, SL.pu, SL.row, SL.box, SL.rowIn, SL.boxIn, SL.boxAt, SL.boxAtIn, SLF.pq, Act.put, SL.aw_sub, SL.aw_use, SL.aw_eat, SL.aw_V, SL.aw_quiet] at hu
      have hB5 : Below w.heap.size w w' := hBW.trans (hG.belowF hBW.size (by simp; omega))
      obtain ⟨hc5, hf5⟩ := bcell hB5
      have hs5 := hB5.size
      obtain ⟨hc6, hf6⟩ := hG.cellsF
      refine SLF.wpo_do (SLF.wanted_free rfl) ?hd1 ?_
      case hd1 => intro c h; cases h
      have hB6 := hB5
      have hs5 : w.heap.size ≤ w'.heap.size := hB6.size
      go_step
      exact hK _ (.slice (some ⟨w'.heap.size, 0, none⟩) 0 0) _ _ (by simp [Act.put]; done) (.alloc _ _ _) ⟨World.ownsRow_lit w' #[] 0 hs5 (by decide) rfl, rfl⟩ (fun k hk => .inr (by simp [Value.ownBlock] at hk; subst hk; simp))
    · refine SLG.ob_sp rfl rfl rfl fun us w' Fe hG hu hd Kx hK => ?_
      try dsimp only
      simp [SL.Used, SL.pu, SL.row, SL.box, SL.rowIn, SL.boxIn, SL.boxAt, SL.boxAtIn, SLF.pq, Act.put, SL.aw_sub, SL.aw_use, SL.aw_eat, SL.aw_V, SL.aw_quiet] at hu
      have hB5 : Below w.heap.size w w' := hBW.trans (hG.belowF hBW.size (by simp; omega))
      obtain ⟨hc5, hf5⟩ := bcell hB5
      have hs5 := hB5.size
      obtain ⟨hc6, hf6⟩ := hG.cellsF
      refine SLF.wpo_do (SLF.wanted_free rfl) ?hd1 ?_
      case hd1 => intro c h; cases h
      obtain ⟨⟨ho, e1⟩, e2, _⟩ := hu
      have hB6 := hB5
      have hs5 : w.heap.size ≤ w'.heap.size := hB6.size
      refine wp_app elemP _ _ rfl ho rfl e2 (hr1 _ _ hB6) Hl1.out ho1 (by unfold maxLen; omega) (by omega) hs5 ?_
      intro v' w6 ho6 hg6 hb6 _ hat
      rw [Nat.zero_add, List.nil_append] at ho6
      refine hK _ v' w6 _ (by simp [Act.put]; done) (.of_own hg6 (fun k e => by simp [SL.row, e1, e])) ⟨ho6, rfl⟩ (fun k hk => ?_)
      rcases SL.app_bounds ho ho6 hat k hk with h | h
      · exact .inl (by simpa [SL.row, e1] using h)
      · exact .inr h
    · refine SLG.ob_sp rfl rfl rfl fun us w' Fe hG hu hd Kx hK => ?_
      try dsimp only
      simp [SL.Used, SL.pu, SL.row, SL.box, SL.rowIn, SL.boxIn, SL.boxAt, SL.boxAtIn, SLF.pq, Act.put, SL.aw_sub, SL.aw_use, SL.aw_eat, SL.aw_V, SL.aw_quiet] at hu
      have hB5 : Below w.heap.size w w' := hBW.trans (hG.belowF hBW.size (by simp; omega))
      obtain ⟨hc5, hf5⟩ := bcell hB5
      have hs5 := hB5.size
      obtain ⟨hc6, hf6⟩ := hG.cellsF
      refine SLF.wpo_do (SLF.wanted_free rfl) ?hd1 ?_
      case hd1 => intro c h; cases h
      obtain ⟨⟨ho, e1⟩, e2, _⟩ := hu
      have hB6 := hB5
      have hs5 : w.heap.size ≤ w'.heap.size := hB6.size
      refine wp_app elemP _ _ rfl ho rfl e2 (hr2 _ _ hB6) Hl2.out ho2 (by unfold maxLen; omega) (by omega) hs5 ?_
      intro v' w6 ho6 hg6 hb6 _ hat
      refine hK _ v' w6 _ (by simp [Act.put]; done) (.of_own hg6 (fun k e => by simp [SL.row, e1, e])) ⟨ho6, rfl⟩ (fun k hk => ?_)
      rcases SL.app_bounds ho ho6 hat k hk with h | h
      · exact .inl (by simpa [SL.row, e1] using h)
      · exact .inr h
    · refine SLG.ob_no rfl rfl rfl fun us w' Fe hG hu hd Kx hK => ?_
      try dsimp only
      simp [SL.Used, SL.pu, SL.row, SL.box, SL.rowIn, SL.boxIn, SL.boxAt, SL.boxAtIn, SLF.pq, Act.put, SL.aw_sub, SL.aw_use, SL.aw_eat, SL.aw_V, SL.aw_quiet] at hu
      have hB5 : Below w.heap.size w w' := hBW.trans (hG.belowF hBW.size (by simp; omega))
      obtain ⟨hc5, hf5⟩ := bcell hB5
      have hs5 := hB5.size
      obtain ⟨hc6, hf6⟩ := hG.cellsF
      refine SLF.wpo_do (SLF.wanted_free rfl) ?hd1 ?_
      case hd1 => intro c h; cases h
      obtain ⟨⟨ho, e1⟩, ⟨e3, _⟩, e4, hbl, e2⟩ := hu
      have hd1 := hd 10 13 (by simp [SL.boxAtIn]) (by simp [SL.boxAtIn]) (by simp)
      rw [e1, e2] at hd1
      obtain ⟨sa, sc, e5, _⟩ := owns_slice ho
      rw [e5] at ho e1 hd1
      have n1 : BD ∉ (Value.slice sa (c.ps.length - k + k) sc).ownBlock.toList := fun h => hd1 _ h (by simp)
      obtain ⟨z0, z1, z2, z3, zf, zl⟩ := cell4w hbl
      go_step
      refine hK _ _ (.setCell _ (by simp [SL.boxAtIn, e2]) _) ⟨_, e4, heap_put3 hbl _, SL.row_set ho n1 _, rfl⟩ ?_
      intro k hk
      left
      simp [SL.boxAtIn, e1, e2] at hk ⊢
      grind
  case hck1 => kernel_rfl
  case hkp1 => kernel_rfl
  intro us w5 Fs hG hu hbd hd
  simp [SL.Used, SL.boxAtIn, SLF.pq] at hu
  obtain ⟨e4, y, hbl, ho, hF⟩ := hu
  have hB5 : Below w.heap.size w w5 := hBW.trans (hG.belowF hBW.size (by simp; omega))
  rw [show c.ps.length - k + k = c.ps.length by omega] at ho
  rw [← HT1.out, ← HT2.out, ← pcs_append] at ho
  obtain ⟨sa, dc, rfl, _⟩ := owns_slice ho
  obtain ⟨G, rfl, hG1, hG2, hdc⟩ := owns_some ho hpos
  obtain ⟨cur, hcur⟩ := owns_type ho
  have nGB : ¬ BD = G := by rintro rfl; rw [hbl] at hcur; simp at hcur
  have nGw : ¬ w.heap.size = G := by
    have := (hbd 12 (by simp) G (by rw [hF]; simp [Value.ownBlock])).1
    simp at this
    omega
  have hperm := rot_perm c.ps k
  obtain ⟨ps0, hps0⟩ : ∃ ps0, c.ps.drop k ++ c.ps.take k = ps0 := ⟨_, rfl⟩
  rw [hps0] at ho hperm
  have hO : OrdIn w w5 c BD G dc ps0 := ⟨⟨hB5, (hG.block _ (by show w.heap.size < w2.heap.size; omega) (by simp; omega)).trans S2.out.x1, hc.below hB5⟩, hbl, ho, hperm⟩
  clear hbd hd hG hF ho hbl hB5 hperm hps0 hr1 hr2 ho1 ho2 HT1 HT2 Hl1 Hl2 hcur hx1 S2 S1 hbox hBW fSm hG2 x1 x2 x3 x9 y1' y2' hcr HB12
  try simp only [e4]
  clear e4
  clear y0 y1 y2 y3 yl
  obtain ⟨y0, y1, y2, y3, yl⟩ := hO.s.cells
  obtain ⟨z0, z1, z2, z3, zf, zl⟩ := cell4w hO.box
  by_cases hgt : 127 < t
  · have d1 : decide ((127 : Int) < (t : Int)) = true := by simp; omega
    have HO5 := Lib.hid hO
    clear hO
    go_wp2_with fail
    go_loopw [7, 8, 9] (fun i _ _ wr => ∃ (j : Nat) (qs : List Pt), j ≤ c.ps.length / 2 ∧ i = .int .i64 j ∧ OrdIn w wr c BD G dc qs) (fun i _ _ _ => c.ps.length / 2 - (RowKit.intOf i).toNat)
    case atStart => exact ⟨0, ps0, Nat.zero_le _, rfl, HO5.out⟩
    case round =>
      obtain ⟨j, qs, hj, rfl, hO⟩ := hrel
      clear y0 y1 y2 y3 yl z0 z1 z2 z3 zf zl
      obtain ⟨z0, z1, z2, z3, zf, zl⟩ := cell4w hO.box
      have hnn : (0 : Int) ≤ j := by omega
      by_cases hlt : j < c.ps.length / 2
      · have i1 : (j : Int) < (c.ps.length : Int) / 2 := by omega
        have hw1 : IntKind.i64.wrap ((c.ps.length : Int) - 1) = (c.ps.length : Int) - 1 := IntWalk.i64_in _ (by omega)
        obtain ⟨J, hJ⟩ : ∃ J, c.ps.length - 1 - j = J := ⟨_, rfl⟩
        have hw2 : IntKind.i64.wrap ((c.ps.length : Int) - 1 - (j : Int)) = (J : Int) := by rw [show (J : Int) = (c.ps.length : Int) - 1 - (j : Int) by omega]; exact IntWalk.i64_in _ (by omega)
        have hlq : qs.length = c.ps.length := hO.perm.length_eq
        have hJl : J < qs.length := by omega
        have hjl : j < qs.length := by omega
        have i2 : (j : Int) < (c.ps.length : Int) := by omega
        have i3 : (J : Int) < (c.ps.length : Int) := by omega
        have i4 : (0 : Int) ≤ J := by omega
        have hsw := swap_perm hjl hJl
        have HSW := Lib.hid (hsw.trans hO.perm)
        have HJl := Lib.hid hJl
        have Hjl := Lib.hid hjl
        have HLQ := Lib.hid hlq
        obtain ⟨k0, k1, k2, k3, k4, k5, k6, k7, kf, kl⟩ := row8v hO.row hjl
        obtain ⟨p, hp⟩ : ∃ p, qs.getD j default = p := ⟨_, rfl⟩
        obtain ⟨q, hq⟩ : ∃ q, qs.getD J default = q := ⟨_, rfl⟩
        rw [hp] at k0 k1 k2 k3 k4 k5 k6 k7
        rw [hp, hq] at HSW
        have Hp := Lib.hid hp
        have Hq := Lib.hid hq
        have HO6 := Lib.hid hO
        clear hsw hlq hJl hjl hp hq hO hJ
        go_wp2_with fail
        obtain ⟨w3, hw3⟩ : ∃ w3, wr.alloc (Obj.cells #[.slice p.sa p.sh.length p.sc, .int .i64 p.lo, .int .i64 p.hi, .int .i64 p.lob, .int .i64 p.hib, .bool p.ft, .int .i64 p.fby, .slice p.ra p.re.length p.rc] 49) = w3 := ⟨_, rfl⟩
        rw [hw3]
        have hO3 := HO6.out.below (one_alloc wr (Obj.cells #[.slice p.sa p.sh.length p.sc, .int .i64 p.lo, .int .i64 p.hi, .int .i64 p.lob, .int .i64 p.hib, .bool p.ft, .int .i64 p.fby, .slice p.ra p.re.length p.rc] 49))
        rw [hw3] at hO3
        have hx3 : w3.heap[wr.heap.size]? = some (.cells #[.slice p.sa p.sh.length p.sc, .int .i64 p.lo, .int .i64 p.hi, .int .i64 p.lob, .int .i64 p.hib, .bool p.ft, .int .i64 p.fby, .slice p.ra p.re.length p.rc] 49 (0, 0)) := by rw [← hw3]; exact World.alloc_heap_new _ _
        obtain ⟨X, hX⟩ : ∃ X, wr.heap.size = X := ⟨_, rfl⟩
        rw [hX] at hx3 kl zl ⊢
        have nXG : ¬ G = X := by omega
        have nXB : ¬ X = BD := by omega
        clear hw3 hX k0 k1 k2 k3 k4 k5 k6 k7 kf kl z0 z1 z2 z3 zf zl
        refine wp_region_still_tail 9 (by kernel_rfl) (by kernel_rfl) ?_
        simp only [List.take_succ_cons, List.take_zero, List.drop_succ_cons, List.drop_zero]
        generalize hw6 : (World.mk _ _ _ _ _) = w6
        have hb6 : Below w3.heap.size w3 w6 := by rw [← hw6]; exact ⟨rfl, rfl, rfl, Nat.le_refl _, fun _ _ => rfl⟩
        clear hw6
        have hO6 := hO3.below hb6
        have hx6 := (hb6.block _ (heap_lt hx3)).trans hx3
        obtain ⟨z0, z1, z2, z3, zf, zl⟩ := cell4w hO6.box
        obtain ⟨m0, m1, m2, m3, m4, m5, m6, m7, mf, ml⟩ := row8v hO6.row HJl.out
        rw [Hq.out] at m0 m1 m2 m3 m4 m5 m6 m7
        obtain ⟨k0, k1, k2, k3, k4, k5, k6, k7, kf, kl⟩ := row8v hO6.row Hjl.out
        rw [Hp.out] at k0 k1 k2 k3 k4 k5 k6 k7
        have HO3 := Lib.hid hO6
        have HX6 := Lib.hid hx6
        clear hO3 hO6 hx3 hx6 hb6 HO6
        repeat (refine wpStill_step (fun K hK => ?_); go_simp; refine hK _ ?_; clear hK K)
        refine wpStill_nil ?_
        go_upto_region 13 with (fail)
        obtain ⟨w7, hw7⟩ : ∃ w7, w7 = ((((((((w6.setCell ⟨G, j * 8, none⟩ (.slice q.sa q.sh.length q.sc)).setCell ⟨G, j * 8 + 1, none⟩ (.int .i64 q.lo)).setCell ⟨G, j * 8 + 2, none⟩ (.int .i64 q.hi)).setCell ⟨G, j * 8 + 3, none⟩ (.int .i64 q.lob)).setCell ⟨G, j * 8 + 4, none⟩ (.int .i64 q.hib)).setCell ⟨G, j * 8 + 5, none⟩ (.bool q.ft)).setCell ⟨G, j * 8 + 6, none⟩ (.int .i64 q.fby)).setCell ⟨G, j * 8 + 7, none⟩ (.slice q.ra q.re.length q.rc)) := ⟨_, rfl⟩
        rw [← hw7]
        obtain ⟨s7, box7, row7, ch7⟩ := OrdIn.put HO3.out.s HO3.out.box HO3.out.row Hjl.out hG1 nGB nGw q hw7 hc
        have hx7 := (ch7.block _ (heap_lt HX6.out) (by simp; omega)).trans HX6.out
        clear hw7 z0 z1 z2 z3 zf zl k0 k1 k2 k3 k4 k5 k6 k7 kf kl m0 m1 m2 m3 m4 m5 m6 m7 mf ml ch7
        obtain ⟨z0, z1, z2, z3, zf, zl⟩ := cell4w box7
        obtain ⟨n0, n1, n2, n3, n4, n5, n6, n7, nf, nl⟩ := cell8w hx7
        have hJs : J < (qs.set j q).length := by rw [List.length_set]; exact HJl.out
        obtain ⟨m0, m1, m2, m3, m4, m5, m6, m7, mf, ml⟩ := row8v row7 hJs
        generalize (qs.set j q).getD J default = pJ at m0 m1 m2 m3 m4 m5 m6 m7
        have HFin := Lib.hid (fun W' hW => OrdIn.put s7 box7 row7 hJs hG1 nGB nGw p (W' := W') hW hc)
        clear s7 box7 row7 hJs hx7
        go_wp2_with fail
        go_roundw
        case rel =>
          obtain ⟨s8, box8, row8, _⟩ := HFin.out _ rfl
          exact ⟨j + 1, (qs.set j q).set J p, by omega, by go_num, ⟨s8, box8, row8, HSW.out⟩⟩
        case measure => simp [RowKit.intOf]; omega
      · have hj2 : j = c.ps.length / 2 := by omega
        have i1 : ¬ (j : Int) < (c.ps.length : Int) / 2 := by omega
        have y0 := ()
        have y1 := ()
        have y2 := ()
        have y3 := ()
        have yl := ()
        clear z0 z1 z2 z3 zf zl
        have HO := Lib.hid hO
        have hlq : qs.length = c.ps.length := hO.perm.length_eq
        have hD : CsAt wr ⟨c.ware, c.lim, c.byr, some ⟨G, 0, none⟩, dc, qs⟩ := ⟨hc.ware, rfl, by show qs.length ≤ _; rw [hlq]; exact hsm, RowAt.of_owns hO.row, fun p hp => (hc.ps.each p (hO.perm.mem_iff.1 hp)).below hO.s.below⟩
        have fL2 := fun W h => fL ⟨c.ware, c.lim, c.byr, some ⟨G, 0, none⟩, dc, qs⟩ W h
        have fN2 := fun W h => fN ⟨c.ware, c.lim, c.byr, some ⟨G, 0, none⟩, dc, qs⟩ W h
        obtain ⟨g1, g2, g3⟩ := ord_same (c := c) (d := ⟨c.ware, c.lim, c.byr, some ⟨G, 0, none⟩, dc, qs⟩) rfl rfl rfl hO.perm
        rw [g1, g2] at fL2
        rw [g2, g3] at fN2
        simp only [hlq] at fL2 fN2
        have fL1 := fL c
        have fN1 := fN c
        have SW := Lib.hid hO.s
        have ZD : Hid (HB wr BD #[.string c.ware, .int .i64 c.lim, .int .i64 c.byr, .slice (some ⟨G, 0, none⟩) c.ps.length dc] 24) := Lib.hid hO.box
        have XD := Lib.hid hD
        clear fL fN g1 g2 g3 hlq hD
        generalize c.leastI = LI at *
        generalize c.chk = EI at *
        obtain ⟨NN, hNum⟩ : ∃ NN, c.num = NN := ⟨_, rfl⟩
        obtain ⟨⟨N1, N2⟩, N3⟩ := NN
        rw [hNum] at fN1 fN2
        simp only at fN1 fN2
        clear hNum
        have e1 : (LI == LI) = true := by simp
        have e2 : (EI == EI) = true := by simp
        have e3 : (N1 == N1) = true := by simp
        have e4 : (N2 == N2) = true := by simp
        have e5 : (N3 == N3) = true := by simp
        clear y0 y1 y2 y3 yl
        obtain ⟨y0, y1, y2, y3, yl⟩ := SW.out.cells
        obtain ⟨z0, z1, z2, z3, zf, zl⟩ := cell4w ZD.out
        clear hO
        go_wp2_with (first
          | (go_at_call 31; (with_reducible refine (fL1 _ SW.out.c1).mono ?_); rintro e w7 ⟨rfl, hb7⟩; have S7 := SW.out.ch hb7; have Z7 := Lib.hid (ZD.out.below hb7); have X7 := Lib.hid (XD.out.below hb7); clear y0 y1 y2 y3 yl z0 z1 z2 z3 zf zl; obtain ⟨y0, y1, y2, y3, yl⟩ := S7.cells; obtain ⟨z0, z1, z2, z3, zf, zl⟩ := cell4w Z7.out; have S7 := Lib.hid S7; clear hb7)
          | (go_at_call 31; (with_reducible refine (fL2 _ X7.out).mono ?_); rintro e w8 ⟨rfl, hb8⟩; have S8 := S7.out.ch hb8; have Z8 := Lib.hid (Z7.out.below hb8); have X8 := Lib.hid (X7.out.below hb8); clear y0 y1 y2 y3 yl z0 z1 z2 z3 zf zl; obtain ⟨y0, y1, y2, y3, yl⟩ := S8.cells; obtain ⟨z0, z1, z2, z3, zf, zl⟩ := cell4w Z8.out; have S8 := Lib.hid S8; clear hb8)
          | (go_at_call 32; (with_reducible refine (fN1 _ S8.out.c1).mono ?_); rintro e w9 ⟨rfl, hb9⟩; have S9 := S8.out.ch hb9; have Z9 := Lib.hid (Z8.out.below hb9); have X9 := Lib.hid (X8.out.below hb9); clear y0 y1 y2 y3 yl z0 z1 z2 z3 zf zl; obtain ⟨y0, y1, y2, y3, yl⟩ := S9.cells; obtain ⟨z0, z1, z2, z3, zf, zl⟩ := cell4w Z9.out; have S9 := Lib.hid S9; clear hb9)
          | (go_at_call 32; (with_reducible refine (fN2 _ X9.out).mono ?_); rintro e w10 ⟨rfl, hb10⟩; have S10 := Lib.hid (S9.out.ch hb10); clear hb10)
          | (go_at_call 17; (with_reducible refine (ltold _).mono ?_); rintro e wT ⟨rfl, hbT⟩))
        go_ret
        exact ⟨rfl, S10.out.below.ch2 hbT⟩
  · have d1 : decide ((127 : Int) < (t : Int)) = false := by simp; omega
    obtain ⟨qs, rfl⟩ : ∃ qs, qs = ps0 := ⟨_, rfl⟩
    clear z0 z1 z2 z3 zf zl
    have HO := Lib.hid hO
    have hlq : qs.length = c.ps.length := hO.perm.length_eq
    have hD : CsAt w5 ⟨c.ware, c.lim, c.byr, some ⟨G, 0, none⟩, dc, qs⟩ := ⟨hc.ware, rfl, by show qs.length ≤ _; rw [hlq]; exact hsm, RowAt.of_owns hO.row, fun p hp => (hc.ps.each p (hO.perm.mem_iff.1 hp)).below hO.s.below⟩
    have fL2 := fun W h => fL ⟨c.ware, c.lim, c.byr, some ⟨G, 0, none⟩, dc, qs⟩ W h
    have fN2 := fun W h => fN ⟨c.ware, c.lim, c.byr, some ⟨G, 0, none⟩, dc, qs⟩ W h
    obtain ⟨g1, g2, g3⟩ := ord_same (c := c) (d := ⟨c.ware, c.lim, c.byr, some ⟨G, 0, none⟩, dc, qs⟩) rfl rfl rfl hO.perm
    rw [g1, g2] at fL2
    rw [g2, g3] at fN2
    simp only [hlq] at fL2 fN2
    have fL1 := fL c
    have fN1 := fN c
    have SW := Lib.hid hO.s
    have ZD : Hid (HB w5 BD #[.string c.ware, .int .i64 c.lim, .int .i64 c.byr, .slice (some ⟨G, 0, none⟩) c.ps.length dc] 24) := Lib.hid hO.box
    have XD := Lib.hid hD
    clear fL fN g1 g2 g3 hlq hD
    generalize c.leastI = LI at *
    generalize c.chk = EI at *
    obtain ⟨NN, hNum⟩ : ∃ NN, c.num = NN := ⟨_, rfl⟩
    obtain ⟨⟨N1, N2⟩, N3⟩ := NN
    rw [hNum] at fN1 fN2
    simp only at fN1 fN2
    clear hNum
    have e1 : (LI == LI) = true := by simp
    have e2 : (EI == EI) = true := by simp
    have e3 : (N1 == N1) = true := by simp
    have e4 : (N2 == N2) = true := by simp
    have e5 : (N3 == N3) = true := by simp
    clear y0 y1 y2 y3 yl
    obtain ⟨y0, y1, y2, y3, yl⟩ := SW.out.cells
    obtain ⟨z0, z1, z2, z3, zf, zl⟩ := cell4w ZD.out
    clear hO
    go_wp2_with (first
      | (go_at_call 31; (with_reducible refine (fL1 _ SW.out.c1).mono ?_); rintro e w7 ⟨rfl, hb7⟩; have S7 := SW.out.ch hb7; have Z7 := Lib.hid (ZD.out.below hb7); have X7 := Lib.hid (XD.out.below hb7); clear y0 y1 y2 y3 yl z0 z1 z2 z3 zf zl; obtain ⟨y0, y1, y2, y3, yl⟩ := S7.cells; obtain ⟨z0, z1, z2, z3, zf, zl⟩ := cell4w Z7.out; have S7 := Lib.hid S7; clear hb7)
      | (go_at_call 31; (with_reducible refine (fL2 _ X7.out).mono ?_); rintro e w8 ⟨rfl, hb8⟩; have S8 := S7.out.ch hb8; have Z8 := Lib.hid (Z7.out.below hb8); have X8 := Lib.hid (X7.out.below hb8); clear y0 y1 y2 y3 yl z0 z1 z2 z3 zf zl; obtain ⟨y0, y1, y2, y3, yl⟩ := S8.cells; obtain ⟨z0, z1, z2, z3, zf, zl⟩ := cell4w Z8.out; have S8 := Lib.hid S8; clear hb8)
      | (go_at_call 32; (with_reducible refine (fN1 _ S8.out.c1).mono ?_); rintro e w9 ⟨rfl, hb9⟩; have S9 := S8.out.ch hb9; have Z9 := Lib.hid (Z8.out.below hb9); have X9 := Lib.hid (X8.out.below hb9); clear y0 y1 y2 y3 yl z0 z1 z2 z3 zf zl; obtain ⟨y0, y1, y2, y3, yl⟩ := S9.cells; obtain ⟨z0, z1, z2, z3, zf, zl⟩ := cell4w Z9.out; have S9 := Lib.hid S9; clear hb9)
      | (go_at_call 32; (with_reducible refine (fN2 _ X9.out).mono ?_); rintro e w10 ⟨rfl, hb10⟩; have S10 := Lib.hid (S9.out.ch hb10); clear hb10)
      | (go_at_call 17; (with_reducible refine (ltold _).mono ?_); rintro e wT ⟨rfl, hbT⟩))
    go_ret
    exact ⟨rfl, S10.out.below.ch2 hbT⟩
end Go.Proofs.YtodkbfbbpfghiaaGreat
namespace Go.Proofs.YtodkbfbbpfghiaaGreat
open Go.ChangeShapes Go.WideShapes Go.ChangeAt Go.RowKit Go.Joins Go.Deep
set_option maxRecDepth 100000 in
theorem wholeOrder_lifted (os : Os) (started : os.Started) (H : Type) (enc : TypeId × Value → H) :
    ReturnsInHanded {} Tryz.checked os 6 .any (Rows.wholeOrderSpec.pre6 enc Tryz.prog Tryz.f6 Rows.wholeOrderRow.domain false) (Rows.wholeOrderSpec.post enc Tryz.prog Tryz.f6 false true false false) := by
  refine returnsInHanded_of_change_sized (C := Tryz.checked) Tryz.own started (by kernel_rfl) Tryz.func6
    (ChangeSpec.witness6 (enc := enc) (C := Tryz.checked) false ⟨#[], #[.agg #[.string ⟨#[]⟩, .int .i64 0, .int .i64 0, .slice none 0 0], .int .u8 0], []⟩ 8 (by kernel_rfl) (by kernel_rfl) (by kernel_rfl) (by kernel_rfl)) ?_
  intro W base args ds gs before hval0 hW _ hsz0 _
  have hsz : (DataW.weightsEach Tryz.prog (Tryz.f6.params.toList ++ Rows.wholeOrderSpec.plain.varTypes Tryz.prog) (ds ++ gs)).all (· ≤ reachBytes) = true := hsz0
  clear hsz0
  have hval : ∀ (j : Nat) t v, Tryz.f6.params[j]? = some t → args[j]? = some v → Value.okWide Tryz.prog W .any base t v := hval0
  have hW' := hW
  obtain ⟨p, q, hA0, hV, rfl, _, _⟩ := hW
  have hA : DataW.TrodAll enc Tryz.prog W 0 (fun _ => true) true Tryz.f6.params.toList args.toList ds p := hA0
  rw [Tryz.params6] at hA hval hsz
  obtain ⟨v0, vs0, d0, ds0, p0, q0, hargs, rfl, rfl, h0, r0⟩ := trodAll_cons hA
  obtain ⟨v1, vs1, d1, ds1, p1, q1, rfl, rfl, rfl, h1, r1⟩ := trodAll_cons r0
  obtain ⟨rfl, rfl, rfl⟩ := trodAll_nil r1
  obtain rfl : args = #[v0, v1] := by cases args; simp_all
  obtain ⟨rfl, rfl⟩ := trodVars_none hV
  clear hA0 hval0
  have hlt : ∀ x ∈ p0 ++ p1, x.block < W.heap.size := fun x hx => by have := hW'.lt x (by simpa using hx); simpa using this
  obtain ⟨c0, rfl, hb0, hn0⟩ := case_open (hval 0 24 v0 rfl rfl) h0 (fun n hn => by
    have := List.all_eq_true.1 hsz _ (DataW.weights_mem_each (j := 0) rfl rfl n hn)
    simpa using this)
  obtain ⟨x1, hx1, rfl⟩ := okWide_u8 Tryz.underlying5 (hval 1 5 v1 rfl rfl)
  refine (law_order c0 x1 hx1 W hb0 hn0).mono fun e W' ⟨he, hw⟩ => ?_
  subst he
  exact ⟨_, rfl, ⟨_, _, _, [], _, [], hW', trodAll_mk1 (shut_bool Tryz.underlying4 _), (trodAll_cons_mk (Below.trod Tryz.laidOut (by kernel_rfl) (of_decide_eq_true (by kernel_rfl)) h0 hw (fun x hx => hlt x (by simp [hx]))) (trodAll_cons_mk (Below.trod Tryz.laidOut (by kernel_rfl) (of_decide_eq_true (by kernel_rfl)) h1 hw (fun x hx => hlt x (by simp [hx]))) trodAll_mk0)), rfl, hw.frame _, fun h => by cases h⟩⟩
theorem wholeOrder_holds : Rows.WholeOrderSaid :=
  OpenClaim.holds_of_wide 6 Tryz.f6 rfl rfl rfl rfl rfl rfl rfl ⟨rfl, rfl, rfl, rfl, rfl⟩ rfl rfl rfl rfl rfl (by kernel_rfl) Tryz.func6 (by kernel_rfl)
    (of_decide_eq_true (by kernel_rfl)) (by unfold Func.isWrapper; rw [if_neg (of_decide_eq_false (by kernel_rfl))]; exact ⟨rfl, rfl⟩)
    (fun os started H enc _ => wholeOrder_lifted os started H enc)
#print axioms wholeOrder_holds
end Go.Proofs.YtodkbfbbpfghiaaGreat
