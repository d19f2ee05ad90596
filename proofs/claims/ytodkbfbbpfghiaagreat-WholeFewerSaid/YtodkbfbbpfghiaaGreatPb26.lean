/-
  Lemmas and walks for the laws on roads and boards: what each function of the program answers, for every input.
-/
import Derived.Test.YtodkbfbbpfghiaaGreatPb16
import Derived.Test.YtodkbfbbpfghiaaGreatPb12
import Derived.Test.YtodkbfbbpfghiaaGreatPb08
set_option linter.unusedSimpArgs false
set_option linter.unusedVariables false
set_option linter.unnecessarySimpa false
namespace Go.Proofs.YtodkbfbbpfghiaaGreat
open Go.RowKit Go.Shelf Go.Lib
set_option maxHeartbeats 4000000
set_option maxRecDepth 100000
/-- A part gone from a copied case: what it is. -/
theorem CopyAt.cut {w : World} {base X : Nat} {c d : Cs} (h : CopyAt w base c d) (a : Option Addr) (cap : Nat) (hsm : c.ps.length ≤ 1000) {w' : World} (hr : RowAt w' a cap (pcs (d.ps.eraseIdx X))) (hq : ∀ q ∈ d.ps, PtAt w' q) : CsAt w' ⟨d.ware, d.lim, d.byr, a, cap, d.ps.eraseIdx X⟩ := by
  have hl : d.ps.length = c.ps.length := h.same.len
  have hle : (d.ps.eraseIdx X).length ≤ d.ps.length := by rw [List.length_eraseIdx]; split <;> omega
  exact ⟨h.at_.ware, rfl, by show (d.ps.eraseIdx X).length ≤ _; omega, hr, fun q hm => hq q (List.mem_of_mem_eraseIdx hm)⟩
theorem SamePs.case {c : Cs} {qs ps : List Pt} (h : SamePs qs ps) (a : Option Addr) (cap : Nat) (b : Option Addr) (cap' : Nat) : SameC ⟨c.ware, c.lim, c.byr, a, cap, qs⟩ ⟨c.ware, c.lim, c.byr, b, cap', ps⟩ :=
  ⟨rfl, rfl, rfl, h.len, fun i hi => h.each i (by have := h.len; simp only at hi; omega)⟩
theorem heap_put3 {w : World} {N : Nat} {a b c d : Value} {t : TypeId} (h : w.heap[N]? = some (.cells #[a, b, c, d] t (0, 0))) (v : Value) : (w.setCell ⟨N, 3, none⟩ v).heap[N]? = some (.cells #[a, b, c, v] t (0, 0)) := by
  have := SL.heap_set h v (i := 3)
  simpa using this
theorem wWithout (c : Cs) (x : Int) (w : World) (hc : CsAt w c) :
    Calls Tryz.prog 46 #[c.v, .int .i64 x] w (CaseRes w (c.ask [x]) (c.wo x.toNat)) := by
  have hC := fun w1 a2 n2 c2 (h : CsAt w1 c) (hl : IntsAt w1 a2 n2 c2 [x]) => wlaid c a2 n2 c2 [x] w1 h hl
  have hz := @Cs.ask_zero c [x]
  have hP := Lib.hid (show ∀ w' y, SameC y (resC (c.ask [x]) (c.wo x.toNat)) → ∀ e, e = .returned (.tuple #[Cs.v y, .int .i64 (c.ask [x])]) → Below w.heap.size w w' → CsAt w' y → CaseRes w (c.ask [x]) (c.wo x.toNat) e w' from fun w' x h1 e h2 h3 h4 => ⟨x, h1, h2, h3, h4⟩)
  have hR := Lib.hid (show (c.ask [x] ≠ 0 → SameC Cs.zero (resC (c.ask [x]) (c.wo x.toNat))) ∧ (c.ask [x] = 0 → ∀ qs, SamePs qs (c.ps.eraseIdx x.toNat) → ∀ a cap, SameC ⟨c.ware, c.lim, c.byr, a, cap, qs⟩ (resC (c.ask [x]) (c.wo x.toNat))) from by
    unfold resC
    refine ⟨fun h => by rw [if_neg h]; exact SameC.refl _, fun h qs hq a cap => ?_⟩
    rw [if_pos h]
    exact hq.case a cap none 0)
  unfold LaidPost at hC
  generalize CaseRes w (c.ask [x]) (c.wo x.toNat) = Post at *
  generalize resC (c.ask [x]) (c.wo x.toNat) = RC at *
  generalize c.ask [x] = E at *
  by_cases h0 : E = 0
  · subst h0
    obtain ⟨hok, hi⟩ := hz rfl
    obtain ⟨X, rfl⟩ : ∃ X : Nat, x = X := ⟨x.toNat, by have := hi x (by simp); omega⟩
    have hX : X < c.ps.length := by have := hi X (by simp); omega
    obtain ⟨hm, hsz⟩ := hok.sizes
    have hCo := fun w1 (h : CsAt w1 c) => wcopied c w1 h (by omega) (fun p hp => by have := hsz p hp; omega)
    have HRc := Lib.hid (fun qs (h : SamePs qs c.ps) a cap => hR.out.2 rfl (qs.eraseIdx X) (by simpa using h.erase X) a cap)
    have hV : ∀ d : Cs, SameC d c → d.ware = c.ware ∧ d.lim = c.lim ∧ d.byr = c.byr ∧ d.ps.length = c.ps.length := fun d h => ⟨h.ware, h.lim, h.byr, h.len⟩
    simp only [ne_eq, not_true, false_implies, true_and, true_implies] at hC
    clear hz hok hi hR hsz
    obtain ⟨ware, lim, byr, a, cap, ps⟩ := c
    simp only [Cs.v] at *
    have hB2 : Below w.heap.size w ((w.alloc (Obj.cells #[.string ware, .int .i64 lim, .int .i64 byr, .slice a ps.length cap] 24)).alloc (Obj.cells #[.string ⟨#[]⟩, .int .i64 0, .int .i64 0, .slice none 0 0] 24)) := by ((repeat (first | assumption | exact Below.refl _ _ | refine Below.alloc ?_ ?_ _ | refine Below.setCell ?_ ?_ _ | refine Below.drew ?_ | refine belowN ?_ | refine Below.up ?_ (by assumption) ?_)) <;> (first | assumption | omega | (simp; done) | (simp; omega)))
    have hbx := hc.below hB2
    unfold CopiedPost at hCo
    go_enter Tryz.func46, Tryz.ntmps46
    go_wp2_with (first
      | (go_at_call 75; (with_reducible refine (hC _ _ _ _ (hbx.below (one_alloc _ _)) (lit1c _ _ _ _)).mono ?_); rintro e w1 ⟨N, a1, ca, f1, cf, rfl, hb1, hN, hT⟩; obtain ⟨hc1, hf1⟩ := bcell hb1; have hz1 := lt_size hb1 (b := w.heap.size) (by first | assumption | omega | (simp; done) | (simp; omega)); have hz2 := lt_size hb1 (b := w.heap.size + 1) (by first | assumption | omega | (simp; done) | (simp; omega)))
      | (go_at_call 70; (with_reducible refine (hCo _ ((hbx.below (one_alloc _ _)).below hb1)).mono ?_); rintro e w2 ⟨⟨dw, dl, db, da, dc, dps⟩, rfl, hb2, hca⟩; obtain ⟨e1, e2, e3, e4⟩ := hV _ hca.same; simp only at e1 e2 e3 e4; subst dw dl db; clear e4; simp only [Cs.v]))
    obtain ⟨w3, hw3⟩ : ∃ w3, w3 = w2.alloc (Obj.cells #[.string ware, .int .i64 lim, .int .i64 byr, .slice da dps.length dc] 24) := ⟨_, rfl⟩
    rw [← hw3]
    have hB12 : Below w.heap.size w w2 := ((hB2.ch2 (one_alloc _ _)).ch2 hb1).ch2 hb2
    have hBW : Below w.heap.size w w3 := by rw [hw3]; exact hB12.ch2 (one_alloc _ _)
    have hbox : w3.heap[w2.heap.size]? = some (.cells #[.string ware, .int .i64 lim, .int .i64 byr, .slice da dps.length dc] 24 (0, 0)) := by rw [hw3]; exact World.alloc_heap_new _ _
    have hca3 : CopyAt w3 w1.heap.size ⟨ware, lim, byr, a, cap, ps⟩ ⟨ware, lim, byr, da, dc, dps⟩ := by rw [hw3]; exact hca.below (one_alloc _ _)
    have hz12 := hb2.size
    have hz3 : w3.heap.size = w2.heap.size + 1 := by rw [hw3]; simp
    have hres : w3.heap[w.heap.size + 1]? = some (.cells #[.string ⟨#[]⟩, .int .i64 0, .int .i64 0, .slice none 0 0] 24 (0, 0)) := by
      rw [hw3, heap_allocC _ _ (by omega), hb2.block _ (by omega), hb1.block _ (by simp), heap_allocC _ _ (by simp)]
      exact heap_alloc2_new w _ _
    have hn : dps.length = ps.length := hca.same.len
    have hX : X < ps.length := hX
    have hm : ps.length ≤ 40 := hm
    have hrow3 := hca3.row
    have hl0 := SL.row_bounds hca.row
    simp only at hrow3 hl0
    obtain ⟨G, rfl, hG1, hG2, hcap⟩ := owns_some hrow3 (by omega)
    have hGlt : G < w2.heap.size := (hl0 G (by simp [Value.ownBlock])).2
    have hsame : SamePs dps ps := hca.same.ps
    have hB2w := hB2.size
    have hB12w := hB12.size
    have hTT : pcs (dps.take X) ++ pcs (dps.drop (X + 1)) = pcs (dps.eraseIdx X) := by rw [← pcs_append, List.eraseIdx_eq_take_drop_succ]
    have hFin : ∀ a' c' w5 W, RowAt W a' c' (pcs (dps.take X) ++ pcs (dps.drop (X + 1))) → SL.Chg [w2.heap.size, G] w3 w5 → SL.Chg [w.heap.size + 1] w5 W → SameC ⟨ware, lim, byr, a', c', dps.eraseIdx X⟩ RC ∧ CsAt W ⟨ware, lim, byr, a', c', dps.eraseIdx X⟩ := fun a' c' w5 W hr h1 h2 => by
      rw [hTT] at hr
      refine ⟨HRc.out dps hsame a' c', hca3.cut a' c' (by show ps.length ≤ _; omega) hr fun q hq => ((hca3.at_.ps.each q hq).chg h1 (fun z hz hn hm => ?_) (fun z hz hn hm => ?_)).chg h2 (fun z hz hn hm => ?_) (fun z hz hn hm => ?_)⟩
      · have k1 := ((hca.at_.ps.each q hq).blocks).1 z hz hn
        have k2 := (hca3.off q hq).1 z hz hn
        simp [Value.ownBlock] at hm k2
        omega
      · have k1 := ((hca.at_.ps.each q hq).blocks).2 z hz hn
        have k2 := (hca3.off q hq).2 z hz hn
        simp [Value.ownBlock] at hm k2
        omega
      · have := (hca3.nw q hq).1 z hz hn
        simp at hm
        omega
      · have := (hca3.nw q hq).2 z hz hn
        simp at hm
        omega
    have hlen0 : (dps.eraseIdx X).length = dps.length - 1 := by rw [List.length_eraseIdx, if_pos (by omega)]
    obtain ⟨L, hL⟩ : ∃ L, pcs dps = L := ⟨_, rfl⟩
    obtain ⟨T1, hT1⟩ : ∃ T1, pcs (dps.take X) = T1 := ⟨_, rfl⟩
    obtain ⟨T2, hT2⟩ : ∃ T2, pcs (dps.drop (X + 1)) = T2 := ⟨_, rfl⟩
    have Hl1 := Lib.hid (show T1.length = X * 8 by rw [← hT1, pcs_length, List.length_take]; congr 1; omega)
    have Hl2 := Lib.hid (show T2.length = (dps.length - (X + 1)) * 8 by rw [← hT2, pcs_length, List.length_drop])
    have hr1 : ∀ W c', RowAt W (some ⟨G, 0, none⟩) dc L → RowAt W (some ⟨G, 0, none⟩) c' T1 := fun W c' h => by
      rw [← hL] at h
      have := rowTake h (X * 8) c' (fun h => by cases h)
      rwa [pcs_take (by omega), hT1] at this
    have hr2 : ∀ W o2 c', (o2 = (X + 1) * 8 ∨ dps.length = X + 1) → RowAt W (some ⟨G, 0, none⟩) dc L → RowAt W (some ⟨G, o2, none⟩) c' T2 := fun W o2 c' ho h => by
      rw [← hL] at h
      have := rowDrop (a2 := some ⟨G, o2, none⟩) (c2 := c') h ((X + 1) * 8) (by
        rcases ho with ho | ho
        · left; rw [ho, Nat.zero_add]
        · right; exact ⟨by rw [pcs_length, ho]; exact Nat.le_refl _, o2, rfl⟩)
      rwa [pcs_drop (by omega), hT2] at this
    rw [hL] at hrow3
    rw [hT1, hT2] at hFin
    have HFin := Lib.hid hFin
    have HLen0 := Lib.hid hlen0
    have HR2 := Lib.hid hr2
    rw [hn] at hbox hrow3 hcap ⊢
    generalize w1.heap.size = RB at *
    obtain ⟨n, hnn⟩ : ∃ n, ps.length = n := ⟨_, rfl⟩
    rw [hnn] at hbox hrow3 hcap hX hm hn ⊢
    obtain ⟨BX, hBX⟩ : ∃ BX, w2.heap.size = BX := ⟨_, rfl⟩
    rw [hBX] at hbox hGlt hz3 hz12 HFin hB12w ⊢
    have hApart : ([[BX], [G]] : List (List Nat)).Pairwise fun L M => ∀ k ∈ L, k ∉ M := by
      simp only [List.pairwise_cons, List.mem_cons, List.not_mem_nil, or_false, forall_eq, List.Pairwise.nil, and_true, false_implies, implies_true]
      omega
    have x1 : (X : Int) ≤ (dc : Int) := by omega
    have x2 : (X : Int) ≤ (n : Int) := by omega
    have x3 : (0 : Int) ≤ (X : Int) := by omega
    have x4 : IntKind.i64.wrap ((X : Int) + 1) = (X : Int) + 1 := IntWalk.i64_in _ (by omega)
    have x5 : (X : Int) + 1 ≤ (n : Int) := by omega
    have x6 : (0 : Int) ≤ (X : Int) + 1 := by omega
    have x7 : ((X : Int) + 1).toNat = X + 1 := by omega
    have x8 : (X : Int) + 1 ≤ (dc : Int) := by omega
    have x9 : (n : Int) ≤ (dc : Int) := by omega
    clear hca hca3 hl0 hsame hT hb1 hb2 hc1 hf1 hC hCo hV hTT hL hT1 hT2 hw3 hr2 hFin hlen0 HRc hc hbx hB2 hnn
    by_cases hcx : dc = X + 1
    · have Hn := Lib.hid (show n = X + 1 by omega)
      subst hcx
      have HLen := Lib.hid (show (dps.eraseIdx X).length = X + 0 by have h1 := HLen0.out; have h2 := Hn.out; omega)
      have hr2 : ∀ W c', RowAt W (some ⟨G, 0, none⟩) (X + 1) L → RowAt W (some ⟨G, 0, none⟩) c' T2 := fun W c' h => HR2.out W 0 c' (.inr (by have := Hn.out; omega)) h
      have y1 : ((X : Int) + 1 == ((X + 1 : Nat) : Int)) = true := by simp
      apply SLG.rule0 ?hm1 [BX, G] [22, 23, 24, 25, 26, 27, 28, 29, 30, 31, 32, 33] [SLF.pq 22 [] _, SL.pu 23 [0, 13] (.slice (some ⟨G, 0, none⟩) n (X + 1)), SLF.pq 24 [] _, SLF.pq 25 [] _, SLF.pq 26 [1, 2, 3] _, SLF.pq 27 [] _, SL.pu 28 [5, 13] (.slice (some ⟨G, 0, none⟩) n (X + 1)), SLF.pq 29 [] _, SLF.pq 30 [7] _, SLF.pq 31 [6, 8] _, SL.aw 32 [4, 9, 14] [14] (fun x => .ex fun a' : Option Addr => .ex fun c' : Nat => .sep (.pure (x = .slice a' (X + (0)) c')) (.lies a' c' (T1 ++ T2))), SLF.pq 33 [] _, SL.aw 0 [10, 11, 13] [10, 13] (fun _ => .ex fun a' : Option Addr => .ex fun c' : Nat => .sep (.blk 0 BX 24 #[.string ware, .int .i64 lim, .int .i64 byr, .slice a' (X + (0)) c']) (.lies a' c' (T1 ++ T2))), SL.blk [] [] BX 24 #[.string ware, .int .i64 lim, .int .i64 byr, .slice (some ⟨G, 0, none⟩) n (X + 1)], SL.aw 0 [] [] (fun _ => .row RB 49 8 (.slice (some ⟨G, 0, none⟩) n (X + 1)) n L)] [12] ?hck1 ?hkp1 (SL.heldL 13 [[BX], [G]]) ?hin1 ?hdj1 ?hfr1 ?ob1 ?en1
      case hm1 => kernel_rfl
      case hin1 => exact SL.held_all [SL.blk [] [] BX 24 #[.string ware, .int .i64 lim, .int .i64 byr, .slice (some ⟨G, 0, none⟩) n (X + 1)], SL.aw 0 [] [] (fun _ => .row RB 49 8 (.slice (some ⟨G, 0, none⟩) n (X + 1)) n L)] rfl ⟨⟨⟨hbox, rfl⟩, fun j hj => ⟨by simp at hj; simp [hj], by simp at hj; omega⟩⟩, ⟨SL.aw_in ⟨hrow3, rfl⟩, fun j hj => ⟨by simp at hj; simp [hj], by simp at hj; omega⟩⟩, trivial⟩
      case hdj1 => exact SL.heldL_apart hApart
      case hfr1 => intro us; simp only [SL.frame, SL.put']; simp; exact rfl
      case ob1 =>
        refine ⟨?_, ?_, ?_, ?_, ?_, ?_, ?_, ?_, ?_, ?_, ?_, ?_, ?_, trivial⟩
        all_goals first
          | (intro us w' Fe hG hu hd hv Kx hK
             try dsimp only
             simp [SL.Used, SL.pu, SL.row, SL.box, SL.rowIn, SL.boxIn, SL.boxAt, SL.boxAtIn, SLF.pq, Act.put, SL.aw_sub, SL.aw_use, SL.aw_eat, SL.aw_V, SL.aw_quiet, SL.blk] at hu hK
             have hB5 : Below w.heap.size w w' := hBW.trans (hG.belowF hBW.size (by simp; omega))
             obtain ⟨hc5, hf5⟩ := bcell hB5
             have hs5 := hB5.size
             obtain ⟨hc6, hf6⟩ := hG.cellsF
             clear hv
             refine SLF.wpo_do (SLF.wanted_free rfl) ?hd1 ?_
             case hd1 => intro c h; cases h
             clear hd
             first
               | (go_step; exact hK _ _ _ (SL.Chg.refl _ _) (by first | exact rfl | (simp only [hu]; exact rfl)) rfl (by simp) rfl)
               | exact hK _ _ _ (SL.Chg.refl _ _) rfl rfl (by simp) rfl)
          | skip
        · refine SLG.ob_sp rfl rfl rfl fun us w' Fe hG hu hd Kx hK => ?_
          try dsimp only
          simp [SL.Used, SL.pu, SL.row, SL.box, SL.rowIn, SL.boxIn, SL.boxAt, SL.boxAtIn, SLF.pq, Act.put, SL.aw_sub, SL.aw_use, SL.aw_eat, SL.aw_V, SL.aw_quiet, SL.blk] at hu
          have hB5 : Below w.heap.size w w' := hBW.trans (hG.belowF hBW.size (by simp; omega))
          obtain ⟨hc5, hf5⟩ := bcell hB5
          have hs5 := hB5.size
          obtain ⟨hc6, hf6⟩ := hG.cellsF
          refine SLF.wpo_do (SLF.wanted_free rfl) ?hd1 ?_
          case hd1 => intro c h; cases h
          obtain ⟨⟨e0, _⟩, hbl, _⟩ := hu
          obtain ⟨y0, y1, y2, y3, yf, yl⟩ := cell4w hbl
          go_step
          exact hK _ _ _ [] (by simp [Act.put]; done) (SL.Chg.refl _ _) ⟨rfl, rfl⟩ (fun j hj => by cases hj)
        · refine SLG.ob_sp rfl rfl rfl fun us w' Fe hG hu hd Kx hK => ?_
          try dsimp only
          simp [SL.Used, SL.pu, SL.row, SL.box, SL.rowIn, SL.boxIn, SL.boxAt, SL.boxAtIn, SLF.pq, Act.put, SL.aw_sub, SL.aw_use, SL.aw_eat, SL.aw_V, SL.aw_quiet, SL.blk] at hu
          have hB5 : Below w.heap.size w w' := hBW.trans (hG.belowF hBW.size (by simp; omega))
          obtain ⟨hc5, hf5⟩ := bcell hB5
          have hs5 := hB5.size
          obtain ⟨hc6, hf6⟩ := hG.cellsF
          refine SLF.wpo_do (SLF.wanted_free rfl) ?hd1 ?_
          case hd1 => intro c h; cases h
          obtain ⟨⟨e0, _⟩, hbl, _⟩ := hu
          obtain ⟨y0, y1, y2, y3, yf, yl⟩ := cell4w hbl
          go_step
          exact hK _ _ _ [] (by simp [Act.put]; done) (SL.Chg.refl _ _) ⟨rfl, rfl⟩ (fun j hj => by cases hj)
        · refine SLG.ob_sp rfl rfl rfl fun us w' Fe hG hu hd Kx hK => ?_
          try dsimp only
          simp [SL.Used, SL.pu, SL.row, SL.box, SL.rowIn, SL.boxIn, SL.boxAt, SL.boxAtIn, SLF.pq, Act.put, SL.aw_sub, SL.aw_use, SL.aw_eat, SL.aw_V, SL.aw_quiet, SL.blk] at hu
          have hB5 : Below w.heap.size w w' := hBW.trans (hG.belowF hBW.size (by simp; omega))
          obtain ⟨hc5, hf5⟩ := bcell hB5
          have hs5 := hB5.size
          obtain ⟨hc6, hf6⟩ := hG.cellsF
          refine SLF.wpo_do (SLF.wanted_free rfl) ?hd1 ?_
          case hd1 => intro c h; cases h
          obtain ⟨⟨e1, _⟩, ⟨e2, _⟩, h3⟩ := hu
          obtain ⟨hr, e14⟩ := SL.aw_out h3
          refine wp_app_full elemP _ _ rfl e1 (hr1 _ _ (RowAt.of_owns hr)) Hl1.out e2 (hr2 _ _ (RowAt.of_owns hr)) (by rw [Hl2.out]; have := Hn.out; congr 1; omega) (by unfold maxLen; omega) (by omega) ?_
          intro a' c' w6 hr6 hb6 _ hat
          refine hK _ _ w6 _ (by simp [Act.put]; done) (.of_below hb6) (SL.aw_in ⟨a', c', _, _, ⟨rfl, rfl⟩, ⟨hr6, rfl⟩, rfl⟩) ?_
          intro j hj
          rcases hat with ⟨e, _⟩ | e
          · left
            subst e
            simp [SL.aw_eat, e14, Value.ownBlock] at hj ⊢
            exact hj
          · right
            subst e
            have := (hr6.at_ _ rfl).2.1
            simp [Value.ownBlock] at hj this
            omega
        · refine SLG.ob_no rfl rfl rfl fun us w' Fe hG hu hd Kx hK => ?_
          try dsimp only
          simp [SL.Used, SL.pu, SL.row, SL.box, SL.rowIn, SL.boxIn, SL.boxAt, SL.boxAtIn, SLF.pq, Act.put, SL.aw_sub, SL.aw_use, SL.aw_eat, SL.aw_V, SL.aw_quiet, SL.blk] at hu
          have hB5 : Below w.heap.size w w' := hBW.trans (hG.belowF hBW.size (by simp; omega))
          obtain ⟨hc5, hf5⟩ := bcell hB5
          have hs5 := hB5.size
          obtain ⟨hc6, hf6⟩ := hG.cellsF
          refine SLF.wpo_do (SLF.wanted_free rfl) ?hd1 ?_
          case hd1 => intro c h; cases h
          obtain ⟨h1, ⟨e11, _⟩, hbl, e13⟩ := hu
          obtain ⟨a', c', F1, F2, ⟨hx, rfl⟩, ⟨hl, rfl⟩, hF⟩ := SL.aw_out h1
          have hd1 := hd 10 13 (by simp [SL.aw_use]) (by simp [SL.aw_use]) (by simp)
          rw [hF, e13] at hd1
          obtain ⟨y0, y1, y2, y3, yf, yl⟩ := cell4w hbl
          go_step
          refine hK _ _ (.setCell _ (by simp [SL.aw_eat, e13]) _) (SL.aw_in ⟨a', c', _, _, ⟨Nat.zero_le _, heap_put3 hbl _, rfl⟩, ⟨hl.chg (E := [BX]) (.setCell _ (by simp) _) (fun z hz hm => hd1 _ (by simp [hz, Value.ownBlock]) hm), rfl⟩, rfl⟩) ?_
          intro j hj
          left
          simp [SL.aw_eat, hF, e13] at hj ⊢
          grind
      case hck1 => kernel_rfl
      case hkp1 => kernel_rfl
      intro us w5 Fs hG hu hbd hd
      simp [SL.Used, SL.aw_sub] at hu
      obtain ⟨a', c', F1, F2, ⟨_, hbl, rfl⟩, ⟨hl, rfl⟩, hF⟩ := SL.aw_out hu
      have hB5 : Below w.heap.size w w5 := hBW.trans (hG.belowF hBW.size (by simp; omega))
      have hG5 : SL.Chg [BX, G] w3 w5 := ⟨hG.os, hG.tape, hG.output, hG.size, hG.block⟩
      have ha' : ∀ z, a' = some z → z.block ∉ [w.heap.size + 1] := fun z hz hm => by
        have := (hbd 12 (by simp) z.block (by rw [hF]; simp [hz, Value.ownBlock])).1
        simp at this hm
        omega
      have hres5 := (hG5.block _ (by omega) (by simp; omega)).trans hres
      obtain ⟨y0, y1, y2, y3, yf, yl⟩ := cell4w hbl
      obtain ⟨z0, z1, z2, z3, zf, zl⟩ := cell4w hres5
      have hFin := Lib.hid (fun W (h : SL.Chg [w.heap.size + 1] w5 W) => HFin.out a' c' _ W (hl.chg h ha') hG5 h)
      have hFin2 := Lib.hid (fun W (h : SL.Chg [w.heap.size + 1] w5 W) => hP.out W ⟨ware, lim, byr, a', c', dps.eraseIdx X⟩ (hFin.out W h).1 _ (congrArg (fun k => Ending.returned (.tuple #[.agg #[.string ware, .int .i64 lim, .int .i64 byr, .slice a' k c'], .int .i64 0])) HLen.out.symm) (hB5.trans (h.belowW hB5.size (by simp))) (hFin.out W h).2)
      clear hu hbd hd hG hr1 hr2 hl hbl hres5 hF ha' hG5
      go_wp2_with fail
      refine bodyPost_ret (v := .tuple #[.agg #[.string ware, .int .i64 lim, .int .i64 byr, .slice a' (X + (0)) c'], .int .i64 0]) (by simp [results, Tryz.results46, go_sem, *]) rfl ?_
      exact hFin2.out _ (SLG.chg_set4 _ (by simp) ..)
    · have HLen := Lib.hid (show (dps.eraseIdx X).length = X + (n - (X + 1)) by have h1 := HLen0.out; omega)
      have hr2 : ∀ W c', RowAt W (some ⟨G, 0, none⟩) dc L → RowAt W (some ⟨G, (X + 1) * 8, none⟩) c' T2 := fun W c' h => HR2.out W _ c' (.inl rfl) h
      have y1 : ((X : Int) + 1 == (dc : Int)) = false := by simp; omega
      have y2 : (X + 1 == dc) = false := by simp; omega
      apply SLG.rule0 ?hm2 [BX, G] [22, 23, 24, 25, 26, 27, 28, 29, 30, 31, 32, 33] [SLF.pq 22 [] _, SL.pu 23 [0, 13] (.slice (some ⟨G, 0, none⟩) n (dc)), SLF.pq 24 [] _, SLF.pq 25 [] _, SLF.pq 26 [1, 2, 3] _, SLF.pq 27 [] _, SL.pu 28 [5, 13] (.slice (some ⟨G, 0, none⟩) n (dc)), SLF.pq 29 [] _, SLF.pq 30 [7] _, SLF.pq 31 [6, 8] _, SL.aw 32 [4, 9, 14] [14] (fun x => .ex fun a' : Option Addr => .ex fun c' : Nat => .sep (.pure (x = .slice a' (X + (n - (X + 1))) c')) (.lies a' c' (T1 ++ T2))), SLF.pq 33 [] _, SL.aw 0 [10, 11, 13] [10, 13] (fun _ => .ex fun a' : Option Addr => .ex fun c' : Nat => .sep (.blk 0 BX 24 #[.string ware, .int .i64 lim, .int .i64 byr, .slice a' (X + (n - (X + 1))) c']) (.lies a' c' (T1 ++ T2))), SL.blk [] [] BX 24 #[.string ware, .int .i64 lim, .int .i64 byr, .slice (some ⟨G, 0, none⟩) n (dc)], SL.aw 0 [] [] (fun _ => .row RB 49 8 (.slice (some ⟨G, 0, none⟩) n (dc)) n L)] [12] ?hck2 ?hkp2 (SL.heldL 13 [[BX], [G]]) ?hin2 ?hdj2 ?hfr2 ?ob2 ?en2
      case hm2 => kernel_rfl
      case hin2 => exact SL.held_all [SL.blk [] [] BX 24 #[.string ware, .int .i64 lim, .int .i64 byr, .slice (some ⟨G, 0, none⟩) n (dc)], SL.aw 0 [] [] (fun _ => .row RB 49 8 (.slice (some ⟨G, 0, none⟩) n (dc)) n L)] rfl ⟨⟨⟨hbox, rfl⟩, fun j hj => ⟨by simp at hj; simp [hj], by simp at hj; omega⟩⟩, ⟨SL.aw_in ⟨hrow3, rfl⟩, fun j hj => ⟨by simp at hj; simp [hj], by simp at hj; omega⟩⟩, trivial⟩
      case hdj2 => exact SL.heldL_apart hApart
      case hfr2 => intro us; simp only [SL.frame, SL.put']; simp; exact rfl
      case ob2 =>
        refine ⟨?_, ?_, ?_, ?_, ?_, ?_, ?_, ?_, ?_, ?_, ?_, ?_, ?_, trivial⟩
        all_goals first
          | (intro us w' Fe hG hu hd hv Kx hK
             try dsimp only
             simp [SL.Used, SL.pu, SL.row, SL.box, SL.rowIn, SL.boxIn, SL.boxAt, SL.boxAtIn, SLF.pq, Act.put, SL.aw_sub, SL.aw_use, SL.aw_eat, SL.aw_V, SL.aw_quiet, SL.blk] at hu hK
             have hB5 : Below w.heap.size w w' := hBW.trans (hG.belowF hBW.size (by simp; omega))
             obtain ⟨hc5, hf5⟩ := bcell hB5
             have hs5 := hB5.size
             obtain ⟨hc6, hf6⟩ := hG.cellsF
             clear hv
             refine SLF.wpo_do (SLF.wanted_free rfl) ?hd2 ?_
             case hd2 => intro c h; cases h
             clear hd
             first
               | (go_step; exact hK _ _ _ (SL.Chg.refl _ _) (by first | exact rfl | (simp only [hu]; exact rfl)) rfl (by simp) rfl)
               | exact hK _ _ _ (SL.Chg.refl _ _) rfl rfl (by simp) rfl)
          | skip
        · refine SLG.ob_sp rfl rfl rfl fun us w' Fe hG hu hd Kx hK => ?_
          try dsimp only
          simp [SL.Used, SL.pu, SL.row, SL.box, SL.rowIn, SL.boxIn, SL.boxAt, SL.boxAtIn, SLF.pq, Act.put, SL.aw_sub, SL.aw_use, SL.aw_eat, SL.aw_V, SL.aw_quiet, SL.blk] at hu
          have hB5 : Below w.heap.size w w' := hBW.trans (hG.belowF hBW.size (by simp; omega))
          obtain ⟨hc5, hf5⟩ := bcell hB5
          have hs5 := hB5.size
          obtain ⟨hc6, hf6⟩ := hG.cellsF
          refine SLF.wpo_do (SLF.wanted_free rfl) ?hd2 ?_
          case hd2 => intro c h; cases h
          obtain ⟨⟨e0, _⟩, hbl, _⟩ := hu
          obtain ⟨y0, y1, y2, y3, yf, yl⟩ := cell4w hbl
          go_step
          exact hK _ _ _ [] (by simp [Act.put]; done) (SL.Chg.refl _ _) ⟨rfl, rfl⟩ (fun j hj => by cases hj)
        · refine SLG.ob_sp rfl rfl rfl fun us w' Fe hG hu hd Kx hK => ?_
          try dsimp only
          simp [SL.Used, SL.pu, SL.row, SL.box, SL.rowIn, SL.boxIn, SL.boxAt, SL.boxAtIn, SLF.pq, Act.put, SL.aw_sub, SL.aw_use, SL.aw_eat, SL.aw_V, SL.aw_quiet, SL.blk] at hu
          have hB5 : Below w.heap.size w w' := hBW.trans (hG.belowF hBW.size (by simp; omega))
          obtain ⟨hc5, hf5⟩ := bcell hB5
          have hs5 := hB5.size
          obtain ⟨hc6, hf6⟩ := hG.cellsF
          refine SLF.wpo_do (SLF.wanted_free rfl) ?hd2 ?_
          case hd2 => intro c h; cases h
          obtain ⟨⟨e0, _⟩, hbl, _⟩ := hu
          obtain ⟨y0, y1, y2, y3, yf, yl⟩ := cell4w hbl
          go_step
          exact hK _ _ _ [] (by simp [Act.put]; done) (SL.Chg.refl _ _) ⟨rfl, rfl⟩ (fun j hj => by cases hj)
        · refine SLG.ob_sp rfl rfl rfl fun us w' Fe hG hu hd Kx hK => ?_
          try dsimp only
          simp [SL.Used, SL.pu, SL.row, SL.box, SL.rowIn, SL.boxIn, SL.boxAt, SL.boxAtIn, SLF.pq, Act.put, SL.aw_sub, SL.aw_use, SL.aw_eat, SL.aw_V, SL.aw_quiet, SL.blk] at hu
          have hB5 : Below w.heap.size w w' := hBW.trans (hG.belowF hBW.size (by simp; omega))
          obtain ⟨hc5, hf5⟩ := bcell hB5
          have hs5 := hB5.size
          obtain ⟨hc6, hf6⟩ := hG.cellsF
          refine SLF.wpo_do (SLF.wanted_free rfl) ?hd2 ?_
          case hd2 => intro c h; cases h
          obtain ⟨⟨e1, _⟩, ⟨e2, _⟩, h3⟩ := hu
          obtain ⟨hr, e14⟩ := SL.aw_out h3
          refine wp_app_full elemP _ _ rfl e1 (hr1 _ _ (RowAt.of_owns hr)) Hl1.out e2 (hr2 _ _ (RowAt.of_owns hr)) (by rw [Hl2.out, hn]) (by unfold maxLen; omega) (by omega) ?_
          intro a' c' w6 hr6 hb6 _ hat
          refine hK _ _ w6 _ (by simp [Act.put]; done) (.of_below hb6) (SL.aw_in ⟨a', c', _, _, ⟨rfl, rfl⟩, ⟨hr6, rfl⟩, rfl⟩) ?_
          intro j hj
          rcases hat with ⟨e, _⟩ | e
          · left
            subst e
            simp [SL.aw_eat, e14, Value.ownBlock] at hj ⊢
            exact hj
          · right
            subst e
            have := (hr6.at_ _ rfl).2.1
            simp [Value.ownBlock] at hj this
            omega
        · refine SLG.ob_no rfl rfl rfl fun us w' Fe hG hu hd Kx hK => ?_
          try dsimp only
          simp [SL.Used, SL.pu, SL.row, SL.box, SL.rowIn, SL.boxIn, SL.boxAt, SL.boxAtIn, SLF.pq, Act.put, SL.aw_sub, SL.aw_use, SL.aw_eat, SL.aw_V, SL.aw_quiet, SL.blk] at hu
          have hB5 : Below w.heap.size w w' := hBW.trans (hG.belowF hBW.size (by simp; omega))
          obtain ⟨hc5, hf5⟩ := bcell hB5
          have hs5 := hB5.size
          obtain ⟨hc6, hf6⟩ := hG.cellsF
          refine SLF.wpo_do (SLF.wanted_free rfl) ?hd2 ?_
          case hd2 => intro c h; cases h
          obtain ⟨h1, ⟨e11, _⟩, hbl, e13⟩ := hu
          obtain ⟨a', c', F1, F2, ⟨hx, rfl⟩, ⟨hl, rfl⟩, hF⟩ := SL.aw_out h1
          have hd1 := hd 10 13 (by simp [SL.aw_use]) (by simp [SL.aw_use]) (by simp)
          rw [hF, e13] at hd1
          obtain ⟨y0, y1, y2, y3, yf, yl⟩ := cell4w hbl
          go_step
          refine hK _ _ (.setCell _ (by simp [SL.aw_eat, e13]) _) (SL.aw_in ⟨a', c', _, _, ⟨Nat.zero_le _, heap_put3 hbl _, rfl⟩, ⟨hl.chg (E := [BX]) (.setCell _ (by simp) _) (fun z hz hm => hd1 _ (by simp [hz, Value.ownBlock]) hm), rfl⟩, rfl⟩) ?_
          intro j hj
          left
          simp [SL.aw_eat, hF, e13] at hj ⊢
          grind
      case hck2 => kernel_rfl
      case hkp2 => kernel_rfl
      intro us w5 Fs hG hu hbd hd
      simp [SL.Used, SL.aw_sub] at hu
      obtain ⟨a', c', F1, F2, ⟨_, hbl, rfl⟩, ⟨hl, rfl⟩, hF⟩ := SL.aw_out hu
      have hB5 : Below w.heap.size w w5 := hBW.trans (hG.belowF hBW.size (by simp; omega))
      have hG5 : SL.Chg [BX, G] w3 w5 := ⟨hG.os, hG.tape, hG.output, hG.size, hG.block⟩
      have ha' : ∀ z, a' = some z → z.block ∉ [w.heap.size + 1] := fun z hz hm => by
        have := (hbd 12 (by simp) z.block (by rw [hF]; simp [hz, Value.ownBlock])).1
        simp at this hm
        omega
      have hres5 := (hG5.block _ (by omega) (by simp; omega)).trans hres
      obtain ⟨y0, y1, y2, y3, yf, yl⟩ := cell4w hbl
      obtain ⟨z0, z1, z2, z3, zf, zl⟩ := cell4w hres5
      have hFin := Lib.hid (fun W (h : SL.Chg [w.heap.size + 1] w5 W) => HFin.out a' c' _ W (hl.chg h ha') hG5 h)
      have hFin2 := Lib.hid (fun W (h : SL.Chg [w.heap.size + 1] w5 W) => hP.out W ⟨ware, lim, byr, a', c', dps.eraseIdx X⟩ (hFin.out W h).1 _ (congrArg (fun k => Ending.returned (.tuple #[.agg #[.string ware, .int .i64 lim, .int .i64 byr, .slice a' k c'], .int .i64 0])) HLen.out.symm) (hB5.trans (h.belowW hB5.size (by simp))) (hFin.out W h).2)
      clear hu hbd hd hG hr1 hr2 hl hbl hres5 hF ha' hG5
      go_wp2_with fail
      refine bodyPost_ret (v := .tuple #[.agg #[.string ware, .int .i64 lim, .int .i64 byr, .slice a' (X + (n - (X + 1))) c'], .int .i64 0]) (by simp [results, Tryz.results46, go_sem, *]) rfl ?_
      exact hFin2.out _ (SLG.chg_set4 _ (by simp) ..)
  · have h2 : (E != 0) = true := by simpa using h0
    have HR := Lib.hid (hR.out.1 h0)
    have hC2 := fun w1 a2 n2 c2 h hl => (hC w1 a2 n2 c2 h hl).mono fun e w' hh => hh.1 h0
    obtain ⟨ware, lim, byr, a, cap, ps⟩ := c
    simp only [Cs.v] at *
    have hB2 : Below w.heap.size w ((w.alloc (Obj.cells #[.string ware, .int .i64 lim, .int .i64 byr, .slice a ps.length cap] 24)).alloc (Obj.cells #[.string ⟨#[]⟩, .int .i64 0, .int .i64 0, .slice none 0 0] 24)) := by ((repeat (first | assumption | exact Below.refl _ _ | refine Below.alloc ?_ ?_ _ | refine Below.setCell ?_ ?_ _ | refine Below.drew ?_ | refine belowN ?_ | refine Below.up ?_ (by assumption) ?_)) <;> (first | assumption | omega | (simp; done) | (simp; omega)))
    have hbx := hc.below hB2
    clear h0 hz hR hC
    go_enter Tryz.func46, Tryz.ntmps46
    go_wp2_with (go_at_call 75; (with_reducible refine (hC2 _ _ _ _ (hbx.below (one_alloc _ _)) (lit1c _ _ _ _)).mono ?_); rintro e w1 ⟨rfl, hb1⟩; obtain ⟨hc1, hf1⟩ := bcell hb1; have hz2 := lt_size hb1 (b := w.heap.size + 1) (by first | assumption | omega | (simp; done) | (simp; omega)))
    have hBE := (hB2.ch2 (one_alloc _ _)).ch2 hb1
    refine bodyPost_ret (v := .tuple #[.agg #[.string ⟨#[]⟩, .int .i64 0, .int .i64 0, .slice none 0 0], .int .i64 E]) (by simp [results, Tryz.results46, go_sem, *]; try rfl) rfl (hP.out _ Cs.zero HR.out _ rfl ?_ (Cs.zero_at _))
    (repeat (first | (with_reducible exact hBE) | ((with_reducible refine Below.setCell ?_ ?_ _); rotate_left; focus (first | omega | (simp; done) | (simp; omega))) | ((with_reducible refine Below.alloc ?_ ?_ _); rotate_left; focus (first | omega | (simp; done) | (simp; omega)))))
end Go.Proofs.YtodkbfbbpfghiaaGreat
