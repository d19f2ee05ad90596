/-
  Lemmas and walks for the laws on roads and boards: what each function of the program answers, for every input.
-/
import Derived.Test.YtodkbfbbpfghiaaGreatPc11
import Derived.Test.YtodkbfbbpfghiaaGreatPc17
import Derived.Test.YtodkbfbbpfghiaaGreatPc14
import Derived.OwnWalk
import Derived.Test.YtodkbfbbpfghiaaGreatPc12
set_option linter.unusedSimpArgs false
set_option linter.unusedVariables false
set_option linter.unnecessarySimpa false
namespace Go.Proofs.YtodkbfbbpfghiaaGreat
open Go.RowKit Go.Shelf Go.Maps
set_option maxHeartbeats 40000000
set_option maxRecDepth 100000
theorem wshow1 (lo hi : Int) (w : World) : Calls Tryz.prog 132 #[.agg #[.int .i64 lo, .int .i64 hi]] w fun e w' => e = .returned (.int .i64 lo) ∧ Below w.heap.size w w' := by
  go_enter Tryz.func132, Tryz.ntmps132
  go_wp2
  go_ret
  exact ⟨rfl, one_alloc _ _⟩
theorem wshow2 (lo hi : Int) (w : World) : Calls Tryz.prog 133 #[.agg #[.int .i64 lo, .int .i64 hi]] w fun e w' => e = .returned (.int .i64 hi) ∧ Below w.heap.size w w' := by
  go_enter Tryz.func133, Tryz.ntmps133
  go_wp2
  go_ret
  exact ⟨rfl, one_alloc _ _⟩
def ShowPost (w : World) (l : List (Int × Int)) (e : Ending) (w' : World) : Prop := ∃ a c, e = .returned (.slice a l.length c) ∧ Below w.heap.size w w' ∧ RngsAt w' a l.length c l
/-- The pairs that have been entered. -/
def okP (L H : List Int) (k m : Nat) (x y : Int) : Prop := ∃ i j, (i < k ∨ (i = k ∧ j < m)) ∧ i < L.length ∧ j < H.length ∧ L.getD i 0 = x ∧ H.getD j 0 = y
theorem okP_next {L H : List Int} {k m : Nat} {x y : Int} (h : okP L H k (m + 1) x y) : okP L H k m x y ∨ (x = L.getD k 0 ∧ y = H.getD m 0) := by
  obtain ⟨i, j, h1, h2, h3, rfl, rfl⟩ := h
  by_cases e : i = k ∧ j = m
  · obtain ⟨rfl, rfl⟩ := e; exact .inr ⟨rfl, rfl⟩
  · exact .inl ⟨i, j, by omega, h2, h3, rfl, rfl⟩
theorem okP_row {L H : List Int} {k : Nat} {x y : Int} (h : okP L H (k + 1) 0 x y) : okP L H k H.length x y := by
  obtain ⟨i, j, h1, h2, h3, rfl, rfl⟩ := h
  exact ⟨i, j, by omega, h2, h3, rfl, rfl⟩
theorem okP_none {L H : List Int} {x y : Int} (h : okP L H 0 0 x y) : False := by
  obtain ⟨i, j, h1, _⟩ := h
  omega
theorem okP_in {L H : List Int} {k m : Nat} {x y : Int} (h : okP L H k m x y) : x ∈ L ∧ y ∈ H := by
  obtain ⟨i, j, h1, h2, h3, rfl, rfl⟩ := h
  exact ⟨mem_getD h2, mem_getD h3⟩
theorem okP_all {L H : List Int} {x y : Int} (hx : x ∈ L) (hy : y ∈ H) : okP L H L.length 0 x y := by
  obtain ⟨i, hi, rfl⟩ := getD_of_mem hx
  obtain ⟨j, hj, rfl⟩ := getD_of_mem hy
  exact ⟨i, j, .inl hi, hi, hj, rfl, rfl⟩
theorem losL_range {s : List Pn} (hs : OkS s) {x : Int} (h : x ∈ losL s) : 0 ≤ x ∧ x ≤ 1000 := by
  obtain ⟨p, hp, rfl⟩ := mem_losL.1 h
  have := hs p hp; omega
theorem hisL_range {s : List Pn} (hs : OkS s) {x : Int} (h : x ∈ hisL s) : 0 ≤ x ∧ x ≤ 1000 := by
  obtain ⟨p, hp, rfl⟩ := mem_hisL.1 h
  have := hs p hp; omega
theorem losL_len (s : List Pn) : (losL s).length ≤ s.length := by have := ascOf_len (s.map (·.lo)); simpa [losL] using this
theorem hisL_len (s : List Pn) : (hisL s).length ≤ s.length := by have := ascOf_len (s.map (·.hi)); simpa [hisL] using this
theorem zvI (w : World) : (zeroValue 3).run Tryz.prog w = .ok (.int .i64 0) w := by simp [go_sem]
theorem elemBest : Elem Tryz.prog 141 143 (.agg #[.int .i64 0, .slice none 0 0]) 2 32 := ⟨Tryz.underlying141, info_parts (by kernel_rfl), rfl, by decide⟩
theorem wshow (a : Option Addr) (ca : Nat) (f : Option Addr) (cf n : Nat) (s : List Pn) (w : World) (hs : SpansAt w a ca f cf n s) (hn : s.length ≤ 100) (hok : OkS s) :
    Calls Tryz.prog 94 #[spV a ca f cf n] w (ShowPost w (showL s)) := by
  obtain rfl := hs.len
  have hmm := @run_makeMap Tryz.prog
  have hE1 := fun W (h : SpansAt W a ca f cf s.length s) => wends a ca f cf s.length s 132 (fun lo _ => lo) W h (by omega) (enters_of Tryz.func132 (by kernel_rfl) rfl) wshow1 (fun p hp => by have := hok p hp; omega)
  have hE2 := fun W (h : SpansAt W a ca f cf s.length s) => wends a ca f cf s.length s 133 (fun _ hi => hi) W h (by omega) (enters_of Tryz.func133 (by kernel_rfl) rfl) wshow2 (fun p hp => by have := hok p hp; omega)
  change ∀ W, SpansAt W a ca f cf s.length s → Calls Tryz.prog 131 _ W (RowPost W 3 1 (losL s).length ((losL s).map (.int .i64))) at hE1
  change ∀ W, SpansAt W a ca f cf s.length s → Calls Tryz.prog 131 _ W (RowPost W 3 1 (hisL s).length ((hisL s).map (.int .i64))) at hE2
  have hDm := fun lo hi W (h : SpansAt W a ca f cf s.length s) => wdemand a ca f cf s.length s lo hi W h (by omega)
  have hlr := @losL_range s hok
  have hhr := @hisL_range s hok
  have hll := losL_len s
  have hhl := hisL_len s
  obtain ⟨Q, hQ⟩ : ∃ Q, ShowPost w (showL s) = Q := ⟨_, rfl⟩
  rw [hQ]
  have HQ := Lib.hid hQ
  obtain ⟨L, hL⟩ : ∃ L, losL s = L := ⟨_, rfl⟩
  obtain ⟨H, hH⟩ : ∃ H, hisL s = H := ⟨_, rfl⟩
  rw [hL] at hE1 hlr hll
  rw [hH] at hE2 hhr hhl
  have HL := Lib.hid hL
  have HH := Lib.hid hH
  have tok : True := trivial
  have hB1 := one_alloc w (Obj.cells #[.slice a s.length ca, .slice f s.length cf] 83)
  have hdl : ∀ lo hi, dem s lo hi ≤ 100 := fun lo hi => Nat.le_trans (dem_le lo hi) hn
  have Hdl := Lib.hid hdl
  clear hL hH hQ hdl
  unfold spV at *
  go_enter Tryz.func94, Tryz.ntmps94
  go_wp2_with (first
    | (go_at_call 131; clear tok; (with_reducible refine (hE1 _ (hs.below hB1)).mono ?_); rintro e w1 ⟨v1, rfl, hb1, ho1⟩; obtain ⟨la, lc, rfl, hla⟩ := owns_slice ho1; obtain ⟨hc1, hf1⟩ := bcell hb1; have hz1 := lt_size hb1 (b := w.heap.size) (by first | assumption | omega | (simp; done) | (simp; omega)))
    | (go_at_call 131; (with_reducible refine (hE2 _ (hs.below (hB1.ch2 hb1))).mono ?_); rintro e w2 ⟨v2, rfl, hb2, ho2⟩; obtain ⟨ha, hc, rfl, hha⟩ := owns_slice ho2; obtain ⟨hc2, hf2⟩ := bcell hb2; have hz2 := lt_size hb2 (b := w.heap.size) (by first | assumption | omega | (simp; done) | (simp; omega))))
  obtain ⟨M, hM⟩ : ∃ M, w2.heap.size = M := ⟨_, rfl⟩
  rw [hM]
  obtain ⟨w3, hw3⟩ : ∃ w3, w3 = w2.alloc (Obj.map #[] 0) := ⟨_, rfl⟩
  rw [← hw3]
  have hb3 : Below w2.heap.size w2 w3 := by rw [hw3]; exact one_alloc _ _
  have hB3 : Below w.heap.size w w3 := ((hB1.ch2 hb1).ch2 hb2).ch2 hb3
  have hM3 : M < w3.heap.size := by rw [hw3]; simp; omega
  have hwM : w.heap.size + 1 ≤ M := by
    have h1 := hb1.size
    have h2 := hb2.size
    rw [World.size_alloc] at h1
    omega
  have hown0 : w3.ownsMap Tryz.prog 33 (plainElem Tryz.prog 3) M 0 (.map [] : DataW Unit) := by rw [hw3, ← hM]; exact World.ownsMap_made _ _ _ _
  have hLat : IntsAt w3 la L.length lc L := IntsAt.of_owns ((ho1.up hb2 (Nat.le_refl _)).up hb3 (Nat.le_refl _)) (by omega)
  have hHat : IntsAt w3 ha H.length hc H := IntsAt.of_owns (ho2.up hb3 (Nat.le_refl _)) (by omega)
  have hlM : ∀ x, la = some x → x.block < M := fun x hx => by have := (hla x hx).2; have := hb2.size; omega
  have hhM : ∀ x, ha = some x → x.block < M := fun x hx => by have := (hha x hx).2; omega
  have hbox : w3.heap[w.heap.size]? = some (.cells #[.slice a s.length ca, .slice f s.length cf] 83 (0, 0)) := by
    rw [hb3.block _ (by omega), hb2.block _ (by have := hb1.size; simp at this; omega), hb1.block _ (by simp)]
    exact World.alloc_heap_new _ _
  have hs3 := hs.below hB3
  obtain ⟨za, zf⟩ := hs.blocks
  clear hc1 hf1 hc2 hf2 hz1 hz2 ho1 ho2 hla hha hw3 hb3 hb2 hb1 hE1 hE2 hM hB1
  have hDem0 : DemD (fun x y => ((dem s x y : Nat) : Int)) (.map [] : DataW Unit) (okP L H 0 0) := (DemD.nil _).mono fun x y h => okP_none h
  go_loopw [29] (fun i wr => ∃ k : Nat, k ≤ L.length ∧ i = .int .i64 k ∧ SL.Chg [M] w3 wr ∧ ∃ n D, n = k * H.length ∧ wr.ownsMap Tryz.prog 33 (plainElem Tryz.prog 3) M n D ∧ DemD (fun x y => ((dem s x y : Nat) : Int)) D (okP L H k 0)) (fun i _ => L.length - (RowKit.intOf i).toNat)
  case atStart => exact ⟨0, Nat.zero_le _, rfl, SL.Chg.refl _ _, 0, _, (Nat.zero_mul _).symm, hown0, hDem0⟩
  case round =>
    obtain ⟨k, hk, rfl, hC, n0, D0, hn0, hown, hDem⟩ := hrel
    clear hown0 hDem0
    have hnn : (0 : Int) ≤ k := by omega
    by_cases hlt : k < L.length
    · have i1 : (k : Int) < (L.length : Int) := by omega
      obtain ⟨b, o, rfl, _, d0⟩ := (hLat.chg hC (fun x hx hm => by have := hlM x hx; simp at hm; omega)).get hlt
      obtain ⟨low, hlow⟩ : ∃ x, L.getD k 0 = x := ⟨_, rfl⟩
      have hlo := hlr (mem_getD hlt)
      rw [hlow] at d0 hlo
      have Hlow := Lib.hid hlow
      have Hn0 := Lib.hid hn0
      have hkb : k * H.length ≤ 10000 := Nat.le_trans (Nat.mul_le_mul (show k ≤ 100 by omega) (show H.length ≤ 100 by omega)) (by omega)
      have Hkb := Lib.hid hkb
      clear hn0 hlow hkb
      have hDem1 : DemD (fun x y => ((dem s x y : Nat) : Int)) D0 (okP L H k 0) := hDem
      go_wp2_with fail
      go_loopw [35] (fun i wr => ∃ m : Nat, m ≤ H.length ∧ i = .int .i64 m ∧ SL.Chg [M] w3 wr ∧ ∃ n D, n = k * H.length + m ∧ wr.ownsMap Tryz.prog 33 (plainElem Tryz.prog 3) M n D ∧ DemD (fun x y => ((dem s x y : Nat) : Int)) D (okP L H k m)) (fun i _ => H.length - (RowKit.intOf i).toNat)
      case atStart => exact ⟨0, Nat.zero_le _, rfl, hC, n0, D0, by rw [Hn0.out, Nat.add_zero], hown, hDem1⟩
      case round =>
        obtain ⟨m, hm, rfl, hCm, n1, D1, hn1, hownm, hDemm⟩ := hrel
        clear hC hown hDem hDem1 d0
        have hmn : (0 : Int) ≤ m := by omega
        by_cases hltm : m < H.length
        · have j1 : (m : Int) < (H.length : Int) := by omega
          obtain ⟨b2, o2, rfl, _, d1⟩ := (hHat.chg hCm (fun x hx hm => by have := hhM x hx; simp at hm; omega)).get hltm
          obtain ⟨high, hhigh⟩ : ∃ x, H.getD m 0 = x := ⟨_, rfl⟩
          have hhi := hhr (mem_getD hltm)
          rw [hhigh] at d1 hhi
          have Hhigh := Lib.hid hhigh
          have Hn1 := Lib.hid hn1
          have hnb : n1 < maxLen := by have := Hkb.out; unfold maxLen; omega
          have hnew := Lib.hid ((hDemm.put (fun x y h => by have h1 := hlr (okP_in h).1; have h2 := hhr (okP_in h).2; omega) (lo := low) (hi := high) (by omega) (by omega)).mono (ok' := okP L H k (m + 1)) (fun x y h => by rcases okP_next h with h | h; exact .inl h; rw [Hlow.out, Hhigh.out] at h; exact .inr h))
          have hkey := Lib.hid (keyOf_R (lo := low) (hi := high) (by omega) (by omega))
          have hdm := hDm low high
          have hdb := Hdl.out low high
          obtain ⟨T, hT⟩ : ∃ T : Int, ((dem s low high : Nat) : Int) = T := ⟨_, rfl⟩
          rw [hT] at hdm
          have HT := Lib.hid hT
          have hwf := Lib.hid (WalkArith.wf_i64 (show -9223372036854775808 ≤ T ∧ T ≤ 9223372036854775807 by omega))
          have hzr : w.heap.size < wr.heap.size := by have := hCm.size; omega
          have hMr := hownm.lt
          have hbx := (hCm.block _ (by omega) (by simp; omega)).trans hbox
          obtain ⟨y0, y1, yf, yl⟩ := cell2w hbx
          have hBr : Below w.heap.size w wr := hB3.trans (hCm.belowW hB3.size (by simp; omega))
          obtain ⟨wa, hwa⟩ : ∃ wa, wa = wr.alloc (Obj.cells #[.int .i64 low, .int .i64 high] 33) := ⟨_, rfl⟩
          have hBa : Below w.heap.size w wa := by rw [hwa]; exact hBr.ch2 (one_alloc _ _)
          have hra : wa.heap[wr.heap.size]? = some (.cells #[.int .i64 low, .int .i64 high] 33 (0, 0)) := by rw [hwa]; exact World.alloc_heap_new _ _
          obtain ⟨x0, x1, xf, xl⟩ := cell2w hra
          have hCa : SL.Chg [M] w3 wa := by rw [hwa]; exact hCm.trans (.alloc _ _ _)
          have hbxa := (hCa.block _ (by omega) (by simp; omega)).trans hbox
          obtain ⟨q0, q1, qf, ql⟩ := cell2w hbxa
          have howna : wa.ownsMap Tryz.prog 33 (plainElem Tryz.prog 3) M n1 D1 := by rw [hwa]; exact hownm.alloc _
          have hMa : M < wa.heap.size := by rw [hwa]; simp; omega
          have nM0 : ¬ w.heap.size = M := by omega
          have nM1 : ¬ wr.heap.size = M := by omega
          clear hT hhigh hn1 hdb hDemm hbx hbxa y0 y1 yf hra
          go_wp2_with fail
          rw [← hwa]
          clear hwa
          apply SLG.rule0 ?hm1 [M] [42, 43, 44, 45, 46] [SLF.pq 42 [] _, SLF.pq 43 [] _, SLF.pq 44 [] _, SLF.pq 45 [] _, SL.pu 46 [2, 3] (.int .i64 T), SL.aw 0 [0, 1, 4, 6] [6] (fun _ => .omap M (n1 + 1) (D1.put (rKey low high) (.lit (.int .i64 T)))), SL.aw 0 [] [] (fun _ => .omap M n1 D1)] [5] ?hck1 ?hkp1 (fun i => if i = 6 then [M] else []) ?hin1 ?hdj1 ?hfr1 ?ob1 ?en1
          case hm1 => kernel_rfl
          case hin1 => exact SL.one_held rfl rfl (SL.aw_in ⟨howna, rfl⟩) hMa
          case hdj1 => exact SL.one_apart
          case hfr1 => intro us; simp only [SL.frame, SL.put']; simp; exact rfl
          case ob1 =>
            refine ⟨?_, ?_, ?_, ?_, ?_, ?_, trivial⟩
            all_goals first
              | (intro us w' Fe hG hu hd hv Kx hK
                 try dsimp only
                 simp [SL.Used, SL.pu, SL.row, SL.box, SL.rowIn, SL.boxIn, SL.boxAt, SL.boxAtIn, SLF.pq, Act.put, SL.aw_sub, SL.aw_use, SL.aw_eat, SL.aw_V, SL.aw_quiet] at hu hK
                 have hB5 : Below w.heap.size w w' := hBa.trans (hG.belowF hBa.size (by simp; omega))
                 obtain ⟨hc5, hf5⟩ := bcell hB5
                 have hs5 := hB5.size
                 obtain ⟨hc6, hf6⟩ := hG.cellsF
                 clear hv
                 refine SLF.wpo_do (SLF.wanted_free rfl) ?hd1 ?_
                 case hd1 => intro c h; cases h
                 clear hd
                 first
                   | (go_step; exact hK _ _ _ (SL.Chg.refl _ _) (by first | exact rfl | (simp only [hu]; exact rfl)) rfl (by simp) rfl)
                   | exact hK _ _ _ (SL.Chg.refl _ _) rfl rfl (by simp) rfl)
              | skip
            · refine SLG.ob_sp rfl rfl rfl fun us w' Fe hG hu hd Kx hK => ?_
              try dsimp only
              simp [SL.Used, SL.pu, SL.row, SL.box, SL.rowIn, SL.boxIn, SL.boxAt, SL.boxAtIn, SLF.pq, Act.put, SL.aw_sub, SL.aw_use, SL.aw_eat, SL.aw_V, SL.aw_quiet] at hu
              have hB5 : Below w.heap.size w w' := hBa.trans (hG.belowF hBa.size (by simp; omega))
              obtain ⟨hc5, hf5⟩ := bcell hB5
              have hs5 := hB5.size
              obtain ⟨hc6, hf6⟩ := hG.cellsF
              refine SLF.wpo_do (SLF.wanted_free rfl) ?hd1 ?_
              case hd1 => intro c h; cases h
              go_step
              refine (hdm _ (hs.below hB5)).mono ?_
              rintro e w6 ⟨rfl, hb6⟩
              exact hK _ _ w6 [] (by simp [Act.put]; done) (.of_below hb6) ⟨rfl, rfl⟩ (fun j hj => by cases hj)
            · refine SLG.ob_no rfl rfl rfl fun us w' Fe hG hu hd Kx hK => ?_
              try dsimp only
              simp [SL.Used, SL.pu, SL.row, SL.box, SL.rowIn, SL.boxIn, SL.boxAt, SL.boxAtIn, SLF.pq, Act.put, SL.aw_sub, SL.aw_use, SL.aw_eat, SL.aw_V, SL.aw_quiet] at hu
              have hB5 : Below w.heap.size w w' := hBa.trans (hG.belowF hBa.size (by simp; omega))
              obtain ⟨hc5, hf5⟩ := bcell hB5
              have hs5 := hB5.size
              obtain ⟨hc6, hf6⟩ := hG.cellsF
              refine SLF.wpo_do (SLF.wanted_free rfl) ?hd1 ?_
              case hd1 => intro c h; cases h
              obtain ⟨⟨e42, _⟩, ⟨e43, _⟩, ⟨e46, _⟩, h6⟩ := hu
              obtain ⟨hown', e6⟩ := SL.aw_out h6
              refine wp_mapUpd _ _ _ 140 rfl keyR Tryz.underlying140 e42 hown' hnb e43 e46 hkey.out (plainElem_int Tryz.underlying3 hwf.out) ?_
              intro w6 hown6 hg6
              exact hK _ _ (.of_grown hg6 (by simp [SL.aw_eat, e6])) (SL.aw_in ⟨hown6, rfl⟩) (fun j hj => .inl (by simpa [SL.aw_eat, e6] using hj))
          case hck1 => kernel_rfl
          case hkp1 => kernel_rfl
          intro us w5 Fs hG hu hbd hd
          simp [SL.Used, SL.aw_sub] at hu
          obtain ⟨hown5, _⟩ := SL.aw_out hu
          have hC5 : SL.Chg [M] w3 w5 := hCa.trans ⟨hG.os, hG.tape, hG.output, hG.size, hG.block⟩
          have hD5 := hnew.out
          rw [HT.out] at hD5
          have HD5 := Lib.hid hD5
          clear hu hbd hd hG hD5 x0 x1 xf q0 q1 qf howna hCa hBa
          go_wp2_with fail
          go_roundw
          case rel => exact ⟨m + 1, by omega, by go_num, hC5, n1 + 1, _, by rw [Hn1.out]; omega, hown5, HD5.out⟩
          case measure => simp [RowKit.intOf]; omega
        · have hm2 : m = H.length := by omega
          subst hm2
          have Hn1 := Lib.hid hn1
          have HDm := Lib.hid hDemm
          clear hn1 hDemm
          go_wp2_with fail
          go_roundw
          case rel => exact ⟨k + 1, by omega, by go_num, hCm, n1, D1, by rw [Hn1.out, Nat.succ_mul], hownm, HDm.out.mono fun x y h => okP_row h⟩
          case measure => simp [RowKit.intOf]; omega
    · have hk2 : k = L.length := by omega
      subst hk2
      have HDm := Lib.hid (hDem.mono (ok' := fun x y => x ∈ L ∧ y ∈ H) fun x y h => okP_all h.1 h.2)
      clear hDem hn0
      obtain ⟨iB, hiB, hzB, hsB, hbB⟩ := elemBest.info
      have hzr : w.heap.size < wr.heap.size := by have := hC.size; omega
      have hBr : Below w.heap.size w wr := hB3.trans (hC.belowW hB3.size (by simp; omega))
      have hLr := hLat.chg hC (fun x hx hm => by have := hlM x hx; simp at hm; omega)
      have hHr := hHat.chg hC (fun x hx hm => by have := hhM x hx; simp at hm; omega)
      have hMr := hown.lt
      have HM1 := Lib.hid (bsc_made (H.length + 1))
      have HB1 := Lib.hid (And.intro hiB (And.intro hzB (And.intro hsB hbB)))
      clear hiB hzB hsB hbB hC hLat hHat hs3 hbox
      go_wp2_with (at_make; refine wpList_make_full _ rfl _ _ 141 rfl wr.heap.size 143 iB (.agg #[.int .i64 0, .slice none 0 0]) 2 Tryz.underlying141 HB1.out.1 HB1.out.2.1 HB1.out.2.2.1 .i64 .i64 _ _ (H.length + 1) rfl rfl (by omega) (by omega) (by rw [HB1.out.2.2.2]; omega) (by unfold maxLen; omega) (Nat.le_refl _) ?_; intro w4 ho4 hg4)
      obtain ⟨G, hG⟩ : ∃ G, wr.heap.size = G := ⟨_, rfl⟩
      have hg4 : Below wr.heap.size wr w4 := ⟨hg4.os, hg4.tape, hg4.output, hg4.size, fun k hk => hg4.block k hk (by simp)⟩
      have hB4 : Below w.heap.size w w4 := hBr.ch2 hg4
      have hL4 := hLr.below hg4
      have hH4 := hHr.below hg4
      have hown4 := hown.kept (below_grown hg4) (by simp)
      have hM4 : M < w4.heap.size := hown4.lt
      rw [HM1.out] at ho4
      rw [hG] at ho4 hzr hMr ⊢
      have hG4 : G < w4.heap.size := (SL.row_bounds ho4 G (by simp [Value.ownBlock])).2
      have hRel0 : ∀ j, j ≤ H.length → Bst.is ((List.replicate (H.length + 1) default).getD j default) ((doneL s 0).getD j (0, [])) := fun j hj => by
        rw [List.getD_eq_getElem?_getD, List.getElem?_replicate, if_pos (by omega)]
        cases j with
        | zero => exact ⟨rfl, rfl⟩
        | succ j => exact ⟨rfl, rfl⟩
      have hAt0 : ∀ b ∈ List.replicate (H.length + 1) (default : Bst), BstAt w4 0 [G] b := fun b hb => by rw [(List.mem_replicate.1 hb).2]; exact BstAt.zero _ _ _
      clear hg4 hBr hLr hHr hown hG HM1 HB1
      go_loopw [55] (fun i wr => ∃ k : Nat, k ≤ H.length ∧ i = .int .i64 k ∧ SL.Chg [G] w4 wr ∧ ∃ bs : List Bst, bs.length = H.length + 1 ∧ wr.ownsRow G 143 2 (.slice (some ⟨G, 0, none⟩) (H.length + 1) (H.length + 1)) (H.length + 1) (bsc bs) ∧
        (∀ j, j ≤ H.length → Bst.is (bs.getD j default) ((doneL s k).getD j (0, []))) ∧ ∀ b ∈ bs, BstAt wr k [G] b) (fun i _ => H.length - (RowKit.intOf i).toNat)
      case atStart => exact ⟨0, Nat.zero_le _, rfl, SL.Chg.refl _ _, _, by simp, ho4, hRel0, hAt0⟩
      case round =>
        obtain ⟨k, hk, rfl, hC, bs, hbl, hrow, hrel, hats⟩ := hrel
        clear ho4 hRel0 hAt0
        have hkn : (0 : Int) ≤ k := by omega
        have HR := Lib.hid hrel
        have HA := Lib.hid hats
        have HBL := Lib.hid hbl
        have hkB : k < bs.length := by omega
        have hGr : G < wr.heap.size := by have := hC.size; omega
        by_cases hlt : k < H.length
        · have i1 : (k : Int) < (H.length : Int) := by omega
          have i2 : (k : Int) < (H.length : Int) + 1 := by omega
          obtain ⟨b, o, rfl, _, d0⟩ := (hH4.chg hC (fun x hx hm => by have := hhM x hx; simp at hm; omega)).get hlt
          obtain ⟨high, hhigh⟩ : ∃ x, H.getD k 0 = x := ⟨_, rfl⟩
          have hhi := hhr (mem_getD hlt)
          have hhm : high ∈ H := by rw [← hhigh]; exact mem_getD hlt
          rw [hhigh] at d0 hhi
          have Hhigh := Lib.hid hhigh
          have r0 := (hrow.cellAt (k * 2) (by omega)).trans (bsc_get0 hkB)
          have r1 := (hrow.cellAt (k * 2 + 1) (by omega)).trans (bsc_get1 hkB)
          have hbk := Lib.hid (hats _ (by rw [List.getD_eq_getElem?_getD, List.getElem?_eq_getElem hkB]; exact List.getElem_mem _ : bs.getD k default ∈ bs))
          have hik := Lib.hid (hrel k hk)
          obtain ⟨b0, hb0⟩ : ∃ x, bs.getD k default = x := ⟨_, rfl⟩
          rw [hb0] at r0 r1 hbk hik
          have hBw : Below w.heap.size w wr := hB4.trans (hC.belowW hB4.size (by simp; omega))
          have hrow' : wr.ownsRow G 143 2 (.slice (some ⟨G, 0, none⟩) (H.length + 1) (H.length + 1)) (H.length + 1) (bsc bs) := hrow
          clear hhigh hb0 hrel hats hbl
          go_wp2_with fail
          obtain ⟨N, hN⟩ : ∃ N, wr.heap.size = N := ⟨_, rfl⟩
          obtain ⟨w5, hw5⟩ : ∃ w5, w5 = wr.alloc (Obj.cells #[.int .i64 b0.sum, .slice b0.a b0.l.length b0.cap] 143) := ⟨_, rfl⟩
          rw [← hw5]
          have hb5 : Below wr.heap.size wr w5 := by rw [hw5]; exact one_alloc _ _
          have hN5 : w5.heap[N]? = some (.cells #[.int .i64 b0.sum, .slice b0.a b0.l.length b0.cap] 143 (0, 0)) := by rw [hw5, ← hN]; exact World.alloc_heap_new _ _
          have hC5 : SL.Chg [G] w4 w5 := hC.trans (.of_below hb5)
          have hrow5 := hrow.up hb5 (Nat.le_refl _)
          have hA5 : ∀ b ∈ bs, BstAt w5 k [G, N] b := fun b hb => ((HA.out b hb).chg (F := []) (.of_below hb5) (by simp)).mono (Nat.le_refl _) (fun x hx hm => by have := (HA.out b hb).lt x hx; simp at hm ⊢; omega)
          have hbx5 : BstAt w5 (k + 1) [G, N] b0 := ((hbk.out).chg (F := []) (.of_below hb5) (by simp)).mono (by omega) (fun x hx hm => by have := hbk.out.lt x hx; simp at hm ⊢; omega)
          rw [hN]
          have hNG : ¬ N = G := by omega
          have hMN : M < N := by omega
          have hN4 : w4.heap.size ≤ N := by have := hC.size; omega
          clear hw5 hb5 r0 r1 hrow hrow'
          have hI0 : Bst.is b0 (innerS s (fun j => (doneL s k).getD j (0, [])) high ((doneL s k).getD k (0, [])) (L.take 0)) := hik.out
          go_loopw [66] (fun i wr => ∃ m : Nat, m ≤ L.length ∧ i = .int .i64 m ∧ SL.Chg [N] w5 wr ∧ ∃ nb : Bst, wr.heap[N]? = some (.cells #[.int .i64 nb.sum, .slice nb.a nb.l.length nb.cap] 143 (0, 0)) ∧
            Bst.is nb (innerS s (fun j => (doneL s k).getD j (0, [])) high ((doneL s k).getD k (0, [])) (L.take m)) ∧ BstAt wr (k + 1) [G, N] nb) (fun i _ => L.length - (RowKit.intOf i).toNat)
          case atStart => exact ⟨0, Nat.zero_le _, rfl, SL.Chg.refl _ _, b0, hN5, hI0, hbx5⟩
          case round =>
            obtain ⟨m, hm, rfl, hCn, nb, hNb, hInb, hAnb⟩ := hrel
            clear hN5 hI0 hbx5
            have hmn : (0 : Int) ≤ m := by omega
            have hNr : N < wr.heap.size := (Array.getElem?_eq_some_iff.1 hNb).1
            have hGr5 : G < w5.heap.size := (SL.row_bounds hrow5 G (by simp [Value.ownBlock])).2
            have hrowr : wr.ownsRow G 143 2 (.slice (some ⟨G, 0, none⟩) (H.length + 1) (H.length + 1)) (H.length + 1) (bsc bs) := SL.row_stab hrow5 fun j hj => hCn.block j (SL.row_bounds hrow5 j hj).2 (by simp [Value.ownBlock] at hj; simp; omega)
            by_cases hltm : m < L.length
            · have j1 : (m : Int) < (L.length : Int) := by omega
              obtain ⟨b3, o3, rfl, _, d1⟩ := ((hL4.chg hC5 (fun x hx hm => by have := hlM x hx; simp at hm; omega)).chg hCn (fun x hx hm => by have := hlM x hx; simp at hm; omega)).get hltm
              obtain ⟨low, hlow⟩ : ∃ x, L.getD m 0 = x := ⟨_, rfl⟩
              have hlo := hlr (mem_getD hltm)
              have hlm : low ∈ L := by rw [← hlow]; exact mem_getD hltm
              have hst := innerS_snoc (s := s) (D := fun j => (doneL s k).getD j (0, [])) (h := high) (now := (doneL s k).getD k (0, [])) hltm
              rw [hlow] at d1 hlo hst
              simp only [HH.out] at hst
              have Hst := Lib.hid hst
              have hdd := Hdl.out low high
              obtain ⟨T, hT⟩ : ∃ T : Int, ((dem s low high : Nat) : Int) = T := ⟨_, rfl⟩
              have HT := Lib.hid hT
              have hat0 := HDm.out.at_ low high ⟨hlm, hhm⟩
              simp only [hT] at hat0
              have Hat := Lib.hid hat0
              have hkey := Lib.hid (keyOf_R (lo := low) (hi := high) (by omega) (by omega))
              obtain ⟨B, hB⟩ : ∃ B, before H low = B := ⟨_, rfl⟩
              have hBl : B ≤ H.length := by rw [← hB]; exact before_le H low
              have hBb : B < bs.length := by have := HBL.out; omega
              have hse := fun W h => searchI (some ⟨b, o, none⟩) H.length hc H low W h (by rw [← HH.out]; exact (hisL_asc s).le) (by omega)
              rw [hB] at hse
              have HB := Lib.hid hB
              have hib := Lib.hid (HR.out B hBl)
              have hAb := (hA5 _ (Bst.mem hBb)).chg hCn (by simp)
              have r0 := (hrowr.cellAt (B * 2) (by omega)).trans (bsc_get0 hBb)
              have r1 := (hrowr.cellAt (B * 2 + 1) (by omega)).trans (bsc_get1 hBb)
              obtain ⟨bb, hbb⟩ : ∃ x, bs.getD B default = x := ⟨_, rfl⟩
              rw [hbb] at r0 r1 hAb hib
              have T1 : 0 ≤ T ∧ T ≤ 100 := by omega
              obtain ⟨s1, s2⟩ := hAb.sum
              obtain ⟨s3, s4⟩ := hAnb.sum
              have i5 : (0 : Int) ≤ B := by omega
              have i6 : (B : Int) < (H.length : Int) + 1 := by omega
              have i7 : (B : Int) < ((H.length + 1 : Nat) : Int) := by omega
              have hMr : wr.heap[M]? = w4.heap[M]? := (hCn.block M (by have := hC5.size; omega) (by simp; omega)).trans (hC5.block M hM4 (by simp; omega))
              obtain ⟨wa, hwa⟩ : ∃ wa, wa = wr.alloc (Obj.cells #[.int .i64 low, .int .i64 high] 33) := ⟨_, rfl⟩
              have hba : Below wr.heap.size wr wa := by rw [hwa]; exact one_alloc _ _
              have hra : wa.heap[wr.heap.size]? = some (.cells #[.int .i64 low, .int .i64 high] 33 (0, 0)) := by rw [hwa]; exact World.alloc_heap_new _ _
              have hza : wr.heap.size < wa.heap.size := by rw [hwa]; simp
              have hHa : IntsAt wa (some ⟨b, o, none⟩) H.length hc H := ((hH4.chg hC5 (fun x hx hm => by have := hhM x hx; simp at hm; omega)).chg hCn (fun x hx hm => by have := hhM x hx; simp at hm; omega)).below hba
              clear hlow hst hT hat0 hB hbb hdd
              go_wp2_with fail
              rw [← hwa]
              clear hwa
              refine (hse _ hHa).mono ?_
              rintro e w6 ⟨rfl, hb6⟩
              have hCw : SL.Chg [] wr w6 := .of_below (hba.ch2 hb6)
              have hz6 : wr.heap.size < w6.heap.size := by have := hb6.size; omega
              have hr6 := (hb6.block _ hza).trans hra
              have hN6 := (hCw.block N hNr (by simp)).trans hNb
              have hrow6 := SL.row_stab hrowr fun j hj => hCw.block j (SL.row_bounds hrowr j hj).2 (by simp)
              have hM6 : w6.ownsMap Tryz.prog 33 (plainElem Tryz.prog 3) M n0 D0 := ownsMap_stab hown4 ((hCw.block M (by omega) (by simp)).trans hMr)
              have hC6 : SL.Chg [N] w5 w6 := hCn.trans (hCw.monoW (by simp))
              have hAb6 := hAb.chg (F := []) hCw (by simp)
              have hAn6 := hAnb.chg (F := []) hCw (by simp)
              have q0 := ((hCw.cellsW.1 _ _ (by omega) (by simp)).trans r0 : w6.cell? ⟨G, B * 2, none⟩ = _)
              have q1 := ((hCw.cellsW.1 _ _ (by omega) (by simp)).trans r1 : w6.cell? ⟨G, B * 2 + 1, none⟩ = _)
              obtain ⟨x0, x1, xf, xl⟩ := cell2w hr6
              obtain ⟨y0, y1, yf, yl⟩ := cell2w hN6
              clear r0 r1 hra hHa hb6 hba d1
              go_wp2_with (at_lookup; refine wpList_lookup_own_int _ rfl _ _ 140 rfl 33 3 .i64 keyR Tryz.underlying140 Tryz.underlying3 (zvI _) M n0 D0 rfl hM6 _ _ rfl hkey.out ?_; intro c hat hwc)
              obtain rfl : c = T := by
                have h := Hat.out
                rw [hat] at h
                injection h with h
                injection h with _ h
              have wsum : IntKind.i64.wrap (bb.sum + c) = bb.sum + c := IntWalk.i64_in _ (by omega)
              have hcond : (0 < dem s low high ∧ (innerS s (fun j => (doneL s k).getD j (0, [])) high ((doneL s k).getD k (0, [])) (L.take m)).1 < ((doneL s k).getD B (0, [])).1 + dem s low high) ↔ (0 < c ∧ nb.sum < bb.sum + c) := by
                rw [hInb.1, hib.out.1, ← HT.out]; omega
              have Hcond := Lib.hid hcond
              rw [HB.out] at Hst
              clear hcond
              by_cases g1 : 0 < c
              · have e1 : decide (0 < c) = true := by simpa using g1
                by_cases g2 : nb.sum < bb.sum + c
                · have e2 : decide (nb.sum < bb.sum + c) = true := by simpa using g2
                  have Hpos := Lib.hid (Hcond.out.2 ⟨g1, g2⟩)
                  go_quiet (fail)
                  go_wp2_with fail
                  have hC7 := chg_drewN hC6 nq
                  have hN7 : (w6.drewN nq).heap[N]? = some (.cells #[.int .i64 nb.sum, .slice nb.a nb.l.length nb.cap] 143 (0, 0)) := hN6
                  have hr7 : (w6.drewN nq).heap[wr.heap.size]? = some (.cells #[.int .i64 low, .int .i64 high] 33 (0, 0)) := hr6
                  have hAb7 := hAb6.chg (F := []) (chg_drewN (SL.Chg.refl [] w6) nq) (by simp)
                  have p0 : (w6.drewN nq).cell? ⟨G, B * 2, none⟩ = some (.int .i64 bb.sum) := q0
                  have hG7 : G < (w6.drewN nq).heap.size := by have := hC7.size; omega
                  clear hC6 hN6 hAn6 hrow6 hM6 hAb6 q0 q1 x0 x1 xf y0 y1 yf hat hwc hr6 hAb hCw
                  generalize w6.drewN nq = w7 at *
                  obtain ⟨x0, x1, xf, xl7⟩ := cell2w hr7
                  have hNl : N < w7.heap.size := (Array.getElem?_eq_some_iff.1 hN7).1
                  have hBw7 : Below w.heap.size w w7 := hB4.trans ((hC5.newE hC7 (by simp; omega)).belowW hB4.size (by simp; omega))
                  have hBrow : ∀ W, SL.Chg [N] w7.drew W → RowAt W bb.a bb.l.length (rcs bb.l) := fun W h =>
                    (RowAt.chg (w := w7.drew) ⟨hAb7.rng.row.nil, hAb7.rng.row.at_⟩ h (fun x hx hm => hAb7.off x hx (by simp at hm; simp [hm]))).recap (fun hn => rcs_nil (hAb7.rng.row.nil hn).1)
                  have hroom := hAb7.room
                  have hfew := hAb7.few
                  have nG1 : ¬ G = N := by omega
                  have nR1 : ¬ wr.heap.size = N := by omega
                  have l0 : (0 : Int) ≤ bb.l.length := by omega
                  have l1 : (bb.l.length : Int) ≤ bb.cap := by omega
                  clear hAb7 hr7 g1 g2
                  apply SLG.rule0 ?hm2 [N] [101, 102, 103, 104, 105, 106, 107, 108, 109, 110, 111, 112, 113, 114, 115, 116, 117] [SLF.pq 101 [] _, SLF.pq 102 [] _, SLF.pq 103 [0, 1] _, SLF.pq 104 [2] _, SLF.pq 105 [3] _, SLF.pq 106 [] _, SLF.pq 107 [4, 5] _, SLF.pq 108 [] _, SLF.pq 109 [] _, SLF.pq 110 [8] _, SLF.pq 111 [] _, SLF.pq 112 [10] _, SLF.pq 113 [7, 9, 11] _, SLF.pq 114 [] _, SL.row 115 [13] [] 0 33 2 1 [.int .i64 low, .int .i64 high], SL.aw 116 [12, 14] [] (fun x => .ex fun q : Option Addr × Nat => .sep (.pure (x = .slice q.1 (bb.l.length + 1) q.2 ∧ bb.l.length + 1 ≤ q.2 ∧ ∀ y, q.1 = some y → G < y.block)) (.lies q.1 q.2 (rcs bb.l ++ [.int .i64 low, .int .i64 high]))), SL.aw 117 [6, 15] [15] (fun x => .ex fun q : Option Addr × Nat => .sep (.pure (x = .agg #[.int .i64 (bb.sum + c), .slice q.1 (bb.l.length + 1) q.2] ∧ bb.l.length + 1 ≤ q.2 ∧ ∀ y, q.1 = some y → G < y.block)) (.lies q.1 q.2 (rcs bb.l ++ [.int .i64 low, .int .i64 high]))), SL.aw 0 [16, 18] [16, 18] (fun _ => .ex fun q : Option Addr × Nat => .sep (.pure (bb.l.length + 1 ≤ q.2 ∧ ∀ y, q.1 = some y → G < y.block)) (.sepd (.blk 0 N 143 #[.int .i64 (bb.sum + c), .slice q.1 (bb.l.length + 1) q.2]) (.lies q.1 q.2 (rcs bb.l ++ [.int .i64 low, .int .i64 high])))), SL.blk [] [] N 143 #[.int .i64 nb.sum, .slice nb.a nb.l.length nb.cap]] [17] ?hck2 ?hkp2 (fun i => if i = 18 then [N] else []) ?hin2 ?hdj2 ?hfr2 ?ob2 ?en2
                  case hm2 => kernel_rfl
                  case hin2 => exact SL.one_held rfl rfl ⟨hN7, rfl⟩ hNl
                  case hdj2 => exact SL.one_apart
                  case hfr2 => intro us; simp only [SL.frame, SL.put']; simp; exact rfl
                  case ob2 =>
                    refine ⟨?_, ?_, ?_, ?_, ?_, ?_, ?_, ?_, ?_, ?_, ?_, ?_, ?_, ?_, ?_, ?_, ?_, ?_, trivial⟩
                    all_goals first
                      | (intro us w' Fe hG hu hd hv Kx hK
                         try dsimp only
                         simp [SL.Used, SL.pu, SL.row, SL.box, SL.rowIn, SL.boxIn, SL.boxAt, SL.boxAtIn, SLF.pq, Act.put, SL.aw_sub, SL.aw_use, SL.aw_eat, SL.aw_V, SL.aw_quiet, SL.blk] at hu hK
                         have hB5 : Below w.heap.size w w' := hBw7.trans (hG.belowF hBw7.size (by simp; omega))
                         obtain ⟨hc5, hf5⟩ := bcell hB5
                         have hs5 := hB5.size
                         obtain ⟨hc6, hf6⟩ := hG.cellsF
                         clear hv
                         refine SLF.wpo_do (SLF.wanted_free rfl) ?hd2 ?_
                         case hd2 => intro c h; cases h
                         clear hd
                         first
                           | (go_step; exact hK _ _ _ (SL.Chg.refl _ _) (by first | exact rfl | (simp only [hu]; exact rfl)) rfl (by simp) rfl)
                           | exact hK _ _ _ (SL.Chg.refl _ _) rfl rfl (by simp) rfl)
                      | skip
                    · refine SLG.ob_sp rfl rfl rfl fun us w' Fe hG hu hd Kx hK => ?_
                      try dsimp only
                      simp [SL.Used, SL.pu, SL.row, SL.box, SL.rowIn, SL.boxIn, SL.boxAt, SL.boxAtIn, SLF.pq, Act.put, SL.aw_sub, SL.aw_use, SL.aw_eat, SL.aw_V, SL.aw_quiet, SL.blk] at hu
                      have hB5 : Below w.heap.size w w' := hBw7.trans (hG.belowF hBw7.size (by simp; omega))
                      obtain ⟨hc5, hf5⟩ := bcell hB5
                      have hs5 := hB5.size
                      obtain ⟨hc6, hf6⟩ := hG.cellsF
                      refine SLF.wpo_do (SLF.wanted_free rfl) ?hd2 ?_
                      case hd2 => intro c h; cases h
                      obtain ⟨e114, _⟩ := hu
                      go_step
                      exact hK _ (.slice (some ⟨w'.heap.size, 0, none⟩) 1 1) _ _ (by simp [Act.put]; done) (.alloc _ _ _) ⟨World.ownsRow_lit w' #[.int .i64 low, .int .i64 high] 1 (by omega) (by decide) rfl, rfl⟩ (fun j hj => .inr (by simp [Value.ownBlock] at hj; subst hj; simp))
                    · refine SLG.ob_sp rfl rfl rfl fun us w' Fe hG hu hd Kx hK => ?_
                      try dsimp only
                      simp [SL.Used, SL.pu, SL.row, SL.box, SL.rowIn, SL.boxIn, SL.boxAt, SL.boxAtIn, SLF.pq, Act.put, SL.aw_sub, SL.aw_use, SL.aw_eat, SL.aw_V, SL.aw_quiet, SL.blk] at hu
                      have hB5 : Below w.heap.size w w' := hBw7.trans (hG.belowF hBw7.size (by simp; omega))
                      obtain ⟨hc5, hf5⟩ := bcell hB5
                      have hs5 := hB5.size
                      obtain ⟨hc6, hf6⟩ := hG.cellsF
                      refine SLF.wpo_do (SLF.wanted_free rfl) ?hd2 ?_
                      case hd2 => intro c h; cases h
                      obtain ⟨⟨e113, _⟩, ho, e14⟩ := hu
                      obtain ⟨ra, rc, e115, _⟩ := owns_slice ho
                      rw [e115] at ho
                      have hs7 : w7.heap.size ≤ w'.heap.size := hG.size
                      refine wp_app_full elemR _ _ rfl e113 (hBrow _ hG) (rcs_length bb.l) e115 (RowAt.of_owns ho) rfl (by unfold maxLen; omega) (by omega) ?_
                      intro a' c' w8 hat8 hb8 hcap8 hcase
                      have ha' : a' = some ⟨w'.heap.size, 0, none⟩ := by
                        rcases hcase with ⟨_, h, _⟩ | h
                        · cases h
                        · exact h
                      refine hK _ _ w8 _ (by simp [Act.put]; done) (.of_below hb8) (SL.aw_in ⟨(a', c'), _, _, ⟨⟨rfl, hcap8, fun y hy => ?_⟩, rfl⟩, ⟨hat8, rfl⟩, rfl⟩) (fun j hj => .inr ?_)
                      · rw [ha'] at hy; cases hy; simp; omega
                      · rw [ha'] at hj
                        simp [Value.ownBlock] at hj
                        subst hj
                        have := (hat8.at_ _ ha').2.1
                        exact ⟨Nat.le_refl _, this⟩
                    · refine SLG.ob_sp rfl rfl rfl fun us w' Fe hG hu hd Kx hK => ?_
                      try dsimp only
                      simp [SL.Used, SL.pu, SL.row, SL.box, SL.rowIn, SL.boxIn, SL.boxAt, SL.boxAtIn, SLF.pq, Act.put, SL.aw_sub, SL.aw_use, SL.aw_eat, SL.aw_V, SL.aw_quiet, SL.blk] at hu
                      have hB5 : Below w.heap.size w w' := hBw7.trans (hG.belowF hBw7.size (by simp; omega))
                      obtain ⟨hc5, hf5⟩ := bcell hB5
                      have hs5 := hB5.size
                      obtain ⟨hc6, hf6⟩ := hG.cellsF
                      refine SLF.wpo_do (SLF.wanted_free rfl) ?hd2 ?_
                      case hd2 => intro c h; cases h
                      obtain ⟨⟨e107, _⟩, h15⟩ := hu
                      obtain ⟨q, F1, F2, ⟨⟨hx, hq1, hq2⟩, rfl⟩, ⟨hat, rfl⟩, e15⟩ := SL.aw_out h15
                      go_step
                      exact hK _ _ _ _ (by simp [Act.put]; done) (SL.Chg.refl _ _) (SL.aw_in ⟨q, _, _, ⟨⟨rfl, hq1, hq2⟩, rfl⟩, ⟨hat, rfl⟩, rfl⟩) (fun j hj => .inl (by simpa [SL.aw_eat, e15] using hj))
                    · refine SLG.ob_no rfl rfl rfl fun us w' Fe hG hu hd Kx hK => ?_
                      try dsimp only
                      simp [SL.Used, SL.pu, SL.row, SL.box, SL.rowIn, SL.boxIn, SL.boxAt, SL.boxAtIn, SLF.pq, Act.put, SL.aw_sub, SL.aw_use, SL.aw_eat, SL.aw_V, SL.aw_quiet, SL.blk] at hu
                      have hB5 : Below w.heap.size w w' := hBw7.trans (hG.belowF hBw7.size (by simp; omega))
                      obtain ⟨hc5, hf5⟩ := bcell hB5
                      have hs5 := hB5.size
                      obtain ⟨hc6, hf6⟩ := hG.cellsF
                      refine SLF.wpo_do (SLF.wanted_free rfl) ?hd2 ?_
                      case hd2 => intro c h; cases h
                      obtain ⟨h16, hbl, e18⟩ := hu
                      obtain ⟨q, F1, F2, ⟨⟨hx, hq1, hq2⟩, rfl⟩, ⟨hat, rfl⟩, e16⟩ := SL.aw_out h16
                      have hd1 := hd 16 18 (by simp [SL.aw_use]) (by simp [SL.aw_use]) (by simp)
                      rw [e16, e18] at hd1
                      have n1 : N ∉ (Value.slice q.1 0 q.2).ownBlock.toList := fun h => hd1 N (by simpa using h) (by simp)
                      obtain ⟨z0, z1, zf, zl⟩ := cell2w hbl
                      go_step
                      refine hK _ _ (SLG.chg_set2 _ (by simp [SL.aw_eat, e18]) ..) (SL.aw_in ⟨q, _, _, ⟨⟨hq1, hq2⟩, rfl⟩, ⟨_, _, ⟨Nat.zero_le _, SLG.heap_set2 hbl .., rfl⟩, ⟨hat.of_same (by simp [World.setCell]) (fun x hx => ?_), rfl⟩, fun j h1 h2 => n1 (by simp at h1; subst h1; exact h2), rfl⟩, rfl⟩) ?_
                      · have hxN : N ≠ x.block := fun e => n1 (by rw [hx, e]; simp [Value.ownBlock])
                        rw [heap_setC _ _ _ hxN, heap_setC _ _ _ hxN]
                      · intro j hj
                        left
                        simp [SL.aw_eat, e16, e18] at hj ⊢
                        grind
                  case hck2 => kernel_rfl
                  case hkp2 => kernel_rfl
                  intro us w8 Fs hG hu hbd hd
                  simp [SL.Used, SL.aw_sub] at hu
                  obtain ⟨q, F1, F2, ⟨⟨hq1, hq2⟩, rfl⟩, ⟨F3, F4, ⟨_, hN8, rfl⟩, ⟨hlie, rfl⟩, hap, rfl⟩, _⟩ := SL.aw_out hu
                  have hC8 : SL.Chg [N] w5 w8 := hC7.trans ⟨hG.os, hG.tape, hG.output, hG.size, hG.block⟩
                  have hA8 : BstAt w8 (k + 1) [G, N] ⟨bb.sum + c, q.1, q.2, bb.l ++ [(low, high)]⟩ :=
                    ⟨⟨rfl, by simp; omega, by rw [rcs_append, rcs_one1]; exact hlie⟩, by simpa using hq1, fun x hx hm => by
                      simp at hm
                      rcases hm with hm | hm
                      · have := hq2 x hx; omega
                      · exact hap N (by simp) (own_at hx hm), ⟨by simp only; omega, by simp only; omega⟩, by simp; omega⟩
                  have HF := Lib.hid (And.intro hC8 (And.intro hN8 hA8))
                  clear hu hbd hd hG hN7 hC7 hBrow hlie hap hN8 hC8 hA8 x0 x1 xf p0
                  go_wp2_with fail
                  go_roundw
                  case rel => exact ⟨m + 1, by omega, by go_num, HF.out.1, ⟨bb.sum + c, q.1, q.2, bb.l ++ [(low, high)]⟩, by simpa using HF.out.2.1, by
                    rw [Hst.out, if_pos Hpos.out]
                    exact ⟨by simp only; rw [hib.out.1, ← HT.out]; omega, by simp only; rw [hib.out.2]⟩, HF.out.2.2⟩
                  case measure => simp [RowKit.intOf]; omega
                · have e2 : decide (nb.sum < bb.sum + c) = false := by simpa using g2
                  have Hneg := Lib.hid (fun h => g2 (Hcond.out.1 h).2)
                  clear g1 g2
                  go_quiet (fail)
                  have HF := Lib.hid (And.intro (chg_drewN hC6 nq) (And.intro hN6 (hAn6.chg (F := []) (chg_drewN (SL.Chg.refl [] w6) nq) (by simp))))
                  clear hC6 hN6 hAn6 hrow6 hM6 hAb6 q0 q1 x0 x1 xf y0 y1 yf hat hwc hr6
                  go_wp2_with fail
                  go_roundw
                  case rel => exact ⟨m + 1, by omega, by go_num, HF.out.1, nb, HF.out.2.1, by rw [Hst.out, if_neg Hneg.out]; exact hInb, HF.out.2.2⟩
                  case measure => simp [RowKit.intOf]; omega
              · have e1 : decide (0 < c) = false := by simpa using g1
                have Hneg := Lib.hid (fun h => g1 (Hcond.out.1 h).1)
                clear g1
                go_quiet (fail)
                have HF := Lib.hid (And.intro (chg_drewN hC6 nq) (And.intro hN6 (hAn6.chg (F := []) (chg_drewN (SL.Chg.refl [] w6) nq) (by simp))))
                clear hC6 hN6 hAn6 hrow6 hM6 hAb6 q0 q1 x0 x1 xf y0 y1 yf hat hwc hr6
                go_wp2_with fail
                go_roundw
                case rel => exact ⟨m + 1, by omega, by go_num, HF.out.1, nb, HF.out.2.1, by rw [Hst.out, if_neg Hneg.out]; exact hInb, HF.out.2.2⟩
                case measure => simp [RowKit.intOf]; omega
            · have hm2 : m = L.length := by omega
              subst hm2
              rw [List.take_length] at hInb
              have hkB1 : k + 1 < bs.length := by have := HBL.out; omega
              have i8 : (0 : Int) ≤ (k : Int) + 1 := by omega
              have i9 : (k : Int) + 1 < (H.length : Int) + 1 := by omega
              have i10 : ((k : Int) + 1).toNat = k + 1 := by omega
              have i11 : IntKind.i64.wrap ((k : Int) + 1) = (k : Int) + 1 := IntWalk.i64_in _ (by omega)
              obtain ⟨y0, y1, yf, yl⟩ := cell2w hNb
              have st0 := hrowr.stored ((k + 1) * 2) (.int .i64 nb.sum)
              have st1 := st0.1.stored ((k + 1) * 2 + 1) (.slice nb.a nb.l.length nb.cap)
              have c0 : ∃ u, wr.cell? ⟨G, (k + 1) * 2, none⟩ = some u := ⟨_, (hrowr.cellAt ((k + 1) * 2) (by omega)).trans (bsc_get0 hkB1)⟩
              have c1 : ∃ u, wr.cell? ⟨G, (k + 1) * 2 + 1, none⟩ = some u := ⟨_, (hrowr.cellAt ((k + 1) * 2 + 1) (by omega)).trans (bsc_get1 hkB1)⟩
              obtain ⟨u0, c0⟩ := c0
              obtain ⟨u1, c1⟩ := c1
              have f0 := hrowr.frozenAt ((k + 1) * 2)
              have f1 := hrowr.frozenAt ((k + 1) * 2 + 1)
              have hCs : SL.Chg [G] wr ((wr.setCell ⟨G, (k + 1) * 2, none⟩ (.int .i64 nb.sum)).setCell ⟨G, (k + 1) * 2 + 1, none⟩ (.slice nb.a nb.l.length nb.cap)) := (SL.Chg.setCell _ (by simp) _).trans (.setCell _ (by simp) _)
              have hrel9 : ∀ j, j ≤ H.length → Bst.is ((bs.set (k + 1) nb).getD j default) ((doneL s (k + 1)).getD j (0, [])) := fun j hj => by
                rw [getD_setB hkB1, doneL_step, HL.out, HH.out, Hhigh.out]
                by_cases e : k + 1 = j
                · rw [if_pos e, if_pos e.symm]; exact hInb
                · rw [if_neg e, if_neg (fun h => e h.symm)]; exact HR.out j hj
              have hA9 : ∀ b' ∈ bs.set (k + 1) nb, BstAt ((wr.setCell ⟨G, (k + 1) * 2, none⟩ (.int .i64 nb.sum)).setCell ⟨G, (k + 1) * 2 + 1, none⟩ (.slice nb.a nb.l.length nb.cap)) (k + 1) [G] b' := fun b' hb' => by
                rcases List.mem_or_eq_of_mem_set hb' with h | rfl
                · exact (((hA5 _ h).chg hCn (by simp)).chg hCs (by simp)).mono (by omega) (fun x _ hm h2 => hm (by simp at h2; simp [h2]))
                · exact (hAnb.chg hCs (by simp)).mono (Nat.le_refl _) (fun x _ hm h2 => hm (by simp at h2; simp [h2]))
              have HF := Lib.hid (And.intro ((hC5.newE hCn (by simp; omega)).trans hCs) (And.intro hrel9 (And.intro hA9 (And.intro (by rw [bsc_set hkB1]; exact st1.1 : World.ownsRow ((wr.setCell ⟨G, (k + 1) * 2, none⟩ (.int .i64 nb.sum)).setCell ⟨G, (k + 1) * 2 + 1, none⟩ (.slice nb.a nb.l.length nb.cap)) G 143 2 (.slice (some ⟨G, 0, none⟩) (H.length + 1) (H.length + 1)) (H.length + 1) (bsc (bs.set (k + 1) nb))) (by rw [List.length_set]; exact HBL.out : (bs.set (k + 1) nb).length = H.length + 1)))))
              have hGr9 : G < wr.heap.size := by have := hCn.size; have := hC5.size; omega
              clear st0 st1 hCs hrel9 hA9 hAnb hInb hrowr hA5 hCn
              go_wp2_with fail
              go_roundw
              case rel => exact ⟨k + 1, by omega, by go_num, HF.out.1, bs.set (k + 1) nb, HF.out.2.2.2.2, HF.out.2.2.2.1, HF.out.2.1, HF.out.2.2.1⟩
              case measure => simp [RowKit.intOf]; omega
        · have hk2 : k = H.length := by omega
          subst hk2
          have hkB2 : H.length < bs.length := by have := HBL.out; omega
          have r1 := (hrow.cellAt (H.length * 2 + 1) (by omega)).trans (bsc_get1 hkB2)
          have hbk := hats _ (Bst.mem hkB2)
          have hik := hrel H.length (Nat.le_refl _)
          have hshow : (doneL s H.length).getD H.length (0, []) = DD s (hisL s).length := by rw [HH.out]; rfl
          rw [hshow] at hik
          obtain ⟨b0, hb0⟩ : ∃ x, bs.getD H.length default = x := ⟨_, rfl⟩
          rw [hb0] at r1 hbk hik
          have hBw : Below w.heap.size w wr := hB4.trans (hC.belowW hB4.size (by simp; omega))
          have i2 : (H.length : Int) < (H.length : Int) + 1 := by omega
          have Hbk := Lib.hid (And.intro hbk hik)
          clear hb0 hrel hats hbl hbk hik hshow hrow hkB
          go_wp2_with fail
          rw [← HQ.out]
          have hl : b0.l = showL s := Hbk.out.2.2
          have hr := Hbk.out.1.rng
          rw [hl] at hr
          exact ⟨b0.a, b0.cap, (by show Ending.returned (.slice b0.a b0.l.length b0.cap) = _; rw [hl]), hBw, hr⟩
end Go.Proofs.YtodkbfbbpfghiaaGreat
namespace Go.Proofs.YtodkbfbbpfghiaaGreat
open Go.RowKit Go.Shelf
set_option maxHeartbeats 4000000
set_option maxRecDepth 100000
theorem sumD_part (s : List Pn) (l : List (Int × Int)) (k : Nat) : sumD s (l.take k) ≤ sumD s l := by
  have h : sumD s l = sumD s (l.take k) + sumD s (l.drop k) := by
    unfold sumD
    rw [← List.sum_append, ← List.map_append, List.take_append_drop]
  omega
theorem wleast (a : Option Addr) (ca : Nat) (f : Option Addr) (cf n : Nat) (s : List Pn) (w : World) (hs : SpansAt w a ca f cf n s) (hn : s.length ≤ 100) (hok : OkS s) :
    Calls Tryz.prog 80 #[spV a ca f cf n] w fun e w' => e = .returned (.int .i64 (leastN s : Nat)) ∧ Below w.heap.size w w' := by
  obtain rfl := hs.len
  have hS := fun W h => wshow a ca f cf s.length s W h hn hok
  have hD := fun lo hi W h => wdemand a ca f cf s.length s lo hi W h (by omega)
  have hsum := showL_sum hok
  have hle := least_le_len hok
  have htk := fun k => sumD_part s (showL s) k
  have hst := fun k (h : k < (showL s).length) => @sumD_take s (showL s) k h
  rw [hsum] at htk
  generalize showL s = l at *
  generalize leastN s = T at *
  have Hsum := Lib.hid hsum
  have Htk := Lib.hid htk
  have Hst := Lib.hid hst
  have hB1 := one_alloc w (Obj.cells #[.slice a s.length ca, .slice f s.length cf] 83)
  clear hsum htk hst
  unfold spV at *
  go_enter Tryz.func80, Tryz.ntmps80
  go_wp2_with (go_at_call 94; (with_reducible refine (hS _ (hs.below hB1)).mono ?_); rintro e w2 ⟨la, lc, rfl, hb2, hr2⟩; have hz2 := lt_size hb2 (b := w.heap.size) (by first | assumption | omega | (simp; done) | (simp; omega)))
  have hB2 : Below w.heap.size w w2 := hB1.ch2 hb2
  have p0 : w2.cell? ⟨w.heap.size, 0, none⟩ = some (.slice a s.length ca) := by rw [(bcell hb2).1 _ _ (by simp)]; simp [go_sem]
  have p1 : w2.cell? ⟨w.heap.size, 1, none⟩ = some (.slice f s.length cf) := by rw [(bcell hb2).1 _ _ (by simp)]; simp [go_sem]
  have hlen := hr2.small
  clear hb2 hS
  go_loopw [3, 9] (fun t i wr => ∃ k : Nat, k ≤ l.length ∧ i = .int .i64 k ∧ t = .int .i64 (sumD s (l.take k) : Nat) ∧ Below w2.heap.size w2 wr) (fun _ i _ => l.length - (RowKit.intOf i).toNat)
  case atStart => exact ⟨0, Nat.zero_le _, rfl, rfl, Below.refl _ _⟩
  case round =>
    obtain ⟨k, hk, rfl, rfl, hB⟩ := hrel
    have hnn : (0 : Int) ≤ k := by omega
    by_cases hlt : k < l.length
    · have i1 : (k : Int) < (l.length : Int) := by omega
      obtain ⟨b, o, rfl, _, d0, d1⟩ := (hr2.below hB).get hlt
      have Hs := Lib.hid (Hst.out k hlt)
      have b1 := Htk.out k
      have b2 := Htk.out (k + 1)
      rw [Hs.out] at b2
      generalize sumD s (l.take k) = A at *
      generalize l.getD k default = r at *
      obtain ⟨lo, hi⟩ := r
      simp only at d0 d1 Hs b2
      have hDr := hD lo hi
      generalize dem s lo hi = D at *
      have hzr : w.heap.size < wr.heap.size := by have := hB.size; omega
      have hal := one_alloc wr (Obj.cells #[.int .i64 lo, .int .i64 hi] 33)
      have q0 := ((bcell hB).1 _ 0 hz2).trans p0
      have q1 := ((bcell hB).1 _ 1 hz2).trans p1
      have hsa := (hs.below (hB2.ch2 hB)).below hal
      have j1 : (0 : Int) ≤ (A : Int) := by omega
      have j2 : (0 : Int) ≤ (D : Int) := by omega
      have j3 : (A : Int) + D ≤ 100 := by omega
      have Hj := Lib.hid j3
      go_wp2_with (go_at_call 76; (with_reducible refine (hDr _ hsa).mono ?_); rintro e w4 ⟨rfl, hb4⟩)
      go_roundw
      case rel => exact ⟨k + 1, by omega, by go_num, by rw [Hs.out]; go_num, hB.ch2 (hal.ch2 hb4)⟩
      case measure => simp [RowKit.intOf]; omega
    · have hk2 : k = l.length := by omega
      subst hk2
      rw [List.take_length] at *
      go_wp2_with fail
      go_ret
      exact ⟨ret_int (by rw [Hsum.out]), hB2.ch2 hB⟩
def Cs.leastI (c : Cs) : Int := if c.chk = 0 then (leastN c.s : Nat) else 0
theorem wLeast (c : Cs) (w : World) (hc : CsAt w c) :
    Calls Tryz.prog 31 #[c.v] w fun e w' => e = .returned (.tuple #[.int .i64 c.leastI, .int .i64 c.chk]) ∧ Below w.heap.size w w' := by
  have hC := fun w1 (h : CsAt w1 c) => wlaid0 c w1 h
  have hr : c.leastI = if c.chk = 0 then (leastN c.s : Int) else 0 := rfl
  have hz := @Cs.chk_zero c
  generalize c.leastI = R at *
  generalize c.chk = E at *
  by_cases h0 : E = 0
  · subst h0
    obtain ⟨hm, hok, hsl⟩ := (hz.1 rfl).many'
    have hO := fun w1 a ca f cf (hs : SpansAt w1 a ca f cf c.ps.length c.s) => wleast a ca f cf _ c.s w1 hs (by omega) hok
    simp only [ne_eq, not_true, false_implies, true_and, true_implies] at hC
    rw [if_pos rfl] at hr
    rw [← hr] at hO
    unfold spV at hO
    clear hz hr hm hok hsl
    obtain ⟨ware, lim, byr, a, cap, ps⟩ := c
    simp only [Cs.v] at *
    have hB0 := one_alloc w (Obj.cells #[.string ware, .int .i64 lim, .int .i64 byr, .slice a ps.length cap] 24)
    have hbx := hc.below hB0
    go_enter Tryz.func31, Tryz.ntmps31
    go_wp2_with (first
      | (go_at_call 75; (with_reducible refine (hC _ hbx).mono ?_); rintro e w1 ⟨N, a1, ca, f1, cf, rfl, hb1, hN, hT⟩; obtain ⟨t0, t1, t2, t3, t4, t5⟩ := hT.get; have hNl := hT.lt)
      | (go_at_call 80; (with_reducible refine (hO _ _ _ _ _ hT.sp).mono ?_); rintro e w2 ⟨rfl, hb2⟩))
    go_ret2
    exact ⟨rfl, (hB0.ch2 hb1).ch2 hb2⟩
  · have h2 : (E != 0) = true := by simpa using h0
    rw [if_neg h0] at hr
    subst hr
    have hC2 := fun w1 h => (hC w1 h).mono fun e w' hh => hh.1 h0
    clear hz h0 hC
    obtain ⟨ware, lim, byr, a, cap, ps⟩ := c
    simp only [Cs.v] at *
    have hB0 := one_alloc w (Obj.cells #[.string ware, .int .i64 lim, .int .i64 byr, .slice a ps.length cap] 24)
    have hbx := hc.below hB0
    go_enter Tryz.func31, Tryz.ntmps31
    go_wp2_with (go_at_call 75; (with_reducible refine (hC2 _ hbx).mono ?_); rintro e w1 ⟨rfl, hb1⟩)
    go_ret2
    exact ⟨rfl, hB0.ch2 hb1⟩
/-- Ranges, and an error. -/
def RngPost (w : World) (l : List (Int × Int)) (E : Int) (e : Ending) (w' : World) : Prop := ∃ a k, e = .returned (.tuple #[.slice a l.length k, .int .i64 E]) ∧ Below w.heap.size w w' ∧ RngsAt w' a l.length k l
end Go.Proofs.YtodkbfbbpfghiaaGreat
