/-
  The law Commons, walked, and its statement.
-/
import Derived.Test.YtodkbfbbpfghiaaGreatPc25
import Derived.Test.YtodkbfbbpfghiaaGreatPc12
import Derived.Test.YtodkbfbbpfghiaaGreatRows
import Derived.OpenShut
set_option linter.unusedSimpArgs false
set_option linter.unusedVariables false
set_option linter.unnecessarySimpa false
namespace Go.Proofs.YtodkbfbbpfghiaaGreat
open Go.RowKit Go.Shelf Go.Lib
set_option maxHeartbeats 8000000
set_option maxRecDepth 100000
/-- No number ahead of the i-th, among the first k, is the i-th. -/
def fstB (xs : List Int) (i k : Nat) : Bool := (List.range k).all fun j => xs.getD j 0 != xs.getD i 0
/-- How many different parts with a foot there are among the first n. -/
def feetN (s : List Pn) (xs : List Int) (n : Nat) : Nat := ((List.range n).filter fun i => fstB xs i i && (s.getD (xs.getD i 0).toNat default).ft).length
theorem fstB_succ (xs : List Int) (i k : Nat) : fstB xs i (k + 1) = (fstB xs i k && (xs.getD k 0 != xs.getD i 0)) := by
  unfold fstB
  rw [List.range_succ, List.all_append]
  simp
theorem feetN_succ (s : List Pn) (xs : List Int) (n : Nat) : feetN s xs (n + 1) = feetN s xs n + if fstB xs n n && (s.getD (xs.getD n 0).toNat default).ft then 1 else 0 := by
  unfold feetN
  rw [List.range_succ, List.filter_append, List.length_append]
  congr 1
  simp only [List.filter_cons, List.filter_nil]
  split <;> rfl
theorem feetN_le (s : List Pn) (xs : List Int) (n : Nat) : feetN s xs n ≤ n := by
  unfold feetN
  have := List.length_filter_le (fun i => fstB xs i i && (s.getD (xs.getD i 0).toNat default).ft) (List.range n)
  rwa [List.length_range] at this
theorem natL_getD (xs : List Int) (k : Nat) : (natL xs).getD k 0 = (xs.getD k 0).toNat := by
  unfold natL
  rw [List.getD_eq_getElem?_getD, List.getD_eq_getElem?_getD, List.getElem?_map]
  cases xs[k]? <;> rfl
theorem getD_pos {xs : List Int} (hx : ∀ x ∈ xs, 0 ≤ x) (k : Nat) : 0 ≤ xs.getD k 0 := by
  rw [List.getD_eq_getElem?_getD]
  cases h : xs[k]? with
  | none => simp
  | some y => exact hx y (List.mem_of_getElem? h)
theorem feetN_eq {s : List Pn} {xs : List Int} (hx : ∀ x ∈ xs, 0 ≤ x) : feetN s xs xs.length = feetL s (natL xs) := by
  have hlen : (natL xs).length = xs.length := by unfold natL; rw [List.length_map]
  unfold feetN feetL fstB
  rw [hlen]
  congr 1
  refine List.filter_congr fun i _ => ?_
  congr 1
  · rw [Bool.eq_iff_iff, List.all_eq_true, List.all_eq_true]
    refine forall_congr' fun k => forall_congr' fun _ => ?_
    rw [natL_getD, natL_getD]
    have h1 := getD_pos hx k
    have h2 := getD_pos hx i
    simp only [bne_iff_ne, ne_eq]
    omega
  · rw [natL_getD]
theorem one_com {c : Cs} {xs : List Int} (h : c.ask xs = 0) : c.one xs = ((c.com xs).2 && decide (feetN c.s xs xs.length ≤ 1)) := by
  obtain ⟨hk, hx⟩ := Cs.ask_zero h
  obtain ⟨_, hok, hsl⟩ := hk.many'
  rw [feetN_eq fun x hm => (hx x hm).1]
  unfold Cs.one
  rw [h, oneB_law hok (fun i hi => by
    unfold natL at hi
    obtain ⟨y, hy, e⟩ := List.mem_map.1 hi
    have := hx y hy
    omega)]
  unfold Cs.com
  simp only [h, decide_true, Bool.true_and, true_and]
  split <;> rename_i h1 <;> simp [h1]
theorem law_commons (c : Cs) (al : Option Addr) (m cl : Nat) (xs : List Int) (w : World) (hc : CsAt w c) (hcr : c.ps.length ≤ c.cap) (hl : IntsAt w al m cl xs) (hroom : xs.length ≤ cl) :
    Calls Tryz.prog 12 #[c.v, .slice al m cl] w fun e w' => e = .returned (.bool true) ∧ Below w.heap.size w w' := by
  have fFew := fun W (h : CsAt W c) => lfew c W h
  unfold BoolAny at fFew
  have fC := fun W (h : CsAt W c) (h2 : IntsAt W al m cl xs) => wCommon c al m cl xs W h h2
  have gC := fun W (h : CsAt W c) (h2 : IntsAt W al m cl xs) => r6Common c al m cl xs W h h2
  have fO := fun W (h : CsAt W c) (h2 : IntsAt W al m cl xs) => wOne c al m cl xs W h h2 hroom
  have gO := fun W (h : CsAt W c) (h2 : IntsAt W al m cl xs) => r6One c al m cl xs W h h2
  have hOne := @one_com c xs
  have hAsk := @Cs.ask_zero c xs
  have hm := hl.len
  simp only [Cs.v] at fFew fC gC fO gO ⊢
  generalize c.com xs = CM at *
  obtain ⟨⟨L1, L2⟩, IS⟩ := CM
  simp only at fC gC hOne
  generalize c.one xs = ON at *
  generalize c.ask xs = E at *
  have e1 : (L1 == L1) = true := by simp
  have e2 : (L2 == L2) = true := by simp
  have e3 : (IS != IS) = false := by simp
  have e4 : (ON != ON) = false := by simp
  have e5 : (E != E) = false := by simp
  have HM := Lib.hid hm
  have XL0 := hl.below (one_alloc w (Obj.cells #[.string c.ware, .int .i64 c.lim, .int .i64 c.byr, .slice c.a c.ps.length c.cap] 24))
  have XL := Lib.hid XL0
  clear hl hm XL0
  have S0 := LS.start w hc
  obtain ⟨y0, y1, y2, y3, yl⟩ := S0.cells
  have S0 := Lib.hid S0
  by_cases q1 : m ≤ 60
  · have q1' : decide ((60 : Int) < (m : Int)) = false := by simp; omega
    by_cases h0 : E = 0
    · subst h0
      obtain ⟨hk, hxs⟩ := hAsk rfl
      have hON := hOne rfl
      have hFl := feetN_le c.s xs xs.length
      obtain ⟨_, _, hsl⟩ := hk.many'
      have HXS := Lib.hid hxs
      have HON := Lib.hid hON
      have HFL := Lib.hid hFl
      have HSL : Hid (∀ X, X < c.ps.length → (c.ps.getD X default).ft = (c.s.getD X default).ft) := Lib.hid fun X hX => by show _ = ((pns c.ps).getD X default).ft; rw [pns_get _ hX]; rfl
      clear hAsk hOne hON hFl hxs hk hsl
      go_enter Tryz.func12, Tryz.ntmps12
      go_wp2_with (first
        | (go_at_call 16; (with_reducible refine (fFew _ S0.out.c1).mono ?_); rintro e w1 ⟨b, rfl, hb1⟩; have S1 := (S0.out).ch hb1; clear y0 y1 y2 y3 yl; obtain ⟨y0, y1, y2, y3, yl⟩ := S1.cells; have S1 := Lib.hid S1; have XL := Lib.hid (XL.out.below hb1); cases b; clear hb1)
        | (go_at_call 47; (with_reducible refine (fC _ S1.out.c1 XL.out).mono ?_); rintro e w2 ⟨rfl, hb2⟩; have S2 := (S1.out).ch hb2; clear y0 y1 y2 y3 yl; obtain ⟨y0, y1, y2, y3, yl⟩ := S2.cells; have S2 := Lib.hid S2; have XL := Lib.hid (XL.out.below hb2); clear hb2)
        | (go_at_call 48; (with_reducible refine (gC _ (S2.out.al _).c1 (XL.out.below (one_alloc _ _))).mono ?_); rintro e w3 ⟨rfl, hb3⟩; have S3 := ((S2.out.al _)).ch hb3; clear y0 y1 y2 y3 yl; obtain ⟨y0, y1, y2, y3, yl⟩ := S3.cells; have S3 := Lib.hid S3; have XL := Lib.hid ((XL.out.below (one_alloc _ _)).below hb3); have ZS := Lib.hid ((HB.new w2 #[.int .i64 L1, .int .i64 L2] 33).below hb3); clear hb3)
        | (go_at_call 49; (with_reducible refine (fO _ (S3.out.al _).c1 (XL.out.below (one_alloc _ _))).mono ?_); rintro e w4 ⟨rfl, hb4⟩; have S4 := ((S3.out.al _)).ch hb4; clear y0 y1 y2 y3 yl; obtain ⟨y0, y1, y2, y3, yl⟩ := S4.cells; have S4 := Lib.hid S4; have XL := Lib.hid ((XL.out.below (one_alloc _ _)).below hb4); have ZS := Lib.hid ((ZS.out.below (one_alloc _ _)).below hb4); have ZT := Lib.hid ((HB.new w3 #[.int .i64 L1, .int .i64 L2] 33).below hb4); clear hb4)
        | (go_at_call 50; (with_reducible refine (gO _ S4.out.c1 XL.out).mono ?_); rintro e w5 ⟨rfl, hb5⟩; have S5 := (S4.out).ch hb5; clear y0 y1 y2 y3 yl; obtain ⟨y0, y1, y2, y3, yl⟩ := S5.cells; have S5 := Lib.hid S5; have XL := Lib.hid (XL.out.below hb5); have ZS := Lib.hid (ZS.out.below hb5); have ZT := Lib.hid (ZT.out.below hb5); obtain ⟨z0, z1, zf, zl⟩ := cell2w ZS.out; obtain ⟨t0, t1, tf, tl⟩ := cell2w ZT.out; clear hb5)
        | (go_at_call 17; (with_reducible refine (ltold _).mono ?_); rintro e wT ⟨rfl, hbT⟩))
      · go_ret
        exact ⟨rfl, S1.out.below.ch2 hbT⟩
      have hmx : m = xs.length := HM.out
      have HMX := Lib.hid hmx
      clear hmx
      have hXL := XL
      clear z0 z1 zf zl t0 t1 tf tl ZS ZT e1 e2 e3 e4 e5
      clear XL
      go_loopw [15, 16] (fun fe i wr => ∃ k : Nat, k ≤ m ∧ fe = .int .i64 (feetN c.s xs k) ∧ i = .int .i64 k ∧ Below w5.heap.size w5 wr) (fun _ i _ => m - (RowKit.intOf i).toNat)
      case atStart => exact ⟨0, Nat.zero_le _, rfl, rfl, Below.refl _ _⟩
      case round =>
        obtain ⟨i, hi', rfl, rfl, hB⟩ := hrel
        have hnn : (0 : Int) ≤ i := by omega
        by_cases hlt : i < m
        · have i1 : (i : Int) < (m : Int) := by omega
          obtain ⟨F, hF⟩ : ∃ F, feetN c.s xs i = F := ⟨_, rfl⟩
          have hFi := feetN_le c.s xs i
          rw [hF] at hFi ⊢
          have HFi := Lib.hid hFi
          have HF := Lib.hid hF
          clear hF hFi
          go_wp2_with fail
          go_loopw [17, 18] (fun fs j wr2 => ∃ k : Nat, k ≤ i ∧ fs = .bool (fstB xs i k) ∧ j = .int .i64 k ∧ Below w5.heap.size w5 wr2) (fun _ j _ => i - (RowKit.intOf j).toNat)
          case atStart => exact ⟨0, Nat.zero_le _, rfl, rfl, hB⟩
          case round =>
            clear hB
            obtain ⟨k, hk', rfl, rfl, hB⟩ := hrel
            have hkn : (0 : Int) ≤ k := by omega
            have XR := Lib.hid (hXL.out.below hB)
            have SR := Lib.hid (S5.out.ch hB)
            obtain ⟨b, o, rfl, hbl, d0⟩ := XR.out.get (i := i) (by have := HMX.out; omega)
            obtain ⟨x, hx⟩ : ∃ x, xs.getD i 0 = x := ⟨_, rfl⟩
            rw [hx] at d0
            have Hx := Lib.hid hx
            clear hx
            by_cases hlk : k < i
            · have k1 : (k : Int) < (i : Int) := by omega
              have k2 : (k : Int) < (m : Int) := by omega
              obtain ⟨b', o', e, _, d1⟩ := XR.out.get (i := k) (by have := HMX.out; omega)
              simp at e
              obtain ⟨rfl, rfl⟩ := e
              have HS := Lib.hid (fstB_succ xs i k)
              obtain ⟨y, hy⟩ : ∃ y, xs.getD k 0 = y := ⟨_, rfl⟩
              obtain ⟨B, hBB⟩ : ∃ B, fstB xs i k = B := ⟨_, rfl⟩
              rw [hy] at d1
              rw [hBB]
              have Hy := Lib.hid hy
              have HBB := Lib.hid hBB
              obtain ⟨NB, hNB⟩ : ∃ NB, (y != x) = NB := ⟨_, rfl⟩
              have HNB := Lib.hid hNB
              clear hy hBB y0 y1 y2 y3 yl
              cases B
              · go_wp2_with fail
                apply SLG.rule0 ?hm1 [] [96, 97, 98, 99, 100, 101, 102, 103, 104, 105, 106, 107, 17] [SL.pu 96 [13] (.bool false), SLF.pq 97 [0] (.bool false), SLF.pq 98 [1] (undef), SLF.pq 99 [1] (undef), SLF.pq 100 [1, 2, 3] (undef), SLF.pq 101 [1, 4] (undef), SLF.pq 102 [1] (undef), SLF.pq 103 [1] (undef), SLF.pq 104 [1, 6, 7] (undef), SLF.pq 105 [1, 8] (undef), SLF.pq 106 [1, 5, 9] (undef), SLF.pq 107 [1, 10] (.bool false), { SL.pu 17 [11, 13] (.bool false) with eat := [13] }, SL.pu 17 [] (.bool false)] [12] ?hck1 ?hkp1 (fun _ => []) ?hin1 ?hdj1 ?hfr1 ?ob1 ?en1
                case hm1 => kernel_rfl
                case hin1 => exact (SL.pu_held rfl rfl ⟨rfl, rfl⟩)
                case hdj1 => simp
                case hfr1 => intro us; simp only [SL.frame, SL.put']; simp; exact rfl
                case ob1 =>
                  refine ⟨?_, ?_, ?_, ?_, ?_, ?_, ?_, ?_, ?_, ?_, ?_, ?_, ?_, trivial⟩
                  iterate 1 rotate_left
                  iterate 11
                    focus
                      as_aux_lemma =>
                        intro us w' Fe hG hu hd hv Kx hK
                        try dsimp only
                        simp [SL.Used, SL.pu, SL.row, SL.box, SL.rowIn, SL.boxIn, SL.boxAt, SL.boxAtIn, SLF.pq, Act.put, SL.aw_sub, SL.aw_use, SL.aw_eat, SL.aw_V, SL.aw_quiet] at hu hK
                        have hB5 : Below wr.heap.size wr w' := hG.below'
                        obtain ⟨hc5, hf5⟩ := bcell hB5
                        have hs5 := hB5.size
                        clear hv hG
                        first
                          | (refine SLF.wpo_do (SLF.wanted_free rfl) ?hd1 ?_; (case hd1 => intro c h; cases h))
                          | (refine SLF.wpo_do (SLF.wanted_by rfl rfl ?hv1) ?hd1 ?_; (case hv1 => simp [hu]; done); (case hd1 => intro c h; cases h))
                          | (refine' SLF.wpo_not (SLG.wanted_not rfl rfl ?hv1 ?hn1) ?_; (case hv1 => simp [hu]; exact rfl); (case hn1 => first | (simp; done) | (simp [undef]; done)))
                        clear hd
                        first
                          | (go_step; exact hK _ _ _ (SL.Chg.refl _ _) (by first | exact rfl | (simp only [hu]; exact rfl) | exact hu | exact hu.1 | exact hu.2 | exact hu.2.1 | exact hu.2.2 | exact hu.2.2.1 | exact hu.2.2.2 | (simp [hu]; done)) rfl (by simp) rfl)
                          | exact hK _ _ _ (SL.Chg.refl _ _) (by first | exact rfl | exact hu | exact hu.1 | exact hu.2 | exact hu.2.1 | exact hu.2.2 | exact hu.2.2.1 | exact hu.2.2.2 | (simp [hu]; done)) rfl (by simp) rfl
                  iterate 1 rotate_left
                  · refine SLG.ob_sp rfl rfl rfl fun us w' Fe hG hu hd Kx hK => ?_
                    try dsimp only
                    simp [SL.Used, SL.pu, SL.row, SL.box, SL.rowIn, SL.boxIn, SL.boxAt, SL.boxAtIn, SLF.pq, Act.put, SL.aw_sub, SL.aw_use, SL.aw_eat, SL.aw_V, SL.aw_quiet] at hu
                    have hB5 : Below wr.heap.size wr w' := hG.below'
                    obtain ⟨hc5, hf5⟩ := bcell hB5
                    have hs5 := hB5.size
                    refine SLF.wpo_do (SLF.wanted_free rfl) ?hd1 ?_
                    case hd1 => intro c h; cases h
                    obtain ⟨e17, _⟩ := hu
                    go_step
                    exact hK _ _ _ [] (by simp [Act.put, e17]; done) (SL.Chg.refl _ _) ⟨rfl, rfl⟩ (fun j hj => by cases hj)
                  · refine SLG.ob_sp rfl rfl rfl fun us w' Fe hG hu hd Kx hK => ?_
                    try dsimp only
                    simp [SL.Used, SL.pu, SL.row, SL.box, SL.rowIn, SL.boxIn, SL.boxAt, SL.boxAtIn, SLF.pq, Act.put, SL.aw_sub, SL.aw_use, SL.aw_eat, SL.aw_V, SL.aw_quiet] at hu
                    have hB5 : Below wr.heap.size wr w' := hG.below'
                    obtain ⟨hc5, hf5⟩ := bcell hB5
                    have hs5 := hB5.size
                    refine SLF.wpo_do (SLF.wanted_free rfl) ?hd1 ?_
                    case hd1 => intro c h; cases h
                    obtain ⟨⟨e17, _⟩, _⟩ := hu
                    go_step
                    exact hK _ _ _ [] (by simp [Act.put, e17]; done) (SL.Chg.refl _ _) ⟨rfl, rfl⟩ (fun j hj => by cases hj)
                case hck1 => kernel_rfl
                case hkp1 => kernel_rfl
                intro us wE Fs hG hu hbd hd
                simp [SL.Used, SLF.pq] at hu
                obtain ⟨u17', _⟩ := hu
                have u17 : us 17 = Value.bool false := u17'
                have hBE := hG.below'
                simp only [u17]
                clear hbd hd hG
                go_wp2_with fail
                go_roundw
                case rel => exact ⟨k + 1, by omega, by rw [HS.out, HBB.out]; rfl, by go_num, hB.ch2 hBE⟩
                case measure => simp [RowKit.intOf]; omega
              · go_wp2_with fail
                apply SLG.rule0 ?hm2 [] [96, 97, 98, 99, 100, 101, 102, 103, 104, 105, 106, 107, 17] [SL.pu 96 [13] (.bool true), SLF.pq 97 [0] (.bool true), SLF.pq 98 [1] (.slice (some ⟨b, o, none⟩) m cl), SLF.pq 99 [1] (.int .i64 k), SLF.pq 100 [1, 2, 3] (.pointer (some ⟨b, o + k, none⟩)), SLF.pq 101 [1, 4] (.int .i64 y), SLF.pq 102 [1] (.slice (some ⟨b, o, none⟩) m cl), SLF.pq 103 [1] (.int .i64 i), SLF.pq 104 [1, 6, 7] (.pointer (some ⟨b, o + i, none⟩)), SLF.pq 105 [1, 8] (.int .i64 x), SLF.pq 106 [1, 5, 9] (.bool NB), SLF.pq 107 [1, 10] (.bool NB), { SL.pu 17 [11, 13] (.bool NB) with eat := [13] }, SL.pu 17 [] (.bool true)] [12] ?hck2 ?hkp2 (fun _ => []) ?hin2 ?hdj2 ?hfr2 ?ob2 ?en2
                case hm2 => kernel_rfl
                case hin2 => exact (SL.pu_held rfl rfl ⟨rfl, rfl⟩)
                case hdj2 => simp
                case hfr2 => intro us; simp only [SL.frame, SL.put']; simp; exact rfl
                case ob2 =>
                  refine ⟨?_, ?_, ?_, ?_, ?_, ?_, ?_, ?_, ?_, ?_, ?_, ?_, ?_, trivial⟩
                  iterate 1 rotate_left
                  iterate 11
                    focus
                      as_aux_lemma =>
                        intro us w' Fe hG hu hd hv Kx hK
                        try dsimp only
                        simp [SL.Used, SL.pu, SL.row, SL.box, SL.rowIn, SL.boxIn, SL.boxAt, SL.boxAtIn, SLF.pq, Act.put, SL.aw_sub, SL.aw_use, SL.aw_eat, SL.aw_V, SL.aw_quiet] at hu hK
                        have hB5 : Below wr.heap.size wr w' := hG.below'
                        obtain ⟨hc5, hf5⟩ := bcell hB5
                        have hs5 := hB5.size
                        clear hv hG
                        first
                          | (refine SLF.wpo_do (SLF.wanted_free rfl) ?hd2 ?_; (case hd2 => intro c h; cases h))
                          | (refine SLF.wpo_do (SLF.wanted_by rfl rfl ?hv2) ?hd2 ?_; (case hv2 => simp [hu]; done); (case hd2 => intro c h; cases h))
                          | (refine' SLF.wpo_not (SLG.wanted_not rfl rfl ?hv2 ?hn2) ?_; (case hv2 => simp [hu]; exact rfl); (case hn2 => first | (simp; done) | (simp [undef]; done)))
                        clear hd
                        first
                          | (go_step; exact hK _ _ _ (SL.Chg.refl _ _) (by first | exact rfl | (simp only [hu]; exact rfl) | exact hu | exact hu.1 | exact hu.2 | exact hu.2.1 | exact hu.2.2 | exact hu.2.2.1 | exact hu.2.2.2 | (simp [hu]; done)) rfl (by simp) rfl)
                          | exact hK _ _ _ (SL.Chg.refl _ _) (by first | exact rfl | exact hu | exact hu.1 | exact hu.2 | exact hu.2.1 | exact hu.2.2 | exact hu.2.2.1 | exact hu.2.2.2 | (simp [hu]; done)) rfl (by simp) rfl
                  iterate 1 rotate_left
                  · refine SLG.ob_sp rfl rfl rfl fun us w' Fe hG hu hd Kx hK => ?_
                    try dsimp only
                    simp [SL.Used, SL.pu, SL.row, SL.box, SL.rowIn, SL.boxIn, SL.boxAt, SL.boxAtIn, SLF.pq, Act.put, SL.aw_sub, SL.aw_use, SL.aw_eat, SL.aw_V, SL.aw_quiet] at hu
                    have hB5 : Below wr.heap.size wr w' := hG.below'
                    obtain ⟨hc5, hf5⟩ := bcell hB5
                    have hs5 := hB5.size
                    refine SLF.wpo_do (SLF.wanted_free rfl) ?hd2 ?_
                    case hd2 => intro c h; cases h
                    obtain ⟨e17, _⟩ := hu
                    go_step
                    exact hK _ _ _ [] (by simp [Act.put, e17]; done) (SL.Chg.refl _ _) ⟨rfl, rfl⟩ (fun j hj => by cases hj)
                  · refine SLG.ob_sp rfl rfl rfl fun us w' Fe hG hu hd Kx hK => ?_
                    try dsimp only
                    simp [SL.Used, SL.pu, SL.row, SL.box, SL.rowIn, SL.boxIn, SL.boxAt, SL.boxAtIn, SLF.pq, Act.put, SL.aw_sub, SL.aw_use, SL.aw_eat, SL.aw_V, SL.aw_quiet] at hu
                    have hB5 : Below wr.heap.size wr w' := hG.below'
                    obtain ⟨hc5, hf5⟩ := bcell hB5
                    have hs5 := hB5.size
                    refine SLF.wpo_do (SLF.wanted_free rfl) ?hd2 ?_
                    case hd2 => intro c h; cases h
                    obtain ⟨⟨e17, _⟩, _⟩ := hu
                    go_step
                    exact hK _ _ _ [] (by simp [Act.put, e17]; done) (SL.Chg.refl _ _) ⟨rfl, rfl⟩ (fun j hj => by cases hj)
                case hck2 => kernel_rfl
                case hkp2 => kernel_rfl
                intro us wE Fs hG hu hbd hd
                simp [SL.Used, SLF.pq] at hu
                obtain ⟨u17', _⟩ := hu
                have u17 : us 17 = Value.bool NB := u17'
                have hBE := hG.below'
                simp only [u17]
                clear hbd hd hG
                go_wp2_with fail
                go_roundw
                case rel => exact ⟨k + 1, by omega, by rw [HS.out, HBB.out, Hx.out, Hy.out, HNB.out]; rfl, by go_num, hB.ch2 hBE⟩
                case measure => simp [RowKit.intOf]; omega
            · have hk2 : k = i := by omega
              subst hk2
              obtain ⟨X, hX⟩ : ∃ X : Nat, x = X := ⟨x.toNat, by have := getD_pos (fun x hx => (HXS.out x hx).1) k; rw [Hx.out] at this; omega⟩
              subst hX
              have hXl : X < c.ps.length := by
                have := (HXS.out X (by rw [← Hx.out, List.getD_eq_getElem?_getD, List.getElem?_eq_getElem (by have := HMX.out; omega)]; exact List.getElem_mem _)).2
                omega
              have X1 : (X : Int) < (c.ps.length : Int) := by omega
              have X0 : (0 : Int) ≤ X := by omega
              obtain ⟨b1, o1, hca, bl1, _, _, _, _, _, g5, _, _⟩ := SR.out.c1.ps.get hXl
              clear y0 y1 y2 y3 yl
              obtain ⟨_, _, _, y3, yl⟩ := SR.out.cells
              rw [hca] at y3
              have HS := Lib.hid (feetN_succ c.s xs k)
              obtain ⟨B, hBB⟩ : ∃ B, fstB xs k k = B := ⟨_, rfl⟩
              obtain ⟨D, hD⟩ : ∃ D, (c.ps.getD X default).ft = D := ⟨_, rfl⟩
              have hD2 : (c.s.getD (xs.getD k 0).toNat default).ft = D := by rw [Hx.out, Int.toNat_natCast, ← HSL.out X hXl, hD]
              rw [hD] at g5
              rw [hBB]
              have HBB := Lib.hid hBB
              have HD := Lib.hid hD2
              have hFF := HFi.out
              have hw1 : IntKind.i64.wrap ((F : Int) + 1) = (F : Int) + 1 := IntWalk.i64_in _ (by omega)
              clear hBB hD hD2 hca hXl
              cases B
              · go_wp2_with fail
                apply SLG.rule0 ?hm3 [] [108, 109, 110, 111, 112, 113, 114, 115, 116, 117, 118, 119] [SLF.pq 108 [] (.bool false), SLF.pq 109 [0] (.bool false), SLF.pq 110 [1] (undef), SLF.pq 111 [1, 2] (undef), SLF.pq 112 [1] (undef), SLF.pq 113 [1] (undef), SLF.pq 114 [1, 4, 5] (undef), SLF.pq 115 [1, 6] (undef), SLF.pq 116 [1, 3, 7] (undef), SLF.pq 117 [1, 8] (undef), SLF.pq 118 [1, 9] (undef), SLF.pq 119 [1, 10] (.bool false)] [11] ?hck3 ?hkp3 (fun _ => []) ?hin3 ?hdj3 ?hfr3 ?ob3 ?en3
                case hm3 => kernel_rfl
                case hin3 => exact SL.none_held rfl
                case hdj3 => simp
                case hfr3 => intro us; simp only [SL.frame, SL.put']; simp; exact rfl
                case ob3 =>
                  refine ⟨?_, ?_, ?_, ?_, ?_, ?_, ?_, ?_, ?_, ?_, ?_, ?_, trivial⟩
                  iterate 12
                    focus
                      as_aux_lemma =>
                        intro us w' Fe hG hu hd hv Kx hK
                        try dsimp only
                        simp [SL.Used, SL.pu, SL.row, SL.box, SL.rowIn, SL.boxIn, SL.boxAt, SL.boxAtIn, SLF.pq, Act.put, SL.aw_sub, SL.aw_use, SL.aw_eat, SL.aw_V, SL.aw_quiet] at hu hK
                        have hB5 : Below wr.heap.size wr w' := hG.below'
                        obtain ⟨hc5, hf5⟩ := bcell hB5
                        have hs5 := hB5.size
                        clear hv hG
                        first
                          | (refine SLF.wpo_do (SLF.wanted_free rfl) ?hd3 ?_; (case hd3 => intro c h; cases h))
                          | (refine SLF.wpo_do (SLF.wanted_by rfl rfl ?hv3) ?hd3 ?_; (case hv3 => simp [hu]; done); (case hd3 => intro c h; cases h))
                          | (refine' SLF.wpo_not (SLG.wanted_not rfl rfl ?hv3 ?hn3) ?_; (case hv3 => simp [hu]; exact rfl); (case hn3 => first | (simp; done) | (simp [undef]; done)))
                        clear hd
                        first
                          | (go_step; exact hK _ _ _ (SL.Chg.refl _ _) (by first | exact rfl | (simp only [hu]; exact rfl) | exact hu | exact hu.1 | exact hu.2 | exact hu.2.1 | exact hu.2.2 | exact hu.2.2.1 | exact hu.2.2.2 | (simp [hu]; done)) rfl (by simp) rfl)
                          | exact hK _ _ _ (SL.Chg.refl _ _) (by first | exact rfl | exact hu | exact hu.1 | exact hu.2 | exact hu.2.1 | exact hu.2.2 | exact hu.2.2.1 | exact hu.2.2.2 | (simp [hu]; done)) rfl (by simp) rfl
                case hck3 => kernel_rfl
                case hkp3 => kernel_rfl
                intro us wE Fs hG hu hbd hd
                simp [SL.Used, SLF.pq] at hu
                obtain ⟨u19, _⟩ := hu
                have hBE := hG.below'
                simp only [u19]
                clear hbd hd hG
                go_wp2_with fail
                go_roundw
                case rel => exact ⟨k + 1, by omega, by rw [HS.out, HBB.out, HD.out, HF.out]; simp, by go_num, hB.ch2 hBE⟩
                case measure => simp [RowKit.intOf]; omega
              · go_wp2_with fail
                apply SLG.rule0 ?hm4 [] [108, 109, 110, 111, 112, 113, 114, 115, 116, 117, 118, 119] [SLF.pq 108 [] (.bool true), SLF.pq 109 [0] (.bool true), SLF.pq 110 [1] (.pointer (some ⟨w.heap.size, 3, none⟩)), SLF.pq 111 [1, 2] (.slice (some ⟨b1, o1, none⟩) c.ps.length c.cap), SLF.pq 112 [1] (.slice (some ⟨b, o, none⟩) m cl), SLF.pq 113 [1] (.int .i64 k), SLF.pq 114 [1, 4, 5] (.pointer (some ⟨b, o + k, none⟩)), SLF.pq 115 [1, 6] (.int .i64 X), SLF.pq 116 [1, 3, 7] (.pointer (some ⟨b1, o1 + X * 8, none⟩)), SLF.pq 117 [1, 8] (.pointer (some ⟨b1, o1 + X * 8 + 5, none⟩)), SLF.pq 118 [1, 9] (.bool D), SLF.pq 119 [1, 10] (.bool D)] [11] ?hck4 ?hkp4 (fun _ => []) ?hin4 ?hdj4 ?hfr4 ?ob4 ?en4
                case hm4 => kernel_rfl
                case hin4 => exact SL.none_held rfl
                case hdj4 => simp
                case hfr4 => intro us; simp only [SL.frame, SL.put']; simp; exact rfl
                case ob4 =>
                  refine ⟨?_, ?_, ?_, ?_, ?_, ?_, ?_, ?_, ?_, ?_, ?_, ?_, trivial⟩
                  iterate 12
                    focus
                      as_aux_lemma =>
                        intro us w' Fe hG hu hd hv Kx hK
                        try dsimp only
                        simp [SL.Used, SL.pu, SL.row, SL.box, SL.rowIn, SL.boxIn, SL.boxAt, SL.boxAtIn, SLF.pq, Act.put, SL.aw_sub, SL.aw_use, SL.aw_eat, SL.aw_V, SL.aw_quiet] at hu hK
                        have hB5 : Below wr.heap.size wr w' := hG.below'
                        obtain ⟨hc5, hf5⟩ := bcell hB5
                        have hs5 := hB5.size
                        clear hv hG
                        first
                          | (refine SLF.wpo_do (SLF.wanted_free rfl) ?hd4 ?_; (case hd4 => intro c h; cases h))
                          | (refine SLF.wpo_do (SLF.wanted_by rfl rfl ?hv4) ?hd4 ?_; (case hv4 => simp [hu]; done); (case hd4 => intro c h; cases h))
                          | (refine' SLF.wpo_not (SLG.wanted_not rfl rfl ?hv4 ?hn4) ?_; (case hv4 => simp [hu]; exact rfl); (case hn4 => first | (simp; done) | (simp [undef]; done)))
                        clear hd
                        first
                          | (go_step; exact hK _ _ _ (SL.Chg.refl _ _) (by first | exact rfl | (simp only [hu]; exact rfl) | exact hu | exact hu.1 | exact hu.2 | exact hu.2.1 | exact hu.2.2 | exact hu.2.2.1 | exact hu.2.2.2 | (simp [hu]; done)) rfl (by simp) rfl)
                          | exact hK _ _ _ (SL.Chg.refl _ _) (by first | exact rfl | exact hu | exact hu.1 | exact hu.2 | exact hu.2.1 | exact hu.2.2 | exact hu.2.2.1 | exact hu.2.2.2 | (simp [hu]; done)) rfl (by simp) rfl
                case hck4 => kernel_rfl
                case hkp4 => kernel_rfl
                intro us wE Fs hG hu hbd hd
                simp [SL.Used, SLF.pq] at hu
                obtain ⟨u19, _⟩ := hu
                have hBE := hG.below'
                simp only [u19]
                clear hbd hd hG
                cases D
                · go_wp2_with fail
                  go_roundw
                  case rel => exact ⟨k + 1, by omega, by rw [HS.out, HBB.out, HD.out, HF.out]; simp, by go_num, hB.ch2 hBE⟩
                  case measure => simp [RowKit.intOf]; omega
                · go_wp2_with fail
                  go_roundw
                  case rel => exact ⟨k + 1, by omega, by rw [HS.out, HBB.out, HD.out, HF.out]; simp, by go_num, hB.ch2 hBE⟩
                  case measure => simp [RowKit.intOf]; omega
        · have hk2 : i = m := by omega
          subst hk2
          rw [show feetN c.s xs i = feetN c.s xs xs.length from by rw [← HMX.out]]
          generalize feetN c.s xs xs.length = F at *
          cases IS
          · have hO : ON = false := by simpa using HON.out
            subst hO
            go_wp2_with (go_at_call 17; (with_reducible refine (ltold _).mono ?_); rintro e wT ⟨rfl, hbT⟩)
            go_ret
            exact ⟨rfl, (S5.out.ch hB).below.ch2 hbT⟩
          · have hO : decide (F ≤ 1) = ON := by simpa using HON.out.symm
            have hO2 : decide ((F : Int) ≤ 1) = ON := by rw [← hO]; congr 1; simp; omega
            have e6 : (ON == ON) = true := by simp
            go_wp2_with (go_at_call 17; (with_reducible refine (ltold _).mono ?_); rintro e wT ⟨rfl, hbT⟩)
            go_ret
            exact ⟨rfl, (S5.out.ch hB).below.ch2 hbT⟩
    · have b0 : (E == 0) = false := by simpa using h0
      clear hOne hAsk h0
      go_enter Tryz.func12, Tryz.ntmps12
      go_wp2_with (first
        | (go_at_call 16; (with_reducible refine (fFew _ S0.out.c1).mono ?_); rintro e w1 ⟨b, rfl, hb1⟩; have S1 := (S0.out).ch hb1; clear y0 y1 y2 y3 yl; obtain ⟨y0, y1, y2, y3, yl⟩ := S1.cells; have S1 := Lib.hid S1; have XL := Lib.hid (XL.out.below hb1); cases b; clear hb1)
        | (go_at_call 47; (with_reducible refine (fC _ S1.out.c1 XL.out).mono ?_); rintro e w2 ⟨rfl, hb2⟩; have S2 := (S1.out).ch hb2; clear y0 y1 y2 y3 yl; obtain ⟨y0, y1, y2, y3, yl⟩ := S2.cells; have S2 := Lib.hid S2; have XL := Lib.hid (XL.out.below hb2); clear hb2)
        | (go_at_call 48; (with_reducible refine (gC _ (S2.out.al _).c1 (XL.out.below (one_alloc _ _))).mono ?_); rintro e w3 ⟨rfl, hb3⟩; have S3 := ((S2.out.al _)).ch hb3; clear y0 y1 y2 y3 yl; obtain ⟨y0, y1, y2, y3, yl⟩ := S3.cells; have S3 := Lib.hid S3; have XL := Lib.hid ((XL.out.below (one_alloc _ _)).below hb3); have ZS := Lib.hid ((HB.new w2 #[.int .i64 L1, .int .i64 L2] 33).below hb3); clear hb3)
        | (go_at_call 49; (with_reducible refine (fO _ (S3.out.al _).c1 (XL.out.below (one_alloc _ _))).mono ?_); rintro e w4 ⟨rfl, hb4⟩; have S4 := ((S3.out.al _)).ch hb4; clear y0 y1 y2 y3 yl; obtain ⟨y0, y1, y2, y3, yl⟩ := S4.cells; have S4 := Lib.hid S4; have XL := Lib.hid ((XL.out.below (one_alloc _ _)).below hb4); have ZS := Lib.hid ((ZS.out.below (one_alloc _ _)).below hb4); have ZT := Lib.hid ((HB.new w3 #[.int .i64 L1, .int .i64 L2] 33).below hb4); clear hb4)
        | (go_at_call 50; (with_reducible refine (gO _ S4.out.c1 XL.out).mono ?_); rintro e w5 ⟨rfl, hb5⟩; have S5 := (S4.out).ch hb5; clear y0 y1 y2 y3 yl; obtain ⟨y0, y1, y2, y3, yl⟩ := S5.cells; have S5 := Lib.hid S5; have XL := Lib.hid (XL.out.below hb5); have ZS := Lib.hid (ZS.out.below hb5); have ZT := Lib.hid (ZT.out.below hb5); obtain ⟨z0, z1, zf, zl⟩ := cell2w ZS.out; obtain ⟨t0, t1, tf, tl⟩ := cell2w ZT.out; clear hb5)
        | (go_at_call 17; (with_reducible refine (ltold _).mono ?_); rintro e w6 ⟨rfl, hb6⟩; have S6 := (S5.out).ch hb6; clear y0 y1 y2 y3 yl; obtain ⟨y0, y1, y2, y3, yl⟩ := S6.cells; have S6 := Lib.hid S6; have XL := Lib.hid (XL.out.below hb6); have ZS := Lib.hid (ZS.out.below hb6); have ZT := Lib.hid (ZT.out.below hb6); clear hb6)
        | (go_at_call 17; (with_reducible refine (ltold _).mono ?_); rintro e wT ⟨rfl, hbT⟩))
      all_goals go_ret
      all_goals first
        | exact ⟨rfl, S6.out.below⟩
        | exact ⟨rfl, S1.out.below.ch2 hbT⟩
  · have q1' : decide ((60 : Int) < (m : Int)) = true := by simp; omega
    clear hOne hAsk
    go_enter Tryz.func12, Tryz.ntmps12
    go_wp2_with (first
      | (go_at_call 16; (with_reducible refine (fFew _ S0.out.c1).mono ?_); rintro e w1 ⟨b, rfl, hb1⟩; have S1 := (S0.out).ch hb1; clear y0 y1 y2 y3 yl; obtain ⟨y0, y1, y2, y3, yl⟩ := S1.cells; have S1 := Lib.hid S1; have XL := Lib.hid (XL.out.below hb1); cases b; clear hb1)
      | (go_at_call 17; (with_reducible refine (ltold _).mono ?_); rintro e wT ⟨rfl, hbT⟩))
    all_goals go_ret
    all_goals first
      | exact ⟨rfl, S1.out.below.ch2 hbT⟩
end Go.Proofs.YtodkbfbbpfghiaaGreat
namespace Go.Proofs.YtodkbfbbpfghiaaGreat
open Go.ChangeShapes Go.WideShapes Go.ChangeAt Go.RowKit Go.Joins Go.Deep
set_option maxRecDepth 100000 in
theorem wholeCommons_lifted (os : Os) (started : os.Started) (H : Type) (enc : TypeId × Value → H) :
    ReturnsInHanded {} Tryz.checked os 12 .any (Rows.wholeCommonsSpec.pre6 enc Tryz.prog Tryz.f12 Rows.wholeCommonsRow.domain false) (Rows.wholeCommonsSpec.post enc Tryz.prog Tryz.f12 false true false false) := by
  refine returnsInHanded_of_change_sized (C := Tryz.checked) Tryz.own started (by kernel_rfl) Tryz.func12
    (ChangeSpec.witness6 (enc := enc) (C := Tryz.checked) false ⟨#[], #[.agg #[.string ⟨#[]⟩, .int .i64 0, .int .i64 0, .slice none 0 0], .slice none 0 0], []⟩ 8 (by kernel_rfl) (by kernel_rfl) (by kernel_rfl) (by kernel_rfl)) ?_
  intro W base args ds gs before hval0 hW _ hsz0 _
  have hsz : (DataW.weightsEach Tryz.prog (Tryz.f12.params.toList ++ Rows.wholeCommonsSpec.plain.varTypes Tryz.prog) (ds ++ gs)).all (· ≤ reachBytes) = true := hsz0
  clear hsz0
  have hval : ∀ (j : Nat) t v, Tryz.f12.params[j]? = some t → args[j]? = some v → Value.okWide Tryz.prog W .any base t v := hval0
  have hW' := hW
  obtain ⟨p, q, hA0, hV, rfl, _, _⟩ := hW
  have hA : DataW.TrodAll enc Tryz.prog W 0 (fun _ => true) true Tryz.f12.params.toList args.toList ds p := hA0
  rw [Tryz.params12] at hA hval hsz
  obtain ⟨v0, vs0, d0, ds0, p0, q0, hargs, rfl, rfl, h0, r0⟩ := trodAll_cons hA
  obtain ⟨v1, vs1, d1, ds1, p1, q1, rfl, rfl, rfl, h1, r1⟩ := trodAll_cons r0
  obtain ⟨rfl, rfl, rfl⟩ := trodAll_nil r1
  obtain rfl : args = #[v0, v1] := by cases args; simp_all
  obtain ⟨rfl, rfl⟩ := trodVars_none hV
  clear hA0 hval0
  have hlt : ∀ x ∈ p0 ++ p1, x.block < W.heap.size := fun x hx => by have := hW'.lt x (by simpa using hx); simpa using this
  obtain ⟨c0, rfl, hb0, hn0⟩ := case_open (hval 0 24 v0 rfl rfl) h0 (fun n hn => by
    have := List.all_eq_true.1 hsz _ (DataW.weights_mem_each (j := 0) rfl rfl n hn)
    simpa using this)
  obtain ⟨a1, n1, k1, xs1, rfl, hb1, hn1⟩ := ints_open (hval 1 34 v1 rfl rfl) h1 (fun n hn => by
    have := List.all_eq_true.1 hsz _ (DataW.weights_mem_each (j := 1) rfl rfl n hn)
    simpa using this)
  refine (law_commons c0 a1 n1 k1 xs1 W hb0 hn0 hb1 hn1).mono fun e W' ⟨he, hw⟩ => ?_
  subst he
  exact ⟨_, rfl, ⟨_, _, _, [], _, [], hW', trodAll_mk1 (shut_bool Tryz.underlying4 _), (trodAll_cons_mk (Below.trod Tryz.laidOut (by kernel_rfl) (of_decide_eq_true (by kernel_rfl)) h0 hw (fun x hx => hlt x (by simp [hx]))) (trodAll_cons_mk (Below.trod Tryz.laidOut (by kernel_rfl) (of_decide_eq_true (by kernel_rfl)) h1 hw (fun x hx => hlt x (by simp [hx]))) trodAll_mk0)), rfl, hw.frame _, fun h => by cases h⟩⟩
theorem wholeCommons_holds : Rows.WholeCommonsSaid :=
  OpenClaim.holds_of_wide 12 Tryz.f12 rfl rfl rfl rfl rfl rfl rfl ⟨rfl, rfl, rfl, rfl, rfl⟩ rfl rfl rfl rfl rfl (by kernel_rfl) Tryz.func12 (by kernel_rfl)
    (of_decide_eq_true (by kernel_rfl)) (by unfold Func.isWrapper; rw [if_neg (of_decide_eq_false (by kernel_rfl))]; exact ⟨rfl, rfl⟩)
    (fun os started H enc _ => wholeCommons_lifted os started H enc)
#print axioms wholeCommons_holds
end Go.Proofs.YtodkbfbbpfghiaaGreat
