/-
  The law Merged, walked, and its statement.
-/
import Derived.Test.YtodkbfbbpfghiaaGreatPc25
import Derived.Test.YtodkbfbbpfghiaaGreatPc12
import Derived.Test.YtodkbfbbpfghiaaGreatRows
import Derived.OpenShut
set_option linter.unusedSimpArgs false
set_option linter.unusedVariables false
set_option linter.unnecessarySimpa false
namespace Go.Proofs.YtodkbfbbpfghiaaGreat
open Go.RowKit Go.Shelf Go.Lib
set_option maxHeartbeats 8000000
set_option maxRecDepth 100000
/-- What a merged case is. -/
theorem mrg_ok {c : Cs} {x y : Int} (h : c.mrgE x y = 0) : ∃ X Y : Nat, x = X ∧ y = Y ∧ min X Y < max X Y ∧ max X Y < c.ps.length ∧ c.chk = 0 ∧ clB c.s (min X Y) (max X Y) = false ∧ (c.mrg x.toNat y.toNat).chk = 0 ∧ (c.mrg x.toNat y.toNat).s = merS c.s (min X Y) (max X Y) := by
  have h2 : c.two x y = 0 := by
    unfold Cs.mrgE at h
    split at h
    · assumption
    · rename_i h1; exact absurd h h1
  unfold Cs.mrgE at h
  rw [if_pos h2] at h
  obtain ⟨X, Y, rfl, rfl, h3, h4, _, _⟩ := Cs.two_nat h2
  have hk := (Cs.two_zero h2).1
  simp only [Int.toNat_natCast] at h ⊢
  unfold Cs.mergeE at h
  split at h
  · cases h
  rename_i hnc
  split at h
  · cases h
  rename_i hsz
  have hnc' : clB c.s (min X Y) (max X Y) = false := by rw [clB_minmax]; simpa using hnc
  refine ⟨X, Y, rfl, rfl, h3, h4, Cs.chk_zero.2 hk, hnc', Cs.chk_zero.2 ?_, ?_⟩
  · exact mix_ok hk h3 h4 hnc' (by omega) (by omega)
  · exact mixPt_pns (by omega) h4 (gluPt_n _ _ _ _ _ _)
/-- A reassembly of the merged case is one of the case. -/
theorem put_asg {c p : Cs} {A B : Nat} {v : List Int} (h0 : c.chk = 0) (hk : p.chk = 0) (hs : p.s = merS c.s A B) (hlim : p.lim = c.lim) (hab : A < B) (hb : B < c.s.length) (hnc : clB c.s A B = false) (h : p.asg v = true) : v.length = c.s.length - 1 ∧ c.asg (putAt v B (v.getD A 0)) = true := by
  unfold Cs.asg at h
  rw [hs, hk, hlim] at h
  cases hm : asgM (merS c.s A B) v with
  | none => rw [hm] at h; simp at h
  | some m =>
    rw [hm] at h
    refine ⟨?_, ?_⟩
    · have := (asgM_some hm).1
      rw [merS_len hb] at this
      exact this
    · unfold Cs.asg
      rw [putAt_asg hab hb hnc hm, h0]
      exact h
theorem take_snoc {l : List Int} {k : Nat} (hk : k < l.length) : l.take (k + 1) = l.take k ++ [l.getD k 0] := by
  rw [List.take_succ_eq_append_getElem hk, List.getD_eq_getElem?_getD, List.getElem?_eq_getElem hk]; rfl
theorem law_merged (c : Cs) (x y : Int) (al : Option Addr) (m cl : Nat) (v : List Int) (w : World) (hc : CsAt w c) (hcr : c.ps.length ≤ c.cap) (hl : IntsAt w al m cl v) (hroom : v.length ≤ cl) :
    Calls Tryz.prog 8 #[c.v, .int .i64 x, .int .i64 y, .slice al m cl] w fun e w' => e = .returned (.bool true) ∧ Below w.heap.size w w' := by
  have fSm := fun W (h : CsAt W c) => lsmall c 12 W h
  have fM := fun W (h : CsAt W c) => wMerge c x y W h
  have fL := fun W (h : CsAt W c) => wLeast c W h
  have fL2 := fun (p : Cs) W (h : CsAt W p) => wLeast p W h
  have fA := fun (p : Cs) W (h : CsAt W p) (h2 : IntsAt W al m cl v) h3 => wCheckAssign p al m cl v W h h2 h3
  have fB := fun a k l n W (h : CsAt W c) (h2 : IntsAt W a n k l) h3 => wCheckAssign c a n k l W h h2 h3
  unfold CaseRes at fM
  have hm := hl.len
  simp only [Cs.v] at fSm fM fL fL2 fA fB ⊢
  have HM := Lib.hid hm
  have XL0 := hl.below (one_alloc w (Obj.cells #[.string c.ware, .int .i64 c.lim, .int .i64 c.byr, .slice c.a c.ps.length c.cap] 24))
  have XL := Lib.hid XL0
  clear hl hm XL0
  have S0 := LS.start w hc
  obtain ⟨y0, y1, y2, y3, yl⟩ := S0.cells
  have S0 := Lib.hid S0
  by_cases q1 : m ≤ 60
  · have q1' : decide ((60 : Int) < (m : Int)) = false := by simp; omega
    by_cases h0 : c.mrgE x y = 0
    · obtain ⟨X, Y, rfl, rfl, h3, h4, h5, h6, h7, h8⟩ := mrg_ok h0
      obtain ⟨hmm, hok, hsl⟩ := (Cs.chk_zero.1 h5).many'
      have hB : max X Y < c.s.length := by omega
      have q2 := least_le_mer hok h3 hB h6
      have q3 := least_mer_le hok h3 hB h6
      have hle := least_le_len hok
      have hA : ∀ (p : Cs), SameC p (resC (c.mrgE (X : Int) (Y : Int)) (c.mrg (X : Int).toNat (Y : Int).toNat)) → p.leastI = (leastN (merS c.s (min X Y) (max X Y)) : Int) ∧ p.chk = 0 ∧ (p.asg v = true → v.length = c.ps.length - 1 ∧ c.asg (putAt v (max X Y) (v.getD (min X Y) 0)) = true) := fun p hp => by
        rw [h0] at hp
        unfold resC at hp
        rw [if_pos rfl] at hp
        have g1 : p.chk = 0 := by rw [hp.chk]; exact h7
        have g2 : p.s = merS c.s (min X Y) (max X Y) := by rw [hp.s]; exact h8
        refine ⟨?_, g1, fun h => ?_⟩
        · unfold Cs.leastI
          rw [if_pos g1, g2]
        · have := put_asg (c := c) h5 g1 g2 hp.lim h3 hB h6 h
          rw [hsl] at this
          exact this
      have hli : c.leastI = (leastN c.s : Int) := by unfold Cs.leastI; rw [if_pos h5]
      rw [hli, h5] at fL
      rw [h0] at fM hA
      simp only [h5] at fB
      have hmn : min (X : Int) (Y : Int) = ((min X Y : Nat) : Int) := by omega
      have hmx : max (X : Int) (Y : Int) = ((max X Y : Nat) : Int) := by omega
      have hN : leastN c.s ≤ 40 := by omega
      have hpl : c.ps.length ≤ 40 := by omega
      have HA := Lib.hid hA
      clear hA hli hle h5 h6 h7 h8 hsl hok h0 hB
      obtain ⟨A, hAe⟩ : ∃ A, min X Y = A := ⟨_, rfl⟩
      obtain ⟨B, hBe⟩ : ∃ B, max X Y = B := ⟨_, rfl⟩
      rw [hAe] at hmn
      rw [hBe] at hmx
      rw [hAe, hBe] at h3
      rw [hBe] at h4
      simp only [hAe, hBe] at HA q2 q3
      generalize leastN (merS c.s A B) = M at *
      generalize leastN c.s = N at *
      generalize resC 0 (c.mrg (X : Int).toNat (Y : Int).toNat) = RC at *
      clear hAe hBe
      have d1 : decide ((M : Int) < (N : Int)) = false := by simp; omega
      have d1' : decide (M < N) = false := by simp; omega
      have d1a : N ≤ M := q2
      have hw1 : IntKind.i64.wrap ((N : Int) + 1) = (N : Int) + 1 := IntWalk.i64_in _ (by omega)
      have d2 : decide ((N : Int) + 1 < (M : Int)) = false := by simp; omega
      have hw2 : IntKind.i64.wrap ((c.ps.length : Int) - 1) = (c.ps.length : Int) - 1 := IntWalk.i64_in _ (by omega)
      have HH3 := Lib.hid h3
      have HH4 := Lib.hid h4
      have HMM := Lib.hid hpl
      clear q2 q3 hN h3 h4 hmm hpl
      have HUl := Lib.hid (show ∀ p, SameC p RC → p.asg v = true → (putAt v B (v.getD A 0)).length = c.ps.length from fun p hp h => by
        have h9 := ((HA.out p hp).2.2 h).1
        rw [putAt_len (by have := HH4.out; omega)]; have := HH4.out; omega)
      have HBl := HH4.out
      have HBA := HH3.out
      by_cases hml : m + 1 = c.ps.length
      · have d3 : ((m : Int) != (c.ps.length : Int) - 1) = false := by simp; omega
        go_enter Tryz.func8, Tryz.ntmps8
        go_wp2_with (first
          | (go_at_call 27; (with_reducible refine (fSm _ S0.out.c1).mono ?_); rintro e w1 ⟨b, rfl, hb1, _⟩; have S1 := (S0.out).ch hb1; clear y0 y1 y2 y3 yl; obtain ⟨y0, y1, y2, y3, yl⟩ := S1.cells; have S1 := Lib.hid S1; have XL := Lib.hid (XL.out.below hb1); cases b; clear hb1)
          | (go_at_call 18; (with_reducible refine (fM _ S1.out.c1).mono ?_); rintro e w2 ⟨p, hp, rfl, hb2, hpc⟩; have S2 := (S1.out).ch hb2; clear y0 y1 y2 y3 yl; obtain ⟨y0, y1, y2, y3, yl⟩ := S2.cells; have S2 := Lib.hid S2; have XL := Lib.hid (XL.out.below hb2); have XP := Lib.hid (hpc); clear hpc; clear hb2)
          | (go_at_call 31; (with_reducible refine (fL _ (S2.out.al _).c1).mono ?_); rintro e w3 ⟨rfl, hb3⟩; have S3 := ((S2.out.al _)).ch hb3; clear y0 y1 y2 y3 yl; obtain ⟨y0, y1, y2, y3, yl⟩ := S3.cells; have S3 := Lib.hid S3; have XL := Lib.hid ((XL.out.below (one_alloc _ _)).below hb3); have XP := Lib.hid ((XP.out.below (one_alloc _ _)).below hb3); have ZP := Lib.hid ((HB.new w2 #[.string p.ware, .int .i64 p.lim, .int .i64 p.byr, .slice p.a p.ps.length p.cap] 24).below hb3); obtain ⟨p0, p1, p2, p3, pf, pl⟩ := cell4w ZP.out; have HP3 := Lib.hid (HA.out p hp); clear hb3)
          | (go_at_call 31; (with_reducible refine (fL2 p _ XP.out).mono ?_); rintro e w4 ⟨rfl, hb4⟩; rw [HP3.out.1, HP3.out.2.1]; have S4 := (S3.out).ch hb4; clear y0 y1 y2 y3 yl; obtain ⟨y0, y1, y2, y3, yl⟩ := S4.cells; have S4 := Lib.hid S4; have XL := Lib.hid (XL.out.below hb4); have XP := Lib.hid (XP.out.below hb4); have ZP := Lib.hid (ZP.out.below hb4); clear p0 p1 p2 p3 pf pl; obtain ⟨p0, p1, p2, p3, pf, pl⟩ := cell4w ZP.out; clear hb4)
          | (go_at_call 34; (with_reducible refine (fA p _ XP.out XL.out (by have := HM.out; omega)).mono ?_); rintro e w5 ⟨rfl, hb5⟩; rw [HP3.out.2.1]; obtain ⟨OK, hOK⟩ : ∃ OK, p.asg v = OK := ⟨_, rfl⟩; rw [hOK]; have HOK := Lib.hid hOK; clear hOK; have S5 := (S4.out).ch hb5; clear y0 y1 y2 y3 yl; obtain ⟨y0, y1, y2, y3, yl⟩ := S5.cells; have S5 := Lib.hid S5; have XL := Lib.hid (XL.out.below hb5); have XP := Lib.hid (XP.out.below hb5); have ZP := Lib.hid (ZP.out.below hb5); cases OK; clear hb5)
          | (go_at_call 17; (with_reducible refine (ltold _).mono ?_); rintro e wT ⟨rfl, hbT⟩))
        · go_ret
          exact ⟨rfl, S1.out.below.ch2 hbT⟩
        · go_ret
          exact ⟨rfl, S5.out.below.ch2 hbT⟩
        have HOA := HP3.out.2.2 HOK.out
        have HUL := HUl.out p hp HOK.out
        have HUG := fun i => putAt_get (v := v) (b := B) (by have := HOA.1; have := HH4.out; omega) (v.getD A 0) i
        have HUa := Lib.hid HOA.2
        have HVl := Lib.hid HOA.1
        obtain ⟨U, hU⟩ : ∃ U, putAt v B (v.getD A 0) = U := ⟨_, rfl⟩
        rw [hU] at HUL HUG HUa
        have HUG := Lib.hid HUG
        have HUl' := Lib.hid HUL
        clear HOA HUL hU HUl
        go_loopw [17, 20] (fun o i wr => ∃ k : Nat, k ≤ c.ps.length ∧ i = .int .i64 k ∧ Below w5.heap.size w5 wr ∧ wr.ownsRow w5.heap.size 3 1 o k ((U.take k).map (.int .i64))) (fun _ i _ => c.ps.length - (RowKit.intOf i).toNat)
        case atStart => exact ⟨0, Nat.zero_le _, rfl, Below.refl _ _, World.ownsRow_nil _ _ _ _⟩
        case round => as_aux_lemma =>
          obtain ⟨k, hk, rfl, hB, hown⟩ := hrel
          have SR := Lib.hid (S5.out.ch hB)
          have XR := Lib.hid (XL.out.below hB)
          clear y0 y1 y2 y3 yl
          obtain ⟨y0, y1, y2, y3, yl⟩ := SR.out.cells
          have hnn : (0 : Int) ≤ k := by omega
          by_cases hlt : k < c.ps.length
          · have i1 : (k : Int) < (c.ps.length : Int) := by omega
            have Hs := Lib.hid (take_snoc (l := U) (k := k) (by rw [HUl'.out]; exact hlt))
            have HG := Lib.hid (HUG.out k)
            have hO := fun y => (hown.up (one_alloc wr (Obj.cells #[.int .i64 y] 3)) (Nat.le_refl _))
            have hcl := hc.ps.small
            have HO := Lib.hid hO
            clear hO hown
            rcases Nat.lt_trichotomy k B with q | q | q
            · have j1 : ((k : Int) == (B : Int)) = false := by simp; omega
              have j2 : decide ((B : Int) < (k : Int)) = false := by simp; omega
              have hix : k < v.length := by have := HVl.out; omega
              obtain ⟨b, o, rfl, hbl, d0⟩ := XR.out.get hix
              have Hx := Lib.hid (show U.getD k 0 = v.getD (k) 0 from by rw [HG.out]; rw [if_neg (by omega)]; unfold dnI; rw [if_pos (by omega)])
              generalize v.getD (k) 0 = x at *
              have hO2 := HO.out x
              clear HG HO hix
              go_wp2_with (at_builtin; refine wpList_app elemI rfl _ _ rfl hO2 rfl rfl (RowAt.of_heap (World.alloc_heap_new wr _)) rfl (ones_int [x]) (by unfold maxLen; omega) (by omega) (by have := hB.size; simp; omega) ?_)
              intro v' w3 ho hg3 hb3 _ _
              go_wp2
              go_roundw
              case rel => exact ⟨k + 1, by omega, by go_num, hB.trans ((((Below.refl _ _).alloc (Nat.le_refl _) _).mono hB.size).trans hb3), by rw [Hs.out, Hx.out]; simpa using ho⟩
              case measure => simp [RowKit.intOf]; omega
            · subst q
              have j1 : ((k : Int) == (k : Int)) = true := by simp
              have hix : A < v.length := by have := HVl.out; omega
              obtain ⟨b, o, rfl, hbl, d0⟩ := XR.out.get hix
              have Hx := Lib.hid (show U.getD k 0 = v.getD (A) 0 from by rw [HG.out]; rw [if_pos rfl])
              generalize v.getD (A) 0 = x at *
              have hO2 := HO.out x
              clear HG HO hix
              go_wp2_with (at_builtin; refine wpList_app elemI rfl _ _ rfl hO2 rfl rfl (RowAt.of_heap (World.alloc_heap_new wr _)) rfl (ones_int [x]) (by unfold maxLen; omega) (by omega) (by have := hB.size; simp; omega) ?_)
              intro v' w3 ho hg3 hb3 _ _
              go_wp2
              go_roundw
              case rel => exact ⟨k + 1, by omega, by go_num, hB.trans ((((Below.refl _ _).alloc (Nat.le_refl _) _).mono hB.size).trans hb3), by rw [Hs.out, Hx.out]; simpa using ho⟩
              case measure => simp [RowKit.intOf]; omega
            · have j1 : ((k : Int) == (B : Int)) = false := by simp; omega
              have j2 : decide ((B : Int) < (k : Int)) = true := by simp; omega
              have hw3 : IntKind.i64.wrap ((k : Int) - 1) = ((k - 1 : Nat) : Int) := by rw [show ((k - 1 : Nat) : Int) = (k : Int) - 1 by omega]; exact IntWalk.i64_in _ (by omega)
              have hn3 : (0 : Int) ≤ ((k - 1 : Nat) : Int) := by omega
              have hix : k - 1 < v.length := by have := HVl.out; omega
              obtain ⟨b, o, rfl, hbl, d0⟩ := XR.out.get hix
              have Hx := Lib.hid (show U.getD k 0 = v.getD (k - 1) 0 from by rw [HG.out]; rw [if_neg (by omega)]; unfold dnI; rw [if_neg (by omega)])
              generalize v.getD (k - 1) 0 = x at *
              have hO2 := HO.out x
              clear HG HO hix
              go_wp2_with (at_builtin; refine wpList_app elemI rfl _ _ rfl hO2 rfl rfl (RowAt.of_heap (World.alloc_heap_new wr _)) rfl (ones_int [x]) (by unfold maxLen; omega) (by omega) (by have := hB.size; simp; omega) ?_)
              intro v' w3 ho hg3 hb3 _ _
              go_wp2
              go_roundw
              case rel => exact ⟨k + 1, by omega, by go_num, hB.trans ((((Below.refl _ _).alloc (Nat.le_refl _) _).mono hB.size).trans hb3), by rw [Hs.out, Hx.out]; simpa using ho⟩
              case measure => simp [RowKit.intOf]; omega
          · have hk2 : k = c.ps.length := by omega
            subst hk2
            rw [List.take_of_length_le (by rw [HUl'.out]; exact Nat.le_refl _)] at hown
            obtain ⟨va, vc, rfl, _⟩ := owns_slice hown
            have hul := HUl'.out
            have hmm := HMM.out
            have XA : IntsAt wr va U.length vc U := IntsAt.of_owns (by rw [hul]; exact hown) (by omega)
            rw [hul] at XA
            have fB2 := fB _ _ _ _ wr SR.out.c1 XA (by omega)
            rw [HUa.out] at fB2
            have HUl2 := Lib.hid hul
            clear hul XA fB
            go_wp2_with (first
              | (go_at_call 34; (with_reducible refine fB2.mono ?_); rintro e w6 ⟨rfl, hb6⟩)
              | (go_at_call 17; (with_reducible refine (ltold _).mono ?_); rintro e wT ⟨rfl, hbT⟩))
            go_ret
            exact ⟨rfl, (((S5.out.ch hB).ch hb6).below).ch2 hbT⟩
      · have HNO := Lib.hid (show ∀ p, SameC p RC → p.asg v = false from fun p hp => by
          cases h : p.asg v with
          | false => rfl
          | true => have := ((HA.out p hp).2.2 h).1; have := HM.out; omega)
        clear fB HUl
        go_enter Tryz.func8, Tryz.ntmps8
        go_wp2_with (first
          | (go_at_call 27; (with_reducible refine (fSm _ S0.out.c1).mono ?_); rintro e w1 ⟨b, rfl, hb1, _⟩; have S1 := (S0.out).ch hb1; clear y0 y1 y2 y3 yl; obtain ⟨y0, y1, y2, y3, yl⟩ := S1.cells; have S1 := Lib.hid S1; have XL := Lib.hid (XL.out.below hb1); cases b; clear hb1)
          | (go_at_call 18; (with_reducible refine (fM _ S1.out.c1).mono ?_); rintro e w2 ⟨p, hp, rfl, hb2, hpc⟩; have S2 := (S1.out).ch hb2; clear y0 y1 y2 y3 yl; obtain ⟨y0, y1, y2, y3, yl⟩ := S2.cells; have S2 := Lib.hid S2; have XL := Lib.hid (XL.out.below hb2); have XP := Lib.hid (hpc); clear hpc; clear hb2)
          | (go_at_call 31; (with_reducible refine (fL _ (S2.out.al _).c1).mono ?_); rintro e w3 ⟨rfl, hb3⟩; have S3 := ((S2.out.al _)).ch hb3; clear y0 y1 y2 y3 yl; obtain ⟨y0, y1, y2, y3, yl⟩ := S3.cells; have S3 := Lib.hid S3; have XL := Lib.hid ((XL.out.below (one_alloc _ _)).below hb3); have XP := Lib.hid ((XP.out.below (one_alloc _ _)).below hb3); have ZP := Lib.hid ((HB.new w2 #[.string p.ware, .int .i64 p.lim, .int .i64 p.byr, .slice p.a p.ps.length p.cap] 24).below hb3); obtain ⟨p0, p1, p2, p3, pf, pl⟩ := cell4w ZP.out; have HP3 := Lib.hid (HA.out p hp); clear hb3)
          | (go_at_call 31; (with_reducible refine (fL2 p _ XP.out).mono ?_); rintro e w4 ⟨rfl, hb4⟩; rw [HP3.out.1, HP3.out.2.1]; have S4 := (S3.out).ch hb4; clear y0 y1 y2 y3 yl; obtain ⟨y0, y1, y2, y3, yl⟩ := S4.cells; have S4 := Lib.hid S4; have XL := Lib.hid (XL.out.below hb4); have XP := Lib.hid (XP.out.below hb4); have ZP := Lib.hid (ZP.out.below hb4); clear p0 p1 p2 p3 pf pl; obtain ⟨p0, p1, p2, p3, pf, pl⟩ := cell4w ZP.out; clear hb4)
          | (go_at_call 34; (with_reducible refine (fA p _ XP.out XL.out (by have := HM.out; omega)).mono ?_); rintro e w5 ⟨rfl, hb5⟩; rw [HP3.out.2.1]; rw [HNO.out p hp]; have S5 := (S4.out).ch hb5; clear y0 y1 y2 y3 yl; obtain ⟨y0, y1, y2, y3, yl⟩ := S5.cells; have S5 := Lib.hid S5; have XL := Lib.hid (XL.out.below hb5); have XP := Lib.hid (XP.out.below hb5); have ZP := Lib.hid (ZP.out.below hb5); clear hb5)
          | (go_at_call 17; (with_reducible refine (ltold _).mono ?_); rintro e wT ⟨rfl, hbT⟩))
        · go_ret
          exact ⟨rfl, S1.out.below.ch2 hbT⟩
        · go_ret
          exact ⟨rfl, S5.out.below.ch2 hbT⟩
    · have b0 : (c.mrgE x y == 0) = false := by simpa using h0
      clear fL fL2 fA fB h0
      generalize resC (c.mrgE x y) (c.mrg x.toNat y.toNat) = RC at *
      generalize c.mrgE x y = E2 at *
      go_enter Tryz.func8, Tryz.ntmps8
      go_wp2_with (first
        | (go_at_call 27; (with_reducible refine (fSm _ S0.out.c1).mono ?_); rintro e w1 ⟨b, rfl, hb1, _⟩; have S1 := (S0.out).ch hb1; clear y0 y1 y2 y3 yl; obtain ⟨y0, y1, y2, y3, yl⟩ := S1.cells; have S1 := Lib.hid S1; have XL := Lib.hid (XL.out.below hb1); cases b; clear hb1)
        | (go_at_call 18; (with_reducible refine (fM _ S1.out.c1).mono ?_); rintro e w2 ⟨p, hp, rfl, hb2, hpc⟩; have S2 := (S1.out).ch hb2; clear y0 y1 y2 y3 yl; obtain ⟨y0, y1, y2, y3, yl⟩ := S2.cells; have S2 := Lib.hid S2; have XL := Lib.hid (XL.out.below hb2); have XP := Lib.hid (hpc); clear hpc; clear hb2)
        | (go_at_call 17; (with_reducible refine (ltold _).mono ?_); rintro e w3 ⟨rfl, hb3⟩; have S3 := ((S2.out.al _)).ch hb3; clear y0 y1 y2 y3 yl; obtain ⟨y0, y1, y2, y3, yl⟩ := S3.cells; have S3 := Lib.hid S3; have XL := Lib.hid ((XL.out.below (one_alloc _ _)).below hb3); have XP := Lib.hid ((XP.out.below (one_alloc _ _)).below hb3); clear hb3)
        | (go_at_call 17; (with_reducible refine (ltold _).mono ?_); rintro e wT ⟨rfl, hbT⟩))
      all_goals go_ret
      all_goals first
        | exact ⟨rfl, S3.out.below⟩
        | exact ⟨rfl, S1.out.below.ch2 hbT⟩
  · have q1' : decide ((60 : Int) < (m : Int)) = true := by simp; omega
    clear fM fL fL2 fA fB
    go_enter Tryz.func8, Tryz.ntmps8
    go_wp2_with (first
      | (go_at_call 27; (with_reducible refine (fSm _ S0.out.c1).mono ?_); rintro e w1 ⟨b, rfl, hb1, _⟩; have S1 := (S0.out).ch hb1; clear y0 y1 y2 y3 yl; obtain ⟨y0, y1, y2, y3, yl⟩ := S1.cells; have S1 := Lib.hid S1; have XL := Lib.hid (XL.out.below hb1); cases b; clear hb1)
      | (go_at_call 17; (with_reducible refine (ltold _).mono ?_); rintro e wT ⟨rfl, hbT⟩))
    all_goals go_ret
    all_goals first
      | exact ⟨rfl, S1.out.below.ch2 hbT⟩
end Go.Proofs.YtodkbfbbpfghiaaGreat
namespace Go.Proofs.YtodkbfbbpfghiaaGreat
open Go.ChangeShapes Go.WideShapes Go.ChangeAt Go.RowKit Go.Joins Go.Deep
set_option maxRecDepth 100000 in
theorem wholeMerged_lifted (os : Os) (started : os.Started) (H : Type) (enc : TypeId × Value → H) :
    ReturnsInHanded {} Tryz.checked os 8 .any (Rows.wholeMergedSpec.pre6 enc Tryz.prog Tryz.f8 Rows.wholeMergedRow.domain false) (Rows.wholeMergedSpec.post enc Tryz.prog Tryz.f8 false true false false) := by
  refine returnsInHanded_of_change_sized (C := Tryz.checked) Tryz.own started (by kernel_rfl) Tryz.func8
    (ChangeSpec.witness6 (enc := enc) (C := Tryz.checked) false ⟨#[], #[.agg #[.string ⟨#[]⟩, .int .i64 0, .int .i64 0, .slice none 0 0], .int .i64 0, .int .i64 0, .slice none 0 0], []⟩ 8 (by kernel_rfl) (by kernel_rfl) (by kernel_rfl) (by kernel_rfl)) ?_
  intro W base args ds gs before hval0 hW _ hsz0 _
  have hsz : (DataW.weightsEach Tryz.prog (Tryz.f8.params.toList ++ Rows.wholeMergedSpec.plain.varTypes Tryz.prog) (ds ++ gs)).all (· ≤ reachBytes) = true := hsz0
  clear hsz0
  have hval : ∀ (j : Nat) t v, Tryz.f8.params[j]? = some t → args[j]? = some v → Value.okWide Tryz.prog W .any base t v := hval0
  have hW' := hW
  obtain ⟨p, q, hA0, hV, rfl, _, _⟩ := hW
  have hA : DataW.TrodAll enc Tryz.prog W 0 (fun _ => true) true Tryz.f8.params.toList args.toList ds p := hA0
  rw [Tryz.params8] at hA hval hsz
  obtain ⟨v0, vs0, d0, ds0, p0, q0, hargs, rfl, rfl, h0, r0⟩ := trodAll_cons hA
  obtain ⟨v1, vs1, d1, ds1, p1, q1, rfl, rfl, rfl, h1, r1⟩ := trodAll_cons r0
  obtain ⟨v2, vs2, d2, ds2, p2, q2, rfl, rfl, rfl, h2, r2⟩ := trodAll_cons r1
  obtain ⟨v3, vs3, d3, ds3, p3, q3, rfl, rfl, rfl, h3, r3⟩ := trodAll_cons r2
  obtain ⟨rfl, rfl, rfl⟩ := trodAll_nil r3
  obtain rfl : args = #[v0, v1, v2, v3] := by cases args; simp_all
  obtain ⟨rfl, rfl⟩ := trodVars_none hV
  clear hA0 hval0
  have hlt : ∀ x ∈ p0 ++ p1 ++ p2 ++ p3, x.block < W.heap.size := fun x hx => by have := hW'.lt x (by simpa using hx); simpa using this
  obtain ⟨c0, rfl, hb0, hn0⟩ := case_open (hval 0 24 v0 rfl rfl) h0 (fun n hn => by
    have := List.all_eq_true.1 hsz _ (DataW.weights_mem_each (j := 0) rfl rfl n hn)
    simpa using this)
  obtain ⟨x1, rfl⟩ := okWide_int Tryz.underlying3 (hval 1 3 v1 rfl rfl)
  obtain ⟨x2, rfl⟩ := okWide_int Tryz.underlying3 (hval 2 3 v2 rfl rfl)
  obtain ⟨a3, n3, k3, xs3, rfl, hb3, hn3⟩ := ints_open (hval 3 34 v3 rfl rfl) h3 (fun n hn => by
    have := List.all_eq_true.1 hsz _ (DataW.weights_mem_each (j := 3) rfl rfl n hn)
    simpa using this)
  refine (law_merged c0 x1 x2 a3 n3 k3 xs3 W hb0 hn0 hb3 hn3).mono fun e W' ⟨he, hw⟩ => ?_
  subst he
  exact ⟨_, rfl, ⟨_, _, _, [], _, [], hW', trodAll_mk1 (shut_bool Tryz.underlying4 _), (trodAll_cons_mk (Below.trod Tryz.laidOut (by kernel_rfl) (of_decide_eq_true (by kernel_rfl)) h0 hw (fun x hx => hlt x (by simp [hx]))) (trodAll_cons_mk (Below.trod Tryz.laidOut (by kernel_rfl) (of_decide_eq_true (by kernel_rfl)) h1 hw (fun x hx => hlt x (by simp [hx]))) (trodAll_cons_mk (Below.trod Tryz.laidOut (by kernel_rfl) (of_decide_eq_true (by kernel_rfl)) h2 hw (fun x hx => hlt x (by simp [hx]))) (trodAll_cons_mk (Below.trod Tryz.laidOut (by kernel_rfl) (of_decide_eq_true (by kernel_rfl)) h3 hw (fun x hx => hlt x (by simp [hx]))) trodAll_mk0)))), rfl, hw.frame _, fun h => by cases h⟩⟩
theorem wholeMerged_holds : Rows.WholeMergedSaid :=
  OpenClaim.holds_of_wide 8 Tryz.f8 rfl rfl rfl rfl rfl rfl rfl ⟨rfl, rfl, rfl, rfl, rfl⟩ rfl rfl rfl rfl rfl (by kernel_rfl) Tryz.func8 (by kernel_rfl)
    (of_decide_eq_true (by kernel_rfl)) (by unfold Func.isWrapper; rw [if_neg (of_decide_eq_false (by kernel_rfl))]; exact ⟨rfl, rfl⟩)
    (fun os started H enc _ => wholeMerged_lifted os started H enc)
#print axioms wholeMerged_holds
end Go.Proofs.YtodkbfbbpfghiaaGreat
