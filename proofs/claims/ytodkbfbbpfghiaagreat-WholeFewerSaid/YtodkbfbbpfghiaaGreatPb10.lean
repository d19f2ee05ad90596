/-
  Lemmas and walks for the laws on roads and boards: what each function of the program answers, for every input.
-/
import Derived.Test.YtodkbfbbpfghiaaGreatPb09
import Derived.Test.YtodkbfbbpfghiaaGreatPb05
import Derived.Test.YtodkbfbbpfghiaaGreatPb08
set_option linter.unusedSimpArgs false
set_option linter.unusedVariables false
set_option linter.unnecessarySimpa false
namespace Go.Proofs.YtodkbfbbpfghiaaGreat
open Go.RowKit Go.Shelf
set_option maxHeartbeats 4000000
set_option maxRecDepth 100000
def Cs.wit (c : Cs) (l : List Int) : Bool := decide (c.chk = 0) && witB c.s [] l
theorem r6CheckWitness (c : Cs) (al : Option Addr) (m cl : Nat) (l : List Int) (w : World) (hc : CsAt w c) (hl : IntsAt w al m cl l) :
    Calls Tryz.prog 24 #[c.v, .slice al m cl] w fun e w' => e = .returned (.tuple #[.bool (c.wit l), .int .i64 c.chk]) ∧ Below w.heap.size w w' := by
  have hC := fun w1 (h : CsAt w1 c) => r6chk c w1 h
  have hD := fun w1 (h : CsAt w1 c) (hl : IntsAt w1 al m cl l) => r6witness c.a _ c.cap c.ps al m cl l w1 h.ps hl
  have hr : c.wit l = (decide (c.chk = 0) && witB (pns c.ps) [] l) := rfl
  generalize c.wit l = R at *
  generalize witB (pns c.ps) [] l = D at *
  generalize c.chk = E at *
  obtain ⟨ware, lim, byr, a, cap, ps⟩ := c
  simp only [Cs.v] at *
  have hB0 := one_alloc w (Obj.cells #[.string ware, .int .i64 lim, .int .i64 byr, .slice a ps.length cap] 24)
  have hbx := hc.below hB0
  have hlx := hl.below hB0
  by_cases h0 : E = 0
  · subst h0
    simp only [decide_true, Bool.true_and] at hr
    subst hr
    go_enter Tryz.func24, Tryz.ntmps24
    go_wp2_with (first
      | (go_at_call 59; refine (hC _ hbx).mono ?_; rintro e w1 ⟨rfl, hb1⟩; obtain ⟨hc1, hf1⟩ := bcell hb1; have hz1 := lt_size hb1 (b := w.heap.size) (by first | assumption | omega | (simp; done) | (simp; omega)); have hby := hbx.below hb1; have hly := hlx.below hb1)
      | (go_at_call 79; refine (hD _ hby hly).mono ?_; rintro e w2 ⟨rfl, hb2⟩))
    go_ret2
    exact ⟨rfl, (hB0.ch2 hb1).ch2 hb2⟩
  · have h2 : (E != 0) = true := by simpa using h0
    have hd : decide (E = 0) = false := by simpa using h0
    rw [hd] at hr
    simp only [Bool.false_and] at hr
    subst hr
    clear h0 hd
    go_enter Tryz.func24, Tryz.ntmps24
    go_wp2_with (go_at_call 59; refine (hC _ hbx).mono ?_; rintro e w1 ⟨rfl, hb1⟩)
    go_ret2
    exact ⟨rfl, hB0.ch2 hb1⟩
def noClN (s : List Pn) (v : List Int) (k : Nat) : Bool := (List.range k).all fun i => (List.range i).all fun j => !(v.getD j 0 == v.getD i 0 && clB s j i)
def noClM (s : List Pn) (v : List Int) (k m : Nat) : Bool := (List.range m).all fun j => !(v.getD j 0 == v.getD k 0 && clB s j k)
theorem noClN_succ (s : List Pn) (v : List Int) (k : Nat) : noClN s v (k + 1) = (noClN s v k && noClM s v k k) := by
  unfold noClN noClM
  rw [List.range_succ, List.all_append]; simp
theorem noClM_succ (s : List Pn) (v : List Int) (k m : Nat) : noClM s v k (m + 1) = (noClM s v k m && !(v.getD m 0 == v.getD k 0 && clB s m k)) := by
  unfold noClM
  rw [List.range_succ, List.all_append]; simp
theorem noCl_no {s : List Pn} {v : List Int} {m k : Nat} (hm : m < k) (hk : k < v.length) (h : (v.getD m 0 == v.getD k 0 && clB s m k) = true) : asgM s v = none := by
  unfold asgM
  rw [if_neg]
  rintro ⟨_, h2⟩
  simp only [Bool.and_eq_true, beq_iff_eq] at h
  have := noClB_iff.1 h2 k m hm hk h.1
  rw [h.2] at this; cases this
theorem rgO_take {v : List Int} {k : Nat} (hk : k < v.length) : rgO (v.take (k + 1)) 0 = (rgO (v.take k) 0).bind fun m => if 0 ≤ v.getD k 0 ∧ v.getD k 0 ≤ m then some (if v.getD k 0 = m then m + 1 else m) else none := by
  rw [take_get hk, rgO_app]
  congr 1
theorem rgO_none {v : List Int} {k : Nat} (h : rgO (v.take k) 0 = none) : rgO v 0 = none := by
  have e : v = v.take k ++ v.drop k := (List.take_append_drop k v).symm
  rw [e, rgO_app, h]; rfl
theorem rg_no {s : List Pn} {v : List Int} {k m : Nat} (hk : k < v.length) (h : rgO (v.take k) 0 = some m) (hx : withinB (v.getD k 0) 0 m = false) : asgM s v = none := by
  have h1 : rgO v 0 = none := by
    apply rgO_none (k := k + 1)
    rw [rgO_take hk, h]
    simp only [Option.bind_some]
    rw [if_neg]
    intro h2
    rw [Bool.eq_false_iff] at hx
    exact hx (withinB_iff.2 h2)
  unfold asgM
  split
  · exact h1
  · rfl
def Cs.asg (c : Cs) (v : List Int) : Bool := decide (c.chk = 0) && match asgM c.s v with | some m => decide (c.lim = 0) || decide ((m : Int) ≤ c.lim) | none => false
theorem r6CheckAssign (c : Cs) (al : Option Addr) (m cl : Nat) (v : List Int) (w : World) (hc : CsAt w c) (hl : IntsAt w al m cl v) :
    Calls Tryz.prog 41 #[c.v, .slice al m cl] w fun e w' => e = .returned (.tuple #[.bool (c.asg v), .int .i64 c.chk]) ∧ Below w.heap.size w w' := by
  have hC := fun w1 (h : CsAt w1 c) => r6chk c w1 h
  have hok := @Cs.chk_zero c
  have hr : c.asg v = (decide (c.chk = 0) && match asgM (pns c.ps) v with | some m => decide (c.lim = 0) || decide ((m : Int) ≤ c.lim) | none => false) := rfl
  obtain rfl := hl.len
  have hls := hl.small
  generalize c.asg v = R at *
  by_cases h0 : c.chk = 0
  · have hmany := (hok.1 h0).many
    simp only [h0, decide_true, Bool.true_and] at hr hC ⊢
    obtain ⟨ware, lim, byr, a, cap, ps⟩ := c
    simp only [Cs.v] at *
    have hB0 := one_alloc w (Obj.cells #[.string ware, .int .i64 lim, .int .i64 byr, .slice a ps.length cap] 24)
    have hbx := hc.below hB0
    have hlx := hl.below hB0
    have hk := fun w1 (h : CsAt w1 ⟨ware, lim, byr, a, cap, ps⟩) i k (hi : i < ps.length) (hk : k < ps.length) => r6clash_any a _ cap ps i k w1 h.ps hi hk
    by_cases hlen : v.length = ps.length
    · have hlb : ((v.length : Int) != (ps.length : Int)) = false := by simp [hlen]
      have hlb2 : (v.length != ps.length) = false := by simp [hlen]
      have Hno := Lib.hid (fun m k hm hk h => @noCl_no (pns ps) v m k hm hk h)
      have Hrg := Lib.hid (fun k m hk h hx => @rg_no (pns ps) v k m hk h hx)
      have HR : Hid (asgM (pns ps) v = none → R = false) := Lib.hid (fun h => by rw [hr, h])
      have HR2 : Hid (∀ m, asgM (pns ps) v = some m → R = (decide (lim = 0) || decide ((m : Int) ≤ lim))) := Lib.hid (fun m h => by rw [hr, h])
      have Hlen := Lib.hid hlen
      clear hok h0 hr hlen
      go_enter Tryz.func41, Tryz.ntmps41
      go_wp2_with (go_at_call 59; refine (hC _ hbx).mono ?_; rintro e w1 ⟨rfl, hb1⟩; obtain ⟨hc1, hf1⟩ := bcell hb1; have hz1 := lt_size hb1 (b := w.heap.size) (by first | assumption | omega | (simp; done) | (simp; omega)); have hby := hbx.below hb1; have hly := hlx.below hb1)
      have c0 : w1.cell? ⟨w.heap.size, 3, none⟩ = some (.slice a ps.length cap) := by simp [go_sem, *]
      have c2 : w1.cell? ⟨w.heap.size, 1, none⟩ = some (.int .i64 lim) := by simp [go_sem, *]
      have hBW : Below w.heap.size w w1 := hB0.ch2 hb1
      clear hc1 hf1 hb1 hC hB0 hbx hlx
      go_loopw [7, 8] (fun mm i wr => ∃ k M : Nat, k ≤ v.length ∧ M ≤ k ∧ mm = .int .i64 M ∧ i = .int .i64 k ∧ Below w1.heap.size w1 wr ∧ rgO (v.take k) 0 = some M ∧ noClN (pns ps) v k = true) (fun _ i _ => v.length - (RowKit.intOf i).toNat)
      case atStart => exact ⟨0, 0, Nat.zero_le _, Nat.le_refl _, rfl, rfl, Below.refl _ _, rfl, rfl⟩
      case round =>
        obtain ⟨k, M, hk', hM, rfl, rfl, hB, hrg, hncl⟩ := hrel
        have Hr := Lib.hid hrg
        have Hn := Lib.hid hncl
        clear hrg hncl
        have hnn : (0 : Int) ≤ k := by omega
        have c1 := ((bcell hB).1 _ 3 hz1).trans c0
        have c3 := ((bcell hB).1 _ 1 hz1).trans c2
        by_cases hlt : k < v.length
        · have i1 : (k : Int) < (v.length : Int) := by omega
          have Hkp : Hid (k < ps.length) := Lib.hid (by rw [← Hlen.out]; exact hlt)
          obtain ⟨b, o, rfl, hbl, d0⟩ := (hly.below hB).get hlt
          have Hrt := Lib.hid (@rgO_take v k hlt)
          have Hrgk := Lib.hid (Hrg.out k M hlt Hr.out)
          obtain ⟨x, hx⟩ : ∃ x, v.getD k 0 = x := ⟨_, rfl⟩
          rw [hx] at d0 Hrt Hrgk
          have Hx := Lib.hid hx
          clear hx
          have hW := fun w2 => r6within_any x 0 M w2
          cases h1 : withinB x 0 M
          · simp only [h1] at hW
            have Hf := Lib.hid (HR.out (Hrgk.out h1))
            clear h1
            go_wp2_with (go_at_call 93; refine (hW _).mono ?_; rintro e w2 ⟨rfl, rfl⟩)
            go_ret2
            rw [Hf.out]
            exact ⟨rfl, hBW.ch2 hB⟩
          · simp only [h1] at hW
            have H1 := Lib.hid (withinB_iff.1 h1)
            clear h1
            obtain ⟨M2, hM2⟩ : ∃ M2 : Nat, (if x = (M : Int) then M + 1 else M) = M2 := ⟨_, rfl⟩
            have HM2 := Lib.hid hM2
            have hM2' : M2 ≤ k + 1 := by rw [← hM2]; split <;> omega
            have Hnr : Hid (rgO (v.take (k + 1)) 0 = some M2) := Lib.hid (by rw [Hrt.out, Hr.out]; simp only [Option.bind_some]; rw [if_pos H1.out, hM2])
            clear hM2
            cases hq : (x == (M : Int))
            · have hM3 : M2 = M := by rw [← HM2.out]; simp at hq; rw [if_neg hq]
              subst hM3
              go_wp2_with (go_at_call 93; refine (hW _).mono ?_; rintro e w2 ⟨rfl, rfl⟩)
              clear d0 c1 c3
              go_loopw [9] (fun i wr => ∃ j : Nat, j ≤ k ∧ i = .int .i64 j ∧ Below w1.heap.size w1 wr ∧ noClM (pns ps) v k j = true) (fun i _ => k - (RowKit.intOf i).toNat)
              case atStart => exact ⟨0, Nat.zero_le _, rfl, hB, rfl⟩
              case round =>
                rename World => wr2
                obtain ⟨j, hj, rfl, hB2, hall2⟩ := hrel
                have hjn : (0 : Int) ≤ j := by omega
                by_cases hjk : j < k
                · have j1 : (j : Int) < (k : Int) := by omega
                  have j2 : (j : Int) < (v.length : Int) := by omega
                  obtain ⟨b3, o3, e3, bl1, f0⟩ := (hly.below hB2).get hlt
                  simp at e3
                  obtain ⟨rfl, rfl⟩ := e3
                  obtain ⟨b4, o4, e4, bl2, f1⟩ := (hly.below hB2).get (i := j) (by omega)
                  simp at e4
                  obtain ⟨rfl, rfl⟩ := e4
                  have Hs2 := Lib.hid (noClM_succ (pns ps) v k j)
                  have Hall2 := Lib.hid hall2
                  have Hnj := Lib.hid (Hno.out j k hjk hlt)
                  clear hall2
                  rw [Hx.out] at f0 Hs2 Hnj
                  obtain ⟨y, hy⟩ : ∃ y, v.getD j 0 = y := ⟨_, rfl⟩
                  rw [hy] at f1 Hs2 Hnj
                  clear hy
                  have c1 := ((bcell hB2).1 _ 3 hz1).trans c0
                  have hzr : w.heap.size < wr2.heap.size := lt_size hB2 hz1
                  have hkk := fun w2 (h : Below wr2.heap.size wr2 w2) => hk w2 ((hby.below hB2).below h) j k (by have := Hkp.out; omega) Hkp.out
                  obtain ⟨B, hcl⟩ : ∃ B, clB (pns ps) j k = B := ⟨_, rfl⟩
                  rw [hcl] at hkk Hs2 Hnj
                  clear hcl
                  cases hyx : (y == x)
                  · rw [hyx] at Hs2
                    go_wp2_with fail
                    go_quiet (fail)
                    go_wp2
                    go_roundw
                    case rel => exact ⟨j + 1, by omega, by go_num, belowN hB2, by rw [Hs2.out, Hall2.out]; rfl⟩
                    case measure => simp [RowKit.intOf]; omega
                  · rw [hyx] at Hs2 Hnj
                    have hyx' : x = y := by simp at hyx; exact hyx.symm
                    subst hyx'
                    have eqx : ((x) == (x)) = true := by simp
                    go_wp2_with fail
                    refine (wpIn_wide (n := 0)).1 ?_
                    refine SLF.rule (ro := none) (by kernel_rfl) [] [47, 48, 49, 50, 51, 52, 53, 54, 55, 56, 57, 58, 59, 60, 61, 62] [SLF.pq 47 [] (.slice (some ⟨b, o, none⟩) v.length cl), SLF.pq 48 [] (.int .i64 j), SLF.pq 49 [0, 1] (.pointer (some ⟨b, o + j, none⟩)), SLF.pq 50 [2] (.int .i64 (x)), SLF.pq 51 [] (.slice (some ⟨b, o, none⟩) v.length cl), SLF.pq 52 [] (.int .i64 k), SLF.pq 53 [4, 5] (.pointer (some ⟨b, o + k, none⟩)), SLF.pq 54 [6] (.int .i64 (x)), SLF.pq 55 [3, 7] (.bool true), SLF.pq 56 [8] (.bool true), SLF.pq 57 [9] (.pointer (some ⟨w.heap.size, 3, none⟩)), SLF.pq 58 [9, 10] (.slice a ps.length cap), SLF.pq 59 [9] (.int .i64 j), SLF.pq 60 [9] (.int .i64 k), SL.pu 61 [9, 11, 12, 13] (.bool B), SLF.pq 62 [9, 14] (.bool B)]
                      [15] (by kernel_rfl) (by kernel_rfl) (fun _ => []) (SL.none_held rfl) (by simp) ?_ ?_
                    · refine ⟨?_, ?_, ?_, ?_, ?_, ?_, ?_, ?_, ?_, ?_, ?_, ?_, ?_, ?_, ?_, ?_, trivial⟩
                      all_goals refine SLF.ob fun us w' Fe hG hu hd hv Kx hK => ?_
                      all_goals simp [SL.frame, SL.put', SL.Used, SL.Seen, SL.pu, SL.row, SL.box, SL.rowIn, SL.boxIn, SL.boxAt, SL.boxAtIn, Bd.v, Bd.cs, SLF.pq] at hu hv hK
                      all_goals (have hB5 : Below wr2.heap.size wr2 w' := hG.below')
                      all_goals (have hcc := (bcell hB5).1)
                      all_goals (rw [← hcc _ _ bl1] at f0 f1; rw [← hcc _ _ hzr] at c1)
                      all_goals clear hcc hd hv hG
                      all_goals first
                        | refine SLF.wpo_do (SLF.wanted_free rfl) (by intro c h; cases h) ?_
                        | refine SLF.wpo_do (SLF.wanted_by rfl rfl (by simp [SL.frame, SL.put', hu]; done)) (by intro c h; cases h) ?_
                      all_goals simp [SL.frame, SL.put', SL.Used, SL.Seen, SL.pu, SL.row, SL.box, SL.rowIn, SL.boxIn, SL.boxAt, SL.boxAtIn, Bd.v, Bd.cs]
                      all_goals try (go_step; exact hK _ _ _ _ (by simp [Act.put, *]; done) (SL.Chg.refl _ _) rfl rfl (by simp) (by simp))
                      go_step
                      refine (hkk _ hB5).mono ?_
                      rintro e w2 ⟨rfl, hb3⟩
                      exact hK _ _ w2 _ (by simp [Act.put, *]; done) (.of_below hb3) rfl rfl (by simp)
                    · intro us w5 Fs hG hu hbd hd
                      simp [SL.frame, SL.put', SL.Used, SL.Seen, SL.pu, SL.row, SL.box, SL.rowIn, SL.boxIn, SL.boxAt, SL.boxAtIn, Bd.v, Bd.cs, SLF.pq] at hu ⊢
                      have hB5 : Below wr2.heap.size wr2 w5 := hG.below'
                      obtain ⟨u36, _⟩ := hu
                      simp only [u36]
                      clear hbd hd hG f0 f1 c1
                      cases B
                      · go_wp2_with fail
                        go_roundw
                        case rel => exact ⟨j + 1, by omega, by go_num, hB2.ch2 hB5, by rw [Hs2.out, Hall2.out]; rfl⟩
                        case measure => simp [RowKit.intOf]; omega
                      · have Hf := Lib.hid (HR.out (Hnj.out rfl))
                        go_wp2_with fail
                        go_ret2
                        rw [Hf.out]
                        exact ⟨rfl, (hBW.ch2 hB2).ch2 hB5⟩
                · have hjk' : j = k := by omega
                  subst hjk'
                  have Hall2 := Lib.hid hall2
                  clear hall2
                  go_wp2_with fail
                  go_roundw
                  case rel => exact ⟨j + 1, _, by omega, hM2', rfl, by go_num, hB2, Hnr.out, by rw [noClN_succ, Hn.out, Hall2.out]; rfl⟩
                  case measure => simp [RowKit.intOf]; omega
            · have hM3 : M2 = M + 1 := by rw [← HM2.out]; simp at hq; rw [if_pos hq]
              subst hM3
              have hxm : x = (M : Int) := by simpa using hq
              subst hxm
              go_wp2_with (go_at_call 93; refine (hW _).mono ?_; rintro e w2 ⟨rfl, rfl⟩)
              clear d0 c1 c3
              go_loopw [9] (fun i wr => ∃ j : Nat, j ≤ k ∧ i = .int .i64 j ∧ Below w1.heap.size w1 wr ∧ noClM (pns ps) v k j = true) (fun i _ => k - (RowKit.intOf i).toNat)
              case atStart => exact ⟨0, Nat.zero_le _, rfl, hB, rfl⟩
              case round =>
                rename World => wr2
                obtain ⟨j, hj, rfl, hB2, hall2⟩ := hrel
                have hjn : (0 : Int) ≤ j := by omega
                by_cases hjk : j < k
                · have j1 : (j : Int) < (k : Int) := by omega
                  have j2 : (j : Int) < (v.length : Int) := by omega
                  obtain ⟨b3, o3, e3, bl1, f0⟩ := (hly.below hB2).get hlt
                  simp at e3
                  obtain ⟨rfl, rfl⟩ := e3
                  obtain ⟨b4, o4, e4, bl2, f1⟩ := (hly.below hB2).get (i := j) (by omega)
                  simp at e4
                  obtain ⟨rfl, rfl⟩ := e4
                  have Hs2 := Lib.hid (noClM_succ (pns ps) v k j)
                  have Hall2 := Lib.hid hall2
                  have Hnj := Lib.hid (Hno.out j k hjk hlt)
                  clear hall2
                  rw [Hx.out] at f0 Hs2 Hnj
                  obtain ⟨y, hy⟩ : ∃ y, v.getD j 0 = y := ⟨_, rfl⟩
                  rw [hy] at f1 Hs2 Hnj
                  clear hy
                  have c1 := ((bcell hB2).1 _ 3 hz1).trans c0
                  have hzr : w.heap.size < wr2.heap.size := lt_size hB2 hz1
                  have hkk := fun w2 (h : Below wr2.heap.size wr2 w2) => hk w2 ((hby.below hB2).below h) j k (by have := Hkp.out; omega) Hkp.out
                  obtain ⟨B, hcl⟩ : ∃ B, clB (pns ps) j k = B := ⟨_, rfl⟩
                  rw [hcl] at hkk Hs2 Hnj
                  clear hcl
                  cases hyx : (y == (M : Int))
                  · rw [hyx] at Hs2
                    go_wp2_with fail
                    go_quiet (fail)
                    go_wp2
                    go_roundw
                    case rel => exact ⟨j + 1, by omega, by go_num, belowN hB2, by rw [Hs2.out, Hall2.out]; rfl⟩
                    case measure => simp [RowKit.intOf]; omega
                  · rw [hyx] at Hs2 Hnj
                    have hyx' : (M : Int) = y := by simp at hyx; exact hyx.symm
                    subst hyx'
                    have eqx : (((M : Int)) == ((M : Int))) = true := by simp
                    go_wp2_with fail
                    refine (wpIn_wide (n := 0)).1 ?_
                    refine SLF.rule (ro := none) (by kernel_rfl) [] [47, 48, 49, 50, 51, 52, 53, 54, 55, 56, 57, 58, 59, 60, 61, 62] [SLF.pq 47 [] (.slice (some ⟨b, o, none⟩) v.length cl), SLF.pq 48 [] (.int .i64 j), SLF.pq 49 [0, 1] (.pointer (some ⟨b, o + j, none⟩)), SLF.pq 50 [2] (.int .i64 ((M : Int))), SLF.pq 51 [] (.slice (some ⟨b, o, none⟩) v.length cl), SLF.pq 52 [] (.int .i64 k), SLF.pq 53 [4, 5] (.pointer (some ⟨b, o + k, none⟩)), SLF.pq 54 [6] (.int .i64 ((M : Int))), SLF.pq 55 [3, 7] (.bool true), SLF.pq 56 [8] (.bool true), SLF.pq 57 [9] (.pointer (some ⟨w.heap.size, 3, none⟩)), SLF.pq 58 [9, 10] (.slice a ps.length cap), SLF.pq 59 [9] (.int .i64 j), SLF.pq 60 [9] (.int .i64 k), SL.pu 61 [9, 11, 12, 13] (.bool B), SLF.pq 62 [9, 14] (.bool B)]
                      [15] (by kernel_rfl) (by kernel_rfl) (fun _ => []) (SL.none_held rfl) (by simp) ?_ ?_
                    · refine ⟨?_, ?_, ?_, ?_, ?_, ?_, ?_, ?_, ?_, ?_, ?_, ?_, ?_, ?_, ?_, ?_, trivial⟩
                      all_goals refine SLF.ob fun us w' Fe hG hu hd hv Kx hK => ?_
                      all_goals simp [SL.frame, SL.put', SL.Used, SL.Seen, SL.pu, SL.row, SL.box, SL.rowIn, SL.boxIn, SL.boxAt, SL.boxAtIn, Bd.v, Bd.cs, SLF.pq] at hu hv hK
                      all_goals (have hB5 : Below wr2.heap.size wr2 w' := hG.below')
                      all_goals (have hcc := (bcell hB5).1)
                      all_goals (rw [← hcc _ _ bl1] at f0 f1; rw [← hcc _ _ hzr] at c1)
                      all_goals clear hcc hd hv hG
                      all_goals first
                        | refine SLF.wpo_do (SLF.wanted_free rfl) (by intro c h; cases h) ?_
                        | refine SLF.wpo_do (SLF.wanted_by rfl rfl (by simp [SL.frame, SL.put', hu]; done)) (by intro c h; cases h) ?_
                      all_goals simp [SL.frame, SL.put', SL.Used, SL.Seen, SL.pu, SL.row, SL.box, SL.rowIn, SL.boxIn, SL.boxAt, SL.boxAtIn, Bd.v, Bd.cs]
                      all_goals try (go_step; exact hK _ _ _ _ (by simp [Act.put, *]; done) (SL.Chg.refl _ _) rfl rfl (by simp) (by simp))
                      go_step
                      refine (hkk _ hB5).mono ?_
                      rintro e w2 ⟨rfl, hb3⟩
                      exact hK _ _ w2 _ (by simp [Act.put, *]; done) (.of_below hb3) rfl rfl (by simp)
                    · intro us w5 Fs hG hu hbd hd
                      simp [SL.frame, SL.put', SL.Used, SL.Seen, SL.pu, SL.row, SL.box, SL.rowIn, SL.boxIn, SL.boxAt, SL.boxAtIn, Bd.v, Bd.cs, SLF.pq] at hu ⊢
                      have hB5 : Below wr2.heap.size wr2 w5 := hG.below'
                      obtain ⟨u36, _⟩ := hu
                      simp only [u36]
                      clear hbd hd hG f0 f1 c1
                      cases B
                      · go_wp2_with fail
                        go_roundw
                        case rel => exact ⟨j + 1, by omega, by go_num, hB2.ch2 hB5, by rw [Hs2.out, Hall2.out]; rfl⟩
                        case measure => simp [RowKit.intOf]; omega
                      · have Hf := Lib.hid (HR.out (Hnj.out rfl))
                        go_wp2_with fail
                        go_ret2
                        rw [Hf.out]
                        exact ⟨rfl, (hBW.ch2 hB2).ch2 hB5⟩
                · have hjk' : j = k := by omega
                  subst hjk'
                  have Hall2 := Lib.hid hall2
                  clear hall2
                  go_wp2_with fail
                  go_roundw
                  case rel => exact ⟨j + 1, _, by omega, hM2', rfl, by go_num, hB2, Hnr.out, by rw [noClN_succ, Hn.out, Hall2.out]; rfl⟩
                  case measure => simp [RowKit.intOf]; omega
        · have hk2 : k = v.length := by omega
          subst hk2
          have hA : asgM (pns ps) v = some M := by
            unfold asgM
            have h2 := Hr.out
            rw [List.take_length] at h2
            rw [if_pos, h2]
            refine ⟨by rw [pns_len]; exact Hlen.out, Hn.out⟩
          have HA := Lib.hid (HR2.out M hA)
          clear hA
          obtain ⟨L1, hL1⟩ : ∃ L1, (lim == 0) = L1 := ⟨_, rfl⟩
          obtain ⟨L2, hL2⟩ : ∃ L2, decide ((M : Int) ≤ lim) = L2 := ⟨_, rfl⟩
          have hL3 : decide (lim = 0) = L1 := by rw [← hL1]; rfl
          rw [hL3, hL2] at HA
          clear hL3
          cases L1
          all_goals
            go_wp2_with fail
            go_ret2
            rw [HA.out]
            exact ⟨by simp, hBW.ch2 hB⟩
    · have hlb : ((v.length : Int) != (ps.length : Int)) = true := by simp; omega
      have hlb2 : (v.length != ps.length) = true := by simpa using hlen
      have hA : asgM (pns ps) v = none := by
        unfold asgM
        rw [if_neg]
        rintro ⟨h, _⟩
        rw [pns_len] at h
        exact hlen h
      rw [hA] at hr
      subst hr
      clear hA hlen hok h0 hk
      go_enter Tryz.func41, Tryz.ntmps41
      go_wp2_with (go_at_call 59; refine (hC _ hbx).mono ?_; rintro e w1 ⟨rfl, hb1⟩; obtain ⟨hc1, hf1⟩ := bcell hb1; have hz1 := lt_size hb1 (b := w.heap.size) (by first | assumption | omega | (simp; done) | (simp; omega)))
      go_ret2
      exact ⟨rfl, hB0.ch2 hb1⟩
  · have h2 : (c.chk != 0) = true := by simpa using h0
    have hd : decide (c.chk = 0) = false := by simpa using h0
    rw [hd] at hr
    simp only [Bool.false_and] at hr
    subst hr
    clear h0 hd hok
    generalize c.chk = E at *
    obtain ⟨ware, lim, byr, a, cap, ps⟩ := c
    simp only [Cs.v] at *
    have hB0 := one_alloc w (Obj.cells #[.string ware, .int .i64 lim, .int .i64 byr, .slice a ps.length cap] 24)
    have hbx := hc.below hB0
    go_enter Tryz.func41, Tryz.ntmps41
    go_wp2_with (go_at_call 59; refine (hC _ hbx).mono ?_; rintro e w1 ⟨rfl, hb1⟩)
    go_ret2
    exact ⟨rfl, hB0.ch2 hb1⟩
set_option maxHeartbeats 40000000
def critF (s : List Pn) (i : Nat) : Bool := decide (leastN (s.eraseIdx i) < leastN s)
def Cs.critL (c : Cs) : List Int := if c.chk = 0 then pickL (critF c.s) c.ps.length else []
/-- Two parts can be of one vessel. -/
def Cs.joiN (c : Cs) (a b : Nat) : Bool := !clB c.s a b && (decide (c.lim = 0) || decide ((leastN (merS c.s (min a b) (max a b)) : Int) ≤ c.lim))
theorem MixAt.pns {c : Cs} {a b : Nat} {g : Pt} (hg : GluOf g (c.ps.getD a default) (c.ps.getD b default)) (ha : a < c.ps.length) (hb : b < c.ps.length) : pns (mixPt c.ps a b g) = merS (pns c.ps) a b := by
  obtain ⟨sa, sc, ra, rc, rfl⟩ := hg
  exact mixPt_pns ha hb (gluPt_n _ _ _ _ _ _)
set_option maxHeartbeats 4000000
/-- What is a bar of two parts. -/
def Cs.barN (c : Cs) (a b : Nat) (l : List Int) : Bool := if clB c.s a b then decide (l.length = 0) else decide (0 < c.lim) && decide ((l.length : Int) = c.lim + 1) && witB (merS c.s (min a b) (max a b)) [] l
def Cs.bar (c : Cs) (x y : Int) (l : List Int) : Bool := decide (c.two x y = 0) && c.barN x.toNat y.toNat l
theorem comL_snoc (s : List Pn) (l : List Nat) (i : Nat) : comL s (l ++ [i]) = (max (comL s l).1 (s.getD i default).lo, min (comL s l).2 (s.getD i default).hi) := by simp [comL]
def Cs.com (c : Cs) (l : List Int) : (Int × Int) × Bool := if c.ask l = 0 ∧ (comL c.s (natL l)).1 ≤ (comL c.s (natL l)).2 then (comL c.s (natL l), true) else ((0, 0), false)
theorem natL_snoc {l : List Int} {k : Nat} (hk : k < l.length) : natL (l.take (k + 1)) = natL (l.take k) ++ [(l.getD k 0).toNat] := by
  unfold natL
  rw [List.take_succ_eq_append_getElem hk, List.map_append]
  simp [List.getD_eq_getElem?_getD, List.getElem?_eq_getElem hk]
theorem cell2w {W : World} {N : Nat} {u v : Value} {t : TypeId} (h : W.heap[N]? = some (.cells #[u, v] t (0, 0))) : W.cell? ⟨N, 0, none⟩ = some u ∧ W.cell? ⟨N, 1, none⟩ = some v ∧ (∀ i, W.frozen? ⟨N, i, none⟩ = false) ∧ N < W.heap.size := by
  have h0 := (SL.cells_of h).1 0
  have h1 := (SL.cells_of h).1 1
  exact ⟨by simpa using h0, by simpa using h1, (SL.cells_of h).2, (Array.getElem?_eq_some_iff.1 h).1⟩
theorem r6Common (c : Cs) (al : Option Addr) (m cl : Nat) (l : List Int) (w : World) (hc : CsAt w c) (hl : IntsAt w al m cl l) :
    Calls Tryz.prog 48 #[c.v, .slice al m cl] w fun e w' => e = .returned (.tuple #[.agg #[.int .i64 (c.com l).1.1, .int .i64 (c.com l).1.2], .bool (c.com l).2, .int .i64 (c.ask l)]) ∧ Below w.heap.size w w' := by
  have hC := fun w1 (h : CsAt w1 c) (hl : IntsAt w1 al m cl l) => r6asked c al m cl l w1 h hl
  have hz := @Cs.ask_zero c l
  obtain ⟨R1, hR1⟩ : ∃ R1, (c.com l).1.1 = R1 := ⟨_, rfl⟩
  obtain ⟨R2, hR2⟩ : ∃ R2, (c.com l).1.2 = R2 := ⟨_, rfl⟩
  obtain ⟨R3, hR3⟩ : ∃ R3, (c.com l).2 = R3 := ⟨_, rfl⟩
  rw [hR1, hR2, hR3]
  unfold Cs.com Cs.s at hR1 hR2 hR3
  obtain rfl := hl.len
  have hls := hl.small
  generalize c.ask l = E at *
  by_cases h0 : E = 0
  · subst h0
    obtain ⟨hok, hi⟩ := hz rfl
    have hmany := hok.many
    have hoks := hok.oks
    obtain ⟨ware, lim, byr, a, cap, ps⟩ := c
    simp only [Cs.v, true_and] at *
    have hB0 := one_alloc w (Obj.cells #[.string ware, .int .i64 lim, .int .i64 byr, .slice a ps.length cap] 24)
    have hB2 : Below w.heap.size w ((w.alloc (Obj.cells #[.string ware, .int .i64 lim, .int .i64 byr, .slice a ps.length cap] 24)).alloc (Obj.cells #[.int .i64 0, .int .i64 0] 33)) := by ((repeat (first | assumption | exact Below.refl _ _ | refine Below.alloc ?_ ?_ _ | refine Below.setCell ?_ ?_ _ | refine Below.drew ?_ | refine belowN ?_ | refine Below.up ?_ (by assumption) ?_)) <;> (first | assumption | omega | (simp; done) | (simp; omega)))
    have hbx := hc.below hB2
    have hlx := hl.below hB2
    have HR1 := Lib.hid hR1
    have HR2 := Lib.hid hR2
    have HR3 := Lib.hid hR3
    clear hz hR1 hR2 hR3 hok
    go_enter Tryz.func48, Tryz.ntmps48
    go_wp2_with (go_at_call 96; refine (hC _ hbx hlx).mono ?_; rintro e w1 ⟨rfl, hb1⟩; obtain ⟨hc1, hf1⟩ := bcell hb1; have hz1 := lt_size hb1 (b := w.heap.size) (by first | assumption | omega | (simp; done) | (simp; omega)); have hz2 := lt_size hb1 (b := w.heap.size + 1) (by first | assumption | omega | (simp; done) | (simp; omega)); have hby := hbx.below hb1; have hly := hlx.below hb1)
    have c0 : w1.cell? ⟨w.heap.size, 3, none⟩ = some (.slice a ps.length cap) := by simp [go_sem, *]
    have c9 := (hc1 (w.heap.size + 1) 0 (by simp)).trans (show _ = some (Value.int .i64 0) by simp [go_sem])
    have c10 := (hc1 (w.heap.size + 1) 1 (by simp)).trans (show _ = some (Value.int .i64 0) by simp [go_sem])
    have f9 := hf1 (w.heap.size + 1) 0 (by simp)
    have f10 := hf1 (w.heap.size + 1) 1 (by simp)
    have hBW : Below w.heap.size w w1 := hB2.ch2 hb1
    clear hc1 hf1 hb1 hC hB0 hbx hlx
    go_loopw [9] (fun i wr => ∃ k : Nat, k ≤ l.length ∧ i = .int .i64 k ∧ Below w1.heap.size w1 wr ∧ wr.heap[w1.heap.size]? = some (.cells #[.int .i64 (comL (pns ps) (natL (l.take k))).1, .int .i64 (comL (pns ps) (natL (l.take k))).2] 33 (0, 0))) (fun i _ => l.length - (RowKit.intOf i).toNat)
    case atStart => exact ⟨0, Nat.zero_le _, rfl, one_alloc _ _, World.alloc_heap_new w1 _⟩
    case round =>
      obtain ⟨k, hk', rfl, hB, hbox⟩ := hrel
      have hnn : (0 : Int) ≤ k := by omega
      by_cases hlt : k < l.length
      · have i1 : (k : Int) < (l.length : Int) := by omega
        have Hs := Lib.hid (show comL (pns ps) (natL (l.take (k + 1))) = (max (comL (pns ps) (natL (l.take k))).1 ((pns ps).getD (l.getD k 0).toNat default).lo, min (comL (pns ps) (natL (l.take k))).2 ((pns ps).getD (l.getD k 0).toNat default).hi) by rw [natL_snoc hlt, comL_snoc])
        have hx := hi _ (mem_getD hlt)
        obtain ⟨X, hX⟩ : ∃ X : Nat, l.getD k 0 = X := ⟨(l.getD k 0).toNat, by omega⟩
        obtain ⟨b1, o1, rfl, bl1, d0⟩ := (hly.below hB).get hlt
        rw [hX] at Hs hx d0
        have hXl : X < ps.length := by omega
        simp only [Int.toNat_natCast, pns_get ps hXl] at Hs
        have X1 : (X : Int) < (ps.length : Int) := by omega
        have X0 : (0 : Int) ≤ X := by omega
        obtain ⟨b2, o2, rfl, bl2, e0, e1, e2, e3, e4, e5, e6, e7⟩ := (hby.ps.below hB).get hXl
        have c1 := ((bcell hB).1 _ 3 hz1).trans c0
        have hzr : w.heap.size < wr.heap.size := lt_size hB hz1
        clear hX e0 e3 e4 e5 e6 e7
        generalize ps.getD X default = p at *
        generalize comL (pns ps) (natL (l.take k)) = Q at *
        obtain ⟨q1, q2⟩ := Q
        simp only at hbox Hs
        have hpn : p.n.lo = p.lo ∧ p.n.hi = p.hi := ⟨rfl, rfl⟩
        rw [hpn.1, hpn.2] at Hs
        clear hpn
        obtain ⟨x0, x1, xf, xl⟩ := cell2w hbox
        obtain ⟨M, hM⟩ : ∃ M, max q1 p.lo = M := ⟨_, rfl⟩
        obtain ⟨N, hN⟩ : ∃ N, min q2 p.hi = N := ⟨_, rfl⟩
        have hmx : (if q1 < p.lo then p.lo else q1) = M := by rw [← hM]; split <;> omega
        have hmn : (if p.hi < q2 then p.hi else q2) = N := by rw [← hN]; split <;> omega
        have hM := Lib.hid hM
        have hN := Lib.hid hN
        have hnl1 : b1 ∉ [w1.heap.size] := by
          have := (hly.row.at_ _ rfl).2.1
          simp at this ⊢; omega
        have hnl2 : b2 ∉ [w1.heap.size] := by
          have := (hby.ps.row.at_ _ rfl).2.1
          simp at this ⊢; omega
        go_wp2_with fail
        refine wp_region_still_tail 14 (by kernel_rfl) (by kernel_rfl) ?_
        simp only [List.take_succ_cons, List.take_zero, List.drop_succ_cons, List.drop_zero]
        generalize hw3 : (World.mk _ _ _ _ _) = w3
        have hB3 : Below wr.heap.size wr w3 := by rw [← hw3]; exact ⟨rfl, rfl, rfl, Nat.le_refl _, fun _ _ => rfl⟩
        clear hw3
        have hcc := (bcell hB3).1
        have hbox3 := (hB3.block _ xl).trans hbox
        have c3 := (hcc _ _ hzr).trans c1
        have d3 := (hcc _ _ bl1).trans d0
        have g1 := (hcc _ _ bl2).trans e1
        have g2 := (hcc _ _ bl2).trans e2
        obtain ⟨y0, y1, yf, yl⟩ := cell2w hbox3
        clear hcc x0 x1 xf c1 d0 e1 e2
        repeat (refine wpStill_step (fun K hK => ?_); go_simp; refine hK _ ?_; clear hK K)
        refine wpStill_nil ?_
        go_wp2_with fail
        obtain ⟨W4, hW4⟩ : ∃ W4, W4 = w3.setCell ⟨w1.heap.size, 0, none⟩ (.int .i64 (M)) := ⟨_, rfl⟩
        rw [← hW4]
        have nb4 : W4.heap[w1.heap.size]? = some (.cells #[.int .i64 (M), .int .i64 q2] 33 (0, 0)) := by rw [hW4]; exact SL.heap_set hbox3 _ (i := 0)
        have cg4 : SL.Chg [w1.heap.size] w3 W4 := by rw [hW4]; exact SL.Chg.setCell _ (by simp) _
        have n4 : ∀ b, b < w1.heap.size → b ∉ [w1.heap.size] := fun b hb => by simp; omega
        have c4 := (cg4.cellsW.1 _ 3 (Nat.lt_of_lt_of_le hzr hB3.size) (n4 _ hz1)).trans c3
        have d4 := (cg4.cellsW.1 _ (o1 + k) (Nat.lt_of_lt_of_le bl1 hB3.size) (hnl1)).trans d3
        have g4 := (cg4.cellsW.1 _ (o2 + X * 8 + 2) (Nat.lt_of_lt_of_le bl2 hB3.size) (hnl2)).trans g2
        have hB4 : Below w1.heap.size w1 W4 := (hB.ch2 hB3).trans (cg4.belowW (by have := hB.size; have := hB3.size; omega) (by simp))
        have z4 := cg4.size
        have l1' : w.heap.size < W4.heap.size := by have := hB3.size; omega
        have l2' : b1 < W4.heap.size := by have := hB3.size; omega
        have l3' : b2 < W4.heap.size := by have := hB3.size; omega
        obtain ⟨_, x1', _, xl'⟩ := cell2w nb4
        clear hW4 c3 d3 g1 g2 y0 y1 yf cg4 hbox3 hbox
        go_wp2_with fail
        refine wp_region_still_tail 14 (by kernel_rfl) (by kernel_rfl) ?_
        simp only [List.take_succ_cons, List.take_zero, List.drop_succ_cons, List.drop_zero]
        generalize hw5 : (World.mk _ _ _ _ _) = w5
        have hB5 : Below W4.heap.size W4 w5 := by rw [← hw5]; exact ⟨rfl, rfl, rfl, Nat.le_refl _, fun _ _ => rfl⟩
        clear hw5
        have hcc := (bcell hB5).1
        have hbox5 := (hB5.block _ xl').trans nb4
        have c5 := (hcc _ _ l1').trans c4
        have d5 := (hcc _ _ l2').trans d4
        have g5 := (hcc _ _ l3').trans g4
        have hB5' := hB4.ch2 hB5
        obtain ⟨y0, y1, yf, yl⟩ := cell2w hbox5
        clear hcc x1' c4 d4 g4 nb4
        repeat (refine wpStill_step (fun K hK => ?_); go_simp; refine hK _ ?_; clear hK K)
        refine wpStill_nil ?_
        go_wp2_with fail
        obtain ⟨W6, hW6⟩ : ∃ W6, W6 = w5.setCell ⟨w1.heap.size, 1, none⟩ (.int .i64 (N)) := ⟨_, rfl⟩
        rw [← hW6]
        have nb6 : W6.heap[w1.heap.size]? = some (.cells #[.int .i64 (M), .int .i64 (N)] 33 (0, 0)) := by rw [hW6]; exact SL.heap_set hbox5 _ (i := 1)
        have cg6 : SL.Chg [w1.heap.size] w5 W6 := by rw [hW6]; exact SL.Chg.setCell _ (by simp) _
        have hB6 : Below w1.heap.size w1 W6 := (hB5'.trans (cg6.belowW (by have := hB5'.size; omega) (by simp)))
        clear hW6
        go_wp2_with fail
        go_roundw
        case rel => exact ⟨k + 1, by omega, by go_num, hB6, by rw [Hs.out, hM.out, hN.out]; exact nb6⟩
        case measure => simp [RowKit.intOf]; omega
      · have hk2 : k = l.length := by omega
        subst hk2
        rw [List.take_length] at hbox
        generalize comL (pns ps) (natL l) = Q at *
        obtain ⟨q1, q2⟩ := Q
        simp only at hbox HR1 HR2 HR3
        obtain ⟨x0, x1, xf, xl⟩ := cell2w hbox
        have hBr := hBW.ch2 hB
        have r0 := ((bcell hB).1 _ 0 hz2).trans c9
        have r1 := ((bcell hB).1 _ 1 hz2).trans c10
        have s0 := ((bcell hB).2 _ 0 hz2).trans f9
        have s1 := ((bcell hB).2 _ 1 hz2).trans f10
        have hne : w.heap.size + 1 ≠ w1.heap.size := by omega
        by_cases hle : q1 ≤ q2
        · have e1 := HR1.out; have e2 := HR2.out; have e3 := HR3.out
          rw [if_pos hle] at e1 e2 e3
          simp only at e1 e2 e3
          subst e1; subst e2; subst e3
          have hgt : decide (q2 < q1) = false := by simp; omega
          clear HR1 HR2 HR3
          go_wp2_with fail
          refine bodyPost_ret (v := .tuple #[.agg #[.int .i64 q1, .int .i64 q2], .bool true, .int .i64 0]) (by simp [results, Tryz.results48, go_sem, *]) rfl ⟨rfl, ?_⟩
          exact (hBr.setCell (by simp) _).setCell (by simp) _
        · have e1 := HR1.out; have e2 := HR2.out; have e3 := HR3.out
          rw [if_neg hle] at e1 e2 e3
          simp only at e1 e2 e3
          subst e1; subst e2; subst e3
          have hgt : decide (q2 < q1) = true := by simp; omega
          clear HR1 HR2 HR3
          go_wp2_with fail
          refine bodyPost_ret (v := .tuple #[.agg #[.int .i64 0, .int .i64 0], .bool false, .int .i64 0]) (by simp [results, Tryz.results48, go_sem, *]) rfl ⟨rfl, ?_⟩
          exact (hBr.setCell (by simp) _).setCell (by simp) _
  · have h2 : (E != 0) = true := by simpa using h0
    rw [if_neg (fun h => h0 h.1)] at hR1 hR2 hR3
    simp only at hR1 hR2 hR3
    subst hR1; subst hR2; subst hR3
    obtain ⟨ware, lim, byr, a, cap, ps⟩ := c
    simp only [Cs.v] at *
    have hB2 : Below w.heap.size w ((w.alloc (Obj.cells #[.string ware, .int .i64 lim, .int .i64 byr, .slice a ps.length cap] 24)).alloc (Obj.cells #[.int .i64 0, .int .i64 0] 33)) := by ((repeat (first | assumption | exact Below.refl _ _ | refine Below.alloc ?_ ?_ _ | refine Below.setCell ?_ ?_ _ | refine Below.drew ?_ | refine belowN ?_ | refine Below.up ?_ (by assumption) ?_)) <;> (first | assumption | omega | (simp; done) | (simp; omega)))
    have hbx := hc.below hB2
    have hlx := hl.below hB2
    clear h0 hz
    go_enter Tryz.func48, Tryz.ntmps48
    go_wp2_with (go_at_call 96; refine (hC _ hbx hlx).mono ?_; rintro e w1 ⟨rfl, hb1⟩; obtain ⟨hc1, hf1⟩ := bcell hb1; have hz2 := lt_size hb1 (b := w.heap.size + 1) (by first | assumption | omega | (simp; done) | (simp; omega)))
    refine bodyPost_ret (v := .tuple #[.agg #[.int .i64 0, .int .i64 0], .bool false, .int .i64 E]) (by simp [results, Tryz.results48, go_sem, *]) rfl ⟨rfl, ?_⟩
    exact ((hB2.ch2 hb1).setCell (by simp) _).setCell (by simp) _
/-- The parts of a vessel. -/
def ofV (v : List Int) (n k : Nat) : List Int := pickL (fun i => decide (v.getD i 0 = (n : Int))) k
/-- The colours of the vessels. -/
def colN (s : List Pn) (v : List Int) (n : Nat) : List (Int × Int) := (List.range n).map fun i => comL s (natL (ofV v i v.length))
def Cs.colE (c : Cs) (v : List Int) : Int := if c.chk = 0 then (if c.asg v then 0 else 1) else c.chk
def Cs.colL (c : Cs) (v : List Int) (m : Nat) : List (Int × Int) := if c.colE v = 0 then colN c.s v m else []
theorem rgO_len : ∀ {v : List Int} {m m' : Nat}, rgO v m = some m' → m' ≤ m + v.length
  | [], m, m', h => by simp [rgO] at h; subst h; simp
  | x :: v, m, m', h => by
    unfold rgO at h
    split at h
    · have := rgO_len h
      simp only [List.length_cons]
      split at this <;> omega
    · cases h
theorem Cs.asg_some {c : Cs} {v : List Int} (h : c.asg v = true) : c.chk = 0 ∧ ∃ m : Nat, asgM c.s v = some m ∧ vesL v = m ∧ m ≤ v.length ∧ v.length = c.ps.length ∧ (∀ x ∈ v, 0 ≤ x ∧ x < m) ∧ (c.lim = 0 ∨ (m : Int) ≤ c.lim) := by
  unfold Cs.asg at h
  simp only [Bool.and_eq_true, decide_eq_true_eq] at h
  obtain ⟨h1, h2⟩ := h
  refine ⟨h1, ?_⟩
  cases ha : asgM c.s v with
  | none => rw [ha] at h2; cases h2
  | some m =>
    rw [ha] at h2
    obtain ⟨a1, a2, a3⟩ := asgM_some ha
    have := rgO_len a3
    exact ⟨m, rfl, rgO_ves a3, by omega, by rw [a1]; exact pns_len _, (rgO_spec a3).2.1, by simpa using h2⟩
/-- The colours as the reference makes them. -/
def Cs.colT (c : Cs) (v : List Int) (n : Nat) : List (Int × Int) := (List.range n).map fun i => (c.com (ofV v i v.length)).1
theorem Cs.colT_succ (c : Cs) (v : List Int) (n : Nat) : c.colT v (n + 1) = c.colT v n ++ [(c.com (ofV v n v.length)).1] := by unfold Cs.colT; rw [List.range_succ, List.map_append]; rfl
theorem Cs.colT_len (c : Cs) (v : List Int) (n : Nat) : (c.colT v n).length = n := by simp [Cs.colT]
theorem pickL_mem {f : Nat → Bool} {n : Nat} {x : Int} (h : x ∈ pickL f n) : 0 ≤ x ∧ x < n := by
  unfold pickL at h
  obtain ⟨i, hi, rfl⟩ := List.mem_map.1 h
  have := List.mem_range.1 (List.mem_filter.1 hi).1
  omega
theorem rcs_one1 (r : Int × Int) : rcs [r] = [.int .i64 r.1, .int .i64 r.2] := by simp [rcs]
theorem r6Colours (c : Cs) (al : Option Addr) (m cl : Nat) (v : List Int) (w : World) (hc : CsAt w c) (hl : IntsAt w al m cl v) :
    Calls Tryz.prog 62 #[c.v, .slice al m cl] w fun e w' => ∃ x rs, rs = (if c.colE v = 0 then c.colT v (vesL v).toNat else []) ∧ e = .returned (.tuple #[x, .int .i64 (c.colE v)]) ∧ Below w.heap.size w w' ∧ w'.ownsRow w.heap.size 33 2 x rs.length (rcs rs) := by
  have hC := fun w1 (h : CsAt w1 c) (h2 : IntsAt w1 al m cl v) => r6CheckAssign c al m cl v w1 h h2
  have hE : c.colE v = if c.chk = 0 then (if c.asg v then 0 else 1) else c.chk := rfl
  obtain rfl := hl.len
  cases hA : c.asg v
  · obtain ⟨ware, lim, byr, a, cap, ps⟩ := c
    rw [hA] at hC hE
    simp only [Bool.false_eq_true, if_false] at hE
    generalize Cs.colE _ v = E at *
    generalize Cs.chk _ = K at *
    have hE0 : E ≠ 0 := by rw [hE]; split <;> omega
    rw [if_neg hE0]
    simp only [Cs.v] at *
    have hB0 := one_alloc w (Obj.cells #[.string ware, .int .i64 lim, .int .i64 byr, .slice a ps.length cap] 24)
    have hbx := hc.below hB0
    have hlx := hl.below hB0
    clear hE0
    by_cases hK : K = 0
    · subst hK
      rw [if_pos rfl] at hE
      subst hE
      go_enter Tryz.func62, Tryz.ntmps62
      go_wp2_with (go_at_call 41; (with_reducible refine (hC _ hbx hlx).mono ?_); rintro e w1 ⟨rfl, hb1⟩)
      go_ret2
      exact ⟨_, _, rfl, rfl, hB0.ch2 hb1, World.ownsRow_nil _ _ _ _⟩
    · have h2 : (K != 0) = true := by simpa using hK
      rw [if_neg hK] at hE
      subst hE
      clear hK
      go_enter Tryz.func62, Tryz.ntmps62
      go_wp2_with (go_at_call 41; (with_reducible refine (hC _ hbx hlx).mono ?_); rintro e w1 ⟨rfl, hb1⟩)
      go_ret2
      exact ⟨_, _, rfl, rfl, hB0.ch2 hb1, World.ownsRow_nil _ _ _ _⟩
  · obtain ⟨h0, M, hasg, hves, hMv, hvl, hrg, _⟩ := Cs.asg_some hA
    have hok := Cs.chk_zero.1 h0
    have hmany := hok.many
    rw [hA] at hC hE
    simp only [h0, if_true] at hC hE
    have hask : ∀ i, c.ask (ofV v i v.length) = 0 := fun i => by
      rw [Cs.ask_eq, if_pos h0, if_pos]
      unfold inL
      rw [List.all_eq_true]
      intro x hx
      have := pickL_mem hx
      simp; omega
    have hCom := fun i a2 n2 c2 w1 (h : CsAt w1 c) (h2 : IntsAt w1 a2 n2 c2 (ofV v i v.length)) => (hask i) ▸ r6Common c a2 n2 c2 _ w1 h h2
    have hVes := fun w1 (h : IntsAt w1 al v.length cl v) => r6Vessels al _ cl v w1 h (fun x hx => by have := hrg x hx; omega)
    rw [hves] at hVes ⊢
    rw [hE, if_pos rfl]
    have Hsu := Lib.hid (c.colT_succ v)
    have Hlen := Lib.hid (c.colT_len v)
    generalize hT : c.colT v = T at *
    generalize hcm : (fun i => c.com (ofV v i v.length)) = CM at *
    have Hcm := Lib.hid (fun i => (congrFun hcm i : c.com (ofV v i v.length) = CM i))
    have Hrg := Lib.hid hrg
    obtain ⟨ware, lim, byr, a, cap, ps⟩ := c
    simp only [Cs.v, Int.toNat_natCast] at *
    have hB0 := one_alloc w (Obj.cells #[.string ware, .int .i64 lim, .int .i64 byr, .slice a ps.length cap] 24)
    have hbx := hc.below hB0
    have hlx := hl.below hB0
    have hMv : M ≤ 40 := by omega
    have hvl' : v.length ≤ 40 := by omega
    have HE := Lib.hid hE
    clear hE h0 hA hasg hves hrg hask hT hcm hok hvl
    go_enter Tryz.func62, Tryz.ntmps62
    go_wp2_with (go_at_call 41; (with_reducible refine (hC _ hbx hlx).mono ?_); rintro e w1 ⟨rfl, hb1⟩; obtain ⟨hc1, hf1⟩ := bcell hb1; have hz1 := lt_size hb1 (b := w.heap.size) (by first | assumption | omega | (simp; done) | (simp; omega)); have hby := hbx.below hb1; have hly := hlx.below hb1)
    have c0 : w1.cell? ⟨w.heap.size, 0, none⟩ = some (.string ware) := by simp [go_sem, *]
    have c1 : w1.cell? ⟨w.heap.size, 1, none⟩ = some (.int .i64 lim) := by simp [go_sem, *]
    have c2 : w1.cell? ⟨w.heap.size, 2, none⟩ = some (.int .i64 byr) := by simp [go_sem, *]
    have c3 : w1.cell? ⟨w.heap.size, 3, none⟩ = some (.slice a ps.length cap) := by simp [go_sem, *]
    have hBW : Below w.heap.size w w1 := hB0.ch2 hb1
    have hzw := hBW.size
    clear hc1 hf1 hb1 hC hB0 hbx hlx
    go_loopw [8, 9] (fun o i wr => ∃ n : Nat, n ≤ M ∧ i = .int .i64 n ∧ Below w1.heap.size w1 wr ∧ wr.ownsRow w1.heap.size 33 2 o n (rcs (T n))) (fun _ i _ => M - (RowKit.intOf i).toNat)
    case atStart => exact ⟨0, Nat.zero_le _, rfl, Below.refl _ _, by rw [show T 0 = [] from List.eq_nil_of_length_eq_zero (Hlen.out 0)]; exact World.ownsRow_nil _ _ _ _⟩
    case round =>
      obtain ⟨n, hn, rfl, hB, hown⟩ := hrel
      have hnn : (0 : Int) ≤ n := by omega
      have hVr := hVes wr (hly.below hB)
      by_cases hlt : n < M
      · have i1 : (n : Int) < (M : Int) := by omega
        go_wp2_with (go_at_call 64; (with_reducible refine hVr.mono ?_); rintro e w2 ⟨rfl, hb2⟩)
        have hown2 := hown.up hb2 (Nat.le_refl _)
        have hB2 := hB.ch2 hb2
        have hlz := hly.below hB2
        clear hVr
        go_loopw [10, 11] (fun p i wi => ∃ k : Nat, k ≤ v.length ∧ i = .int .i64 k ∧ Below w2.heap.size w2 wi ∧ wi.ownsRow w2.heap.size 3 1 p (ofV v n k).length ((ofV v n k).map (.int .i64))) (fun _ i _ => v.length - (RowKit.intOf i).toNat)
        case atStart => exact ⟨0, Nat.zero_le _, rfl, Below.refl _ _, World.ownsRow_nil _ _ _ _⟩
        case round =>
          obtain ⟨k, hk, rfl, hBi, hpo⟩ := hrel
          have hkn : (0 : Int) ≤ k := by omega
          have hpl := pickL_len (fun i => decide (v.getD i 0 = (n : Int))) k
          by_cases hkl : k < v.length
          · have i2 : (k : Int) < (v.length : Int) := by omega
            have Hps := Lib.hid (show ofV v n (k + 1) = ofV v n k ++ (if v.getD k 0 = (n : Int) then [(k : Int)] else []) by unfold ofV; rw [pickL_succ]; simp only [decide_eq_true_eq])
            change (ofV v n k).length ≤ k at hpl
            obtain ⟨b, o, rfl, hbl, d0⟩ := (hlz.below hBi).get hkl
            generalize ofV v n k = L at *
            obtain ⟨z, hz⟩ : ∃ z, v.getD k 0 = z := ⟨_, rfl⟩
            rw [hz] at d0
            have Hz := Lib.hid hz
            clear hz
            cases hzn : (z == (n : Int))
            · have Hzn := Lib.hid hzn
              go_wp2_with fail
              go_roundw
              case rel => exact ⟨k + 1, by omega, by go_num, hBi, by rw [Hps.out, Hz.out, if_neg (by simpa using Hzn.out), List.append_nil]; exact hpo⟩
              case measure => simp [RowKit.intOf]; omega
            · have Hzn := Lib.hid hzn
              have hP2 := hpo.up (one_alloc wr (Obj.cells #[.int .i64 k] 3)) (Nat.le_refl _)
              go_wp2_with (at_builtin; refine wpList_app elemI rfl _ _ rfl hP2 rfl rfl (RowAt.of_heap (World.alloc_heap_new wr _)) rfl (ones_int [(k : Int)]) (by unfold maxLen; omega) (by omega) (by have := hBi.size; simp; omega) ?_)
              intro v' w6 ho hg hb6 _ _
              go_wp2
              go_roundw
              case rel => exact ⟨k + 1, by omega, by go_num, hBi.trans (((one_alloc wr _).mono hBi.size).trans hb6), by rw [Hps.out, Hz.out, if_pos (by simpa using Hzn.out)]; simpa using ho⟩
              case measure => simp [RowKit.intOf]; omega
          · have hk2 : k = v.length := by omega
            subst hk2
            change (ofV v n v.length).length ≤ v.length at hpl
            obtain ⟨pa, pc, rfl, _⟩ := owns_slice hpo
            have hI := IntsAt.of_owns hpo (by omega)
            have hBB := hB2.ch2 hBi
            have e0 := ((bcell hBB).1 _ 0 hz1).trans c0
            have e1 := ((bcell hBB).1 _ 1 hz1).trans c1
            have e2 := ((bcell hBB).1 _ 2 hz1).trans c2
            have e3 := ((bcell hBB).1 _ 3 hz1).trans c3
            have hzi := lt_size hBB hz1
            have hCm := hCom n pa _ pc wr (hby.below hBB) hI
            rw [Hcm.out n] at hCm
            obtain ⟨r1, r2, hcc⟩ : ∃ a b, (CM n).1 = (a, b) := ⟨_, _, rfl⟩
            have Hs := Lib.hid (show T (n + 1) = T n ++ [(r1, r2)] from (Hsu.out n).trans (by rw [Hcm.out n, hcc]))
            rw [hcc] at hCm
            generalize (CM n).2 = CB at *
            clear hcc hCom
            go_wp2_with (first
              | (go_at_call 48; (with_reducible refine hCm.mono ?_); rintro e w3 ⟨rfl, hb3⟩
                 have hO := ((hown2.up (hBi.ch2 hb3) (Nat.le_refl _)).up (one_alloc w3 (Obj.cells #[.int .i64 r1, .int .i64 r2] 33)) (Nat.le_refl _)).up (one_alloc _ (Obj.cells #[.int .i64 r1, .int .i64 r2] 33)) (Nat.le_refl _)
                 have hBn := ((hBB.ch2 hb3).ch2 (one_alloc w3 (Obj.cells #[.int .i64 r1, .int .i64 r2] 33))).ch2 (one_alloc _ (Obj.cells #[.int .i64 r1, .int .i64 r2] 33)))
              | (at_builtin; refine wpList_app elemR rfl _ _ rfl hO rfl rfl (RowAt.of_heap (heap_alloc2_new w3 _ _)) rfl (fun u hu => rcs_one [(r1, r2)] u (by rw [rcs_one1]; exact hu)) (by unfold maxLen; omega) (by omega) hBn.size ?_))
            intro v' w6 ho hg hb6 _ _
            go_wp2
            go_roundw
            case rel => exact ⟨n + 1, by omega, by go_num, hBn.trans hb6, by rw [Hs.out, rcs_append, rcs_one1]; exact ho⟩
            case measure => simp [RowKit.intOf]; omega
      · have hn2 : n = M := by omega
        subst hn2
        go_wp2_with (go_at_call 64; (with_reducible refine hVr.mono ?_); rintro e w2 ⟨rfl, hb2⟩)
        go_ret2
        refine ⟨_, _, rfl, rfl, hBW.ch2 (hB.ch2 hb2), ?_⟩
        rw [Hlen.out]
        exact SL.row_base (hown.up hb2 (Nat.le_refl _)) hzw
end Go.Proofs.YtodkbfbbpfghiaaGreat
