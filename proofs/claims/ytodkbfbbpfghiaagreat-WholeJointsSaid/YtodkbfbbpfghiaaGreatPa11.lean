/-
  Lemmas and walks for the laws on roads and boards: what each function of the program answers, for every input.
-/
import Derived.Test.YtodkbfbbpfghiaaGreatPa10
import Derived.Test.YtodkbfbbpfghiaaGreatPa04
import Derived.Test.YtodkbfbbpfghiaaGreatPa09
set_option linter.unusedSimpArgs false
set_option linter.unusedVariables false
set_option linter.unnecessarySimpa false
namespace Go.Proofs.YtodkbfbbpfghiaaGreat
open Go.RowKit Go.Shelf
set_option maxHeartbeats 4000000
set_option maxRecDepth 100000
def Cs.wit (c : Cs) (l : List Int) : Bool := decide (c.chk = 0) && witB c.s [] l
theorem r6CheckWitness (c : Cs) (al : Option Addr) (m cl : Nat) (l : List Int) (w : World) (hc : CsAt w c) (hl : IntsAt w al m cl l) :
    Calls Tryz.prog 24 #[c.v, .slice al m cl] w fun e w' => e = .returned (.tuple #[.bool (c.wit l), .int .i64 c.chk]) ∧ Below w.heap.size w w' := by
  have hC := fun w1 (h : CsAt w1 c) => r6chk c w1 h
  have hD := fun w1 (h : CsAt w1 c) (hl : IntsAt w1 al m cl l) => r6witness c.a _ c.cap c.ps al m cl l w1 h.ps hl
  have hr : c.wit l = (decide (c.chk = 0) && witB (pns c.ps) [] l) := rfl
  generalize c.wit l = R at *
  generalize witB (pns c.ps) [] l = D at *
  generalize c.chk = E at *
  obtain ⟨ware, lim, byr, a, cap, ps⟩ := c
  simp only [Cs.v] at *
  have hB0 := one_alloc w (Obj.cells #[.string ware, .int .i64 lim, .int .i64 byr, .slice a ps.length cap] 24)
  have hbx := hc.below hB0
  have hlx := hl.below hB0
  by_cases h0 : E = 0
  · subst h0
    simp only [decide_true, Bool.true_and] at hr
    subst hr
    go_enter Tryz.func24, Tryz.ntmps24
    go_wp2_with (first
      | (go_at_call 59; refine (hC _ hbx).mono ?_; rintro e w1 ⟨rfl, hb1⟩; obtain ⟨hc1, hf1⟩ := bcell hb1; have hz1 := lt_size hb1 (b := w.heap.size) (by first | assumption | omega | (simp; done) | (simp; omega)); have hby := hbx.below hb1; have hly := hlx.below hb1)
      | (go_at_call 79; refine (hD _ hby hly).mono ?_; rintro e w2 ⟨rfl, hb2⟩))
    go_ret2
    exact ⟨rfl, (hB0.ch2 hb1).ch2 hb2⟩
  · have h2 : (E != 0) = true := by simpa using h0
    have hd : decide (E = 0) = false := by simpa using h0
    rw [hd] at hr
    simp only [Bool.false_and] at hr
    subst hr
    clear h0 hd
    go_enter Tryz.func24, Tryz.ntmps24
    go_wp2_with (go_at_call 59; refine (hC _ hbx).mono ?_; rintro e w1 ⟨rfl, hb1⟩)
    go_ret2
    exact ⟨rfl, hB0.ch2 hb1⟩
def noClN (s : List Pn) (v : List Int) (k : Nat) : Bool := (List.range k).all fun i => (List.range i).all fun j => !(v.getD j 0 == v.getD i 0 && clB s j i)
def noClM (s : List Pn) (v : List Int) (k m : Nat) : Bool := (List.range m).all fun j => !(v.getD j 0 == v.getD k 0 && clB s j k)
theorem noClN_succ (s : List Pn) (v : List Int) (k : Nat) : noClN s v (k + 1) = (noClN s v k && noClM s v k k) := by
  unfold noClN noClM
  rw [List.range_succ, List.all_append]; simp
theorem noClM_succ (s : List Pn) (v : List Int) (k m : Nat) : noClM s v k (m + 1) = (noClM s v k m && !(v.getD m 0 == v.getD k 0 && clB s m k)) := by
  unfold noClM
  rw [List.range_succ, List.all_append]; simp
theorem noCl_no {s : List Pn} {v : List Int} {m k : Nat} (hm : m < k) (hk : k < v.length) (h : (v.getD m 0 == v.getD k 0 && clB s m k) = true) : asgM s v = none := by
  unfold asgM
  rw [if_neg]
  rintro ⟨_, h2⟩
  simp only [Bool.and_eq_true, beq_iff_eq] at h
  have := noClB_iff.1 h2 k m hm hk h.1
  rw [h.2] at this; cases this
theorem rgO_take {v : List Int} {k : Nat} (hk : k < v.length) : rgO (v.take (k + 1)) 0 = (rgO (v.take k) 0).bind fun m => if 0 ≤ v.getD k 0 ∧ v.getD k 0 ≤ m then some (if v.getD k 0 = m then m + 1 else m) else none := by
  rw [take_get hk, rgO_app]
  congr 1
theorem rgO_none {v : List Int} {k : Nat} (h : rgO (v.take k) 0 = none) : rgO v 0 = none := by
  have e : v = v.take k ++ v.drop k := (List.take_append_drop k v).symm
  rw [e, rgO_app, h]; rfl
theorem rg_no {s : List Pn} {v : List Int} {k m : Nat} (hk : k < v.length) (h : rgO (v.take k) 0 = some m) (hx : withinB (v.getD k 0) 0 m = false) : asgM s v = none := by
  have h1 : rgO v 0 = none := by
    apply rgO_none (k := k + 1)
    rw [rgO_take hk, h]
    simp only [Option.bind_some]
    rw [if_neg]
    intro h2
    rw [Bool.eq_false_iff] at hx
    exact hx (withinB_iff.2 h2)
  unfold asgM
  split
  · exact h1
  · rfl
def Cs.asg (c : Cs) (v : List Int) : Bool := decide (c.chk = 0) && match asgM c.s v with | some m => decide (c.lim = 0) || decide ((m : Int) ≤ c.lim) | none => false
theorem r6CheckAssign (c : Cs) (al : Option Addr) (m cl : Nat) (v : List Int) (w : World) (hc : CsAt w c) (hl : IntsAt w al m cl v) :
    Calls Tryz.prog 41 #[c.v, .slice al m cl] w fun e w' => e = .returned (.tuple #[.bool (c.asg v), .int .i64 c.chk]) ∧ Below w.heap.size w w' := by
  have hC := fun w1 (h : CsAt w1 c) => r6chk c w1 h
  have hok := @Cs.chk_zero c
  have hr : c.asg v = (decide (c.chk = 0) && match asgM (pns c.ps) v with | some m => decide (c.lim = 0) || decide ((m : Int) ≤ c.lim) | none => false) := rfl
  obtain rfl := hl.len
  have hls := hl.small
  generalize c.asg v = R at *
  by_cases h0 : c.chk = 0
  · have hmany := (hok.1 h0).many
    simp only [h0, decide_true, Bool.true_and] at hr hC ⊢
    obtain ⟨ware, lim, byr, a, cap, ps⟩ := c
    simp only [Cs.v] at *
    have hB0 := one_alloc w (Obj.cells #[.string ware, .int .i64 lim, .int .i64 byr, .slice a ps.length cap] 24)
    have hbx := hc.below hB0
    have hlx := hl.below hB0
    have hk := fun w1 (h : CsAt w1 ⟨ware, lim, byr, a, cap, ps⟩) i k (hi : i < ps.length) (hk : k < ps.length) => r6clash_any a _ cap ps i k w1 h.ps hi hk
    by_cases hlen : v.length = ps.length
    · have hlb : ((v.length : Int) != (ps.length : Int)) = false := by simp [hlen]
      have hlb2 : (v.length != ps.length) = false := by simp [hlen]
      have Hno := Lib.hid (fun m k hm hk h => @noCl_no (pns ps) v m k hm hk h)
      have Hrg := Lib.hid (fun k m hk h hx => @rg_no (pns ps) v k m hk h hx)
      have HR : Hid (asgM (pns ps) v = none → R = false) := Lib.hid (fun h => by rw [hr, h])
      have HR2 : Hid (∀ m, asgM (pns ps) v = some m → R = (decide (lim = 0) || decide ((m : Int) ≤ lim))) := Lib.hid (fun m h => by rw [hr, h])
      have Hlen := Lib.hid hlen
      clear hok h0 hr hlen
      go_enter Tryz.func41, Tryz.ntmps41
      go_wp2_with (go_at_call 59; refine (hC _ hbx).mono ?_; rintro e w1 ⟨rfl, hb1⟩; obtain ⟨hc1, hf1⟩ := bcell hb1; have hz1 := lt_size hb1 (b := w.heap.size) (by first | assumption | omega | (simp; done) | (simp; omega)); have hby := hbx.below hb1; have hly := hlx.below hb1)
      have c0 : w1.cell? ⟨w.heap.size, 3, none⟩ = some (.slice a ps.length cap) := by simp [go_sem, *]
      have c2 : w1.cell? ⟨w.heap.size, 1, none⟩ = some (.int .i64 lim) := by simp [go_sem, *]
      have hBW : Below w.heap.size w w1 := hB0.ch2 hb1
      clear hc1 hf1 hb1 hC hB0 hbx hlx
      go_loopw [7, 8] (fun mm i wr => ∃ k M : Nat, k ≤ v.length ∧ M ≤ k ∧ mm = .int .i64 M ∧ i = .int .i64 k ∧ Below w1.heap.size w1 wr ∧ rgO (v.take k) 0 = some M ∧ noClN (pns ps) v k = true) (fun _ i _ => v.length - (RowKit.intOf i).toNat)
      case atStart => exact ⟨0, 0, Nat.zero_le _, Nat.le_refl _, rfl, rfl, Below.refl _ _, rfl, rfl⟩
      case round =>
        obtain ⟨k, M, hk', hM, rfl, rfl, hB, hrg, hncl⟩ := hrel
        have Hr := Lib.hid hrg
        have Hn := Lib.hid hncl
        clear hrg hncl
        have hnn : (0 : Int) ≤ k := by omega
        have c1 := ((bcell hB).1 _ 3 hz1).trans c0
        have c3 := ((bcell hB).1 _ 1 hz1).trans c2
        by_cases hlt : k < v.length
        · have i1 : (k : Int) < (v.length : Int) := by omega
          have Hkp : Hid (k < ps.length) := Lib.hid (by rw [← Hlen.out]; exact hlt)
          obtain ⟨b, o, rfl, hbl, d0⟩ := (hly.below hB).get hlt
          have Hrt := Lib.hid (@rgO_take v k hlt)
          have Hrgk := Lib.hid (Hrg.out k M hlt Hr.out)
          obtain ⟨x, hx⟩ : ∃ x, v.getD k 0 = x := ⟨_, rfl⟩
          rw [hx] at d0 Hrt Hrgk
          have Hx := Lib.hid hx
          clear hx
          have hW := fun w2 => r6within_any x 0 M w2
          cases h1 : withinB x 0 M
          · simp only [h1] at hW
            have Hf := Lib.hid (HR.out (Hrgk.out h1))
            clear h1
            go_wp2_with (go_at_call 93; refine (hW _).mono ?_; rintro e w2 ⟨rfl, rfl⟩)
            go_ret2
            rw [Hf.out]
            exact ⟨rfl, hBW.ch2 hB⟩
          · simp only [h1] at hW
            have H1 := Lib.hid (withinB_iff.1 h1)
            clear h1
            obtain ⟨M2, hM2⟩ : ∃ M2 : Nat, (if x = (M : Int) then M + 1 else M) = M2 := ⟨_, rfl⟩
            have HM2 := Lib.hid hM2
            have hM2' : M2 ≤ k + 1 := by rw [← hM2]; split <;> omega
            have Hnr : Hid (rgO (v.take (k + 1)) 0 = some M2) := Lib.hid (by rw [Hrt.out, Hr.out]; simp only [Option.bind_some]; rw [if_pos H1.out, hM2])
            clear hM2
            cases hq : (x == (M : Int))
            · have hM3 : M2 = M := by rw [← HM2.out]; simp at hq; rw [if_neg hq]
              subst hM3
              go_wp2_with (go_at_call 93; refine (hW _).mono ?_; rintro e w2 ⟨rfl, rfl⟩)
              clear d0 c1 c3
              go_loopw [9] (fun i wr => ∃ j : Nat, j ≤ k ∧ i = .int .i64 j ∧ Below w1.heap.size w1 wr ∧ noClM (pns ps) v k j = true) (fun i _ => k - (RowKit.intOf i).toNat)
              case atStart => exact ⟨0, Nat.zero_le _, rfl, hB, rfl⟩
              case round =>
                rename World => wr2
                obtain ⟨j, hj, rfl, hB2, hall2⟩ := hrel
                have hjn : (0 : Int) ≤ j := by omega
                by_cases hjk : j < k
                · have j1 : (j : Int) < (k : Int) := by omega
                  have j2 : (j : Int) < (v.length : Int) := by omega
                  obtain ⟨b3, o3, e3, bl1, f0⟩ := (hly.below hB2).get hlt
                  simp at e3
                  obtain ⟨rfl, rfl⟩ := e3
                  obtain ⟨b4, o4, e4, bl2, f1⟩ := (hly.below hB2).get (i := j) (by omega)
                  simp at e4
                  obtain ⟨rfl, rfl⟩ := e4
                  have Hs2 := Lib.hid (noClM_succ (pns ps) v k j)
                  have Hall2 := Lib.hid hall2
                  have Hnj := Lib.hid (Hno.out j k hjk hlt)
                  clear hall2
                  rw [Hx.out] at f0 Hs2 Hnj
                  obtain ⟨y, hy⟩ : ∃ y, v.getD j 0 = y := ⟨_, rfl⟩
                  rw [hy] at f1 Hs2 Hnj
                  clear hy
                  have c1 := ((bcell hB2).1 _ 3 hz1).trans c0
                  have hzr : w.heap.size < wr2.heap.size := lt_size hB2 hz1
                  have hkk := fun w2 (h : Below wr2.heap.size wr2 w2) => hk w2 ((hby.below hB2).below h) j k (by have := Hkp.out; omega) Hkp.out
                  obtain ⟨B, hcl⟩ : ∃ B, clB (pns ps) j k = B := ⟨_, rfl⟩
                  rw [hcl] at hkk Hs2 Hnj
                  clear hcl
                  cases hyx : (y == x)
                  · rw [hyx] at Hs2
                    go_wp2_with fail
                    go_quiet (fail)
                    go_wp2
                    go_roundw
                    case rel => exact ⟨j + 1, by omega, by go_num, belowN hB2, by rw [Hs2.out, Hall2.out]; rfl⟩
                    case measure => simp [RowKit.intOf]; omega
                  · rw [hyx] at Hs2 Hnj
                    have hyx' : x = y := by simp at hyx; exact hyx.symm
                    subst hyx'
                    have eqx : ((x) == (x)) = true := by simp
                    go_wp2_with fail
                    refine (wpIn_wide (n := 0)).1 ?_
                    refine SLF.rule (ro := none) (by kernel_rfl) [] [47, 48, 49, 50, 51, 52, 53, 54, 55, 56, 57, 58, 59, 60, 61, 62] [SLF.pq 47 [] (.slice (some ⟨b, o, none⟩) v.length cl), SLF.pq 48 [] (.int .i64 j), SLF.pq 49 [0, 1] (.pointer (some ⟨b, o + j, none⟩)), SLF.pq 50 [2] (.int .i64 (x)), SLF.pq 51 [] (.slice (some ⟨b, o, none⟩) v.length cl), SLF.pq 52 [] (.int .i64 k), SLF.pq 53 [4, 5] (.pointer (some ⟨b, o + k, none⟩)), SLF.pq 54 [6] (.int .i64 (x)), SLF.pq 55 [3, 7] (.bool true), SLF.pq 56 [8] (.bool true), SLF.pq 57 [9] (.pointer (some ⟨w.heap.size, 3, none⟩)), SLF.pq 58 [9, 10] (.slice a ps.length cap), SLF.pq 59 [9] (.int .i64 j), SLF.pq 60 [9] (.int .i64 k), SL.pu 61 [9, 11, 12, 13] (.bool B), SLF.pq 62 [9, 14] (.bool B)]
                      [15] (by kernel_rfl) (by kernel_rfl) (fun _ => []) (SL.none_held rfl) (by simp) ?_ ?_
                    · refine ⟨?_, ?_, ?_, ?_, ?_, ?_, ?_, ?_, ?_, ?_, ?_, ?_, ?_, ?_, ?_, ?_, trivial⟩
                      all_goals refine SLF.ob fun us w' Fe hG hu hd hv Kx hK => ?_
                      all_goals simp [SL.frame, SL.put', SL.Used, SL.Seen, SL.pu, SL.row, SL.box, SL.rowIn, SL.boxIn, SL.boxAt, SL.boxAtIn, Bd.v, Bd.cs, SLF.pq] at hu hv hK
                      all_goals (have hB5 : Below wr2.heap.size wr2 w' := hG.below')
                      all_goals (have hcc := (bcell hB5).1)
                      all_goals (rw [← hcc _ _ bl1] at f0 f1; rw [← hcc _ _ hzr] at c1)
                      all_goals clear hcc hd hv hG
                      all_goals first
                        | refine SLF.wpo_do (SLF.wanted_free rfl) (by intro c h; cases h) ?_
                        | refine SLF.wpo_do (SLF.wanted_by rfl rfl (by simp [SL.frame, SL.put', hu]; done)) (by intro c h; cases h) ?_
                      all_goals simp [SL.frame, SL.put', SL.Used, SL.Seen, SL.pu, SL.row, SL.box, SL.rowIn, SL.boxIn, SL.boxAt, SL.boxAtIn, Bd.v, Bd.cs]
                      all_goals try (go_step; exact hK _ _ _ _ (by simp [Act.put, *]; done) (SL.Chg.refl _ _) rfl rfl (by simp) (by simp))
                      go_step
                      refine (hkk _ hB5).mono ?_
                      rintro e w2 ⟨rfl, hb3⟩
                      exact hK _ _ w2 _ (by simp [Act.put, *]; done) (.of_below hb3) rfl rfl (by simp)
                    · intro us w5 Fs hG hu hbd hd
                      simp [SL.frame, SL.put', SL.Used, SL.Seen, SL.pu, SL.row, SL.box, SL.rowIn, SL.boxIn, SL.boxAt, SL.boxAtIn, Bd.v, Bd.cs, SLF.pq] at hu ⊢
                      have hB5 : Below wr2.heap.size wr2 w5 := hG.below'
                      obtain ⟨u36, _⟩ := hu
                      simp only [u36]
                      clear hbd hd hG f0 f1 c1
                      cases B
                      · go_wp2_with fail
                        go_roundw
                        case rel => exact ⟨j + 1, by omega, by go_num, hB2.ch2 hB5, by rw [Hs2.out, Hall2.out]; rfl⟩
                        case measure => simp [RowKit.intOf]; omega
                      · have Hf := Lib.hid (HR.out (Hnj.out rfl))
                        go_wp2_with fail
                        go_ret2
                        rw [Hf.out]
                        exact ⟨rfl, (hBW.ch2 hB2).ch2 hB5⟩
                · have hjk' : j = k := by omega
                  subst hjk'
                  have Hall2 := Lib.hid hall2
                  clear hall2
                  go_wp2_with fail
                  go_roundw
                  case rel => exact ⟨j + 1, _, by omega, hM2', rfl, by go_num, hB2, Hnr.out, by rw [noClN_succ, Hn.out, Hall2.out]; rfl⟩
                  case measure => simp [RowKit.intOf]; omega
            · have hM3 : M2 = M + 1 := by rw [← HM2.out]; simp at hq; rw [if_pos hq]
              subst hM3
              have hxm : x = (M : Int) := by simpa using hq
              subst hxm
              go_wp2_with (go_at_call 93; refine (hW _).mono ?_; rintro e w2 ⟨rfl, rfl⟩)
              clear d0 c1 c3
              go_loopw [9] (fun i wr => ∃ j : Nat, j ≤ k ∧ i = .int .i64 j ∧ Below w1.heap.size w1 wr ∧ noClM (pns ps) v k j = true) (fun i _ => k - (RowKit.intOf i).toNat)
              case atStart => exact ⟨0, Nat.zero_le _, rfl, hB, rfl⟩
              case round =>
                rename World => wr2
                obtain ⟨j, hj, rfl, hB2, hall2⟩ := hrel
                have hjn : (0 : Int) ≤ j := by omega
                by_cases hjk : j < k
                · have j1 : (j : Int) < (k : Int) := by omega
                  have j2 : (j : Int) < (v.length : Int) := by omega
                  obtain ⟨b3, o3, e3, bl1, f0⟩ := (hly.below hB2).get hlt
                  simp at e3
                  obtain ⟨rfl, rfl⟩ := e3
                  obtain ⟨b4, o4, e4, bl2, f1⟩ := (hly.below hB2).get (i := j) (by omega)
                  simp at e4
                  obtain ⟨rfl, rfl⟩ := e4
                  have Hs2 := Lib.hid (noClM_succ (pns ps) v k j)
                  have Hall2 := Lib.hid hall2
                  have Hnj := Lib.hid (Hno.out j k hjk hlt)
                  clear hall2
                  rw [Hx.out] at f0 Hs2 Hnj
                  obtain ⟨y, hy⟩ : ∃ y, v.getD j 0 = y := ⟨_, rfl⟩
                  rw [hy] at f1 Hs2 Hnj
                  clear hy
                  have c1 := ((bcell hB2).1 _ 3 hz1).trans c0
                  have hzr : w.heap.size < wr2.heap.size := lt_size hB2 hz1
                  have hkk := fun w2 (h : Below wr2.heap.size wr2 w2) => hk w2 ((hby.below hB2).below h) j k (by have := Hkp.out; omega) Hkp.out
                  obtain ⟨B, hcl⟩ : ∃ B, clB (pns ps) j k = B := ⟨_, rfl⟩
                  rw [hcl] at hkk Hs2 Hnj
                  clear hcl
                  cases hyx : (y == (M : Int))
                  · rw [hyx] at Hs2
                    go_wp2_with fail
                    go_quiet (fail)
                    go_wp2
                    go_roundw
                    case rel => exact ⟨j + 1, by omega, by go_num, belowN hB2, by rw [Hs2.out, Hall2.out]; rfl⟩
                    case measure => simp [RowKit.intOf]; omega
                  · rw [hyx] at Hs2 Hnj
                    have hyx' : (M : Int) = y := by simp at hyx; exact hyx.symm
                    subst hyx'
                    have eqx : (((M : Int)) == ((M : Int))) = true := by simp
                    go_wp2_with fail
                    refine (wpIn_wide (n := 0)).1 ?_
                    refine SLF.rule (ro := none) (by kernel_rfl) [] [47, 48, 49, 50, 51, 52, 53, 54, 55, 56, 57, 58, 59, 60, 61, 62] [SLF.pq 47 [] (.slice (some ⟨b, o, none⟩) v.length cl), SLF.pq 48 [] (.int .i64 j), SLF.pq 49 [0, 1] (.pointer (some ⟨b, o + j, none⟩)), SLF.pq 50 [2] (.int .i64 ((M : Int))), SLF.pq 51 [] (.slice (some ⟨b, o, none⟩) v.length cl), SLF.pq 52 [] (.int .i64 k), SLF.pq 53 [4, 5] (.pointer (some ⟨b, o + k, none⟩)), SLF.pq 54 [6] (.int .i64 ((M : Int))), SLF.pq 55 [3, 7] (.bool true), SLF.pq 56 [8] (.bool true), SLF.pq 57 [9] (.pointer (some ⟨w.heap.size, 3, none⟩)), SLF.pq 58 [9, 10] (.slice a ps.length cap), SLF.pq 59 [9] (.int .i64 j), SLF.pq 60 [9] (.int .i64 k), SL.pu 61 [9, 11, 12, 13] (.bool B), SLF.pq 62 [9, 14] (.bool B)]
                      [15] (by kernel_rfl) (by kernel_rfl) (fun _ => []) (SL.none_held rfl) (by simp) ?_ ?_
                    · refine ⟨?_, ?_, ?_, ?_, ?_, ?_, ?_, ?_, ?_, ?_, ?_, ?_, ?_, ?_, ?_, ?_, trivial⟩
                      all_goals refine SLF.ob fun us w' Fe hG hu hd hv Kx hK => ?_
                      all_goals simp [SL.frame, SL.put', SL.Used, SL.Seen, SL.pu, SL.row, SL.box, SL.rowIn, SL.boxIn, SL.boxAt, SL.boxAtIn, Bd.v, Bd.cs, SLF.pq] at hu hv hK
                      all_goals (have hB5 : Below wr2.heap.size wr2 w' := hG.below')
                      all_goals (have hcc := (bcell hB5).1)
                      all_goals (rw [← hcc _ _ bl1] at f0 f1; rw [← hcc _ _ hzr] at c1)
                      all_goals clear hcc hd hv hG
                      all_goals first
                        | refine SLF.wpo_do (SLF.wanted_free rfl) (by intro c h; cases h) ?_
                        | refine SLF.wpo_do (SLF.wanted_by rfl rfl (by simp [SL.frame, SL.put', hu]; done)) (by intro c h; cases h) ?_
                      all_goals simp [SL.frame, SL.put', SL.Used, SL.Seen, SL.pu, SL.row, SL.box, SL.rowIn, SL.boxIn, SL.boxAt, SL.boxAtIn, Bd.v, Bd.cs]
                      all_goals try (go_step; exact hK _ _ _ _ (by simp [Act.put, *]; done) (SL.Chg.refl _ _) rfl rfl (by simp) (by simp))
                      go_step
                      refine (hkk _ hB5).mono ?_
                      rintro e w2 ⟨rfl, hb3⟩
                      exact hK _ _ w2 _ (by simp [Act.put, *]; done) (.of_below hb3) rfl rfl (by simp)
                    · intro us w5 Fs hG hu hbd hd
                      simp [SL.frame, SL.put', SL.Used, SL.Seen, SL.pu, SL.row, SL.box, SL.rowIn, SL.boxIn, SL.boxAt, SL.boxAtIn, Bd.v, Bd.cs, SLF.pq] at hu ⊢
                      have hB5 : Below wr2.heap.size wr2 w5 := hG.below'
                      obtain ⟨u36, _⟩ := hu
                      simp only [u36]
                      clear hbd hd hG f0 f1 c1
                      cases B
                      · go_wp2_with fail
                        go_roundw
                        case rel => exact ⟨j + 1, by omega, by go_num, hB2.ch2 hB5, by rw [Hs2.out, Hall2.out]; rfl⟩
                        case measure => simp [RowKit.intOf]; omega
                      · have Hf := Lib.hid (HR.out (Hnj.out rfl))
                        go_wp2_with fail
                        go_ret2
                        rw [Hf.out]
                        exact ⟨rfl, (hBW.ch2 hB2).ch2 hB5⟩
                · have hjk' : j = k := by omega
                  subst hjk'
                  have Hall2 := Lib.hid hall2
                  clear hall2
                  go_wp2_with fail
                  go_roundw
                  case rel => exact ⟨j + 1, _, by omega, hM2', rfl, by go_num, hB2, Hnr.out, by rw [noClN_succ, Hn.out, Hall2.out]; rfl⟩
                  case measure => simp [RowKit.intOf]; omega
        · have hk2 : k = v.length := by omega
          subst hk2
          have hA : asgM (pns ps) v = some M := by
            unfold asgM
            have h2 := Hr.out
            rw [List.take_length] at h2
            rw [if_pos, h2]
            refine ⟨by rw [pns_len]; exact Hlen.out, Hn.out⟩
          have HA := Lib.hid (HR2.out M hA)
          clear hA
          obtain ⟨L1, hL1⟩ : ∃ L1, (lim == 0) = L1 := ⟨_, rfl⟩
          obtain ⟨L2, hL2⟩ : ∃ L2, decide ((M : Int) ≤ lim) = L2 := ⟨_, rfl⟩
          have hL3 : decide (lim = 0) = L1 := by rw [← hL1]; rfl
          rw [hL3, hL2] at HA
          clear hL3
          cases L1
          all_goals
            go_wp2_with fail
            go_ret2
            rw [HA.out]
            exact ⟨by simp, hBW.ch2 hB⟩
    · have hlb : ((v.length : Int) != (ps.length : Int)) = true := by simp; omega
      have hlb2 : (v.length != ps.length) = true := by simpa using hlen
      have hA : asgM (pns ps) v = none := by
        unfold asgM
        rw [if_neg]
        rintro ⟨h, _⟩
        rw [pns_len] at h
        exact hlen h
      rw [hA] at hr
      subst hr
      clear hA hlen hok h0 hk
      go_enter Tryz.func41, Tryz.ntmps41
      go_wp2_with (go_at_call 59; refine (hC _ hbx).mono ?_; rintro e w1 ⟨rfl, hb1⟩; obtain ⟨hc1, hf1⟩ := bcell hb1; have hz1 := lt_size hb1 (b := w.heap.size) (by first | assumption | omega | (simp; done) | (simp; omega)))
      go_ret2
      exact ⟨rfl, hB0.ch2 hb1⟩
  · have h2 : (c.chk != 0) = true := by simpa using h0
    have hd : decide (c.chk = 0) = false := by simpa using h0
    rw [hd] at hr
    simp only [Bool.false_and] at hr
    subst hr
    clear h0 hd hok
    generalize c.chk = E at *
    obtain ⟨ware, lim, byr, a, cap, ps⟩ := c
    simp only [Cs.v] at *
    have hB0 := one_alloc w (Obj.cells #[.string ware, .int .i64 lim, .int .i64 byr, .slice a ps.length cap] 24)
    have hbx := hc.below hB0
    go_enter Tryz.func41, Tryz.ntmps41
    go_wp2_with (go_at_call 59; refine (hC _ hbx).mono ?_; rintro e w1 ⟨rfl, hb1⟩)
    go_ret2
    exact ⟨rfl, hB0.ch2 hb1⟩
set_option maxHeartbeats 40000000
def critF (s : List Pn) (i : Nat) : Bool := decide (leastN (s.eraseIdx i) < leastN s)
def Cs.critL (c : Cs) : List Int := if c.chk = 0 then pickL (critF c.s) c.ps.length else []
theorem r6Critical (c : Cs) (w : World) (hc : CsAt w c) (hroom : c.ps.length ≤ c.cap) :
    Calls Tryz.prog 29 #[c.v] w fun e w' => ∃ v, e = .returned (.tuple #[v, .int .i64 c.chk]) ∧ Below w.heap.size w w' ∧ w'.ownsRow w.heap.size 3 1 v c.critL.length (c.critL.map (.int .i64)) := by
  have hC := fun w1 (h : CsAt w1 c) => r6chk c w1 h
  have hok := @Cs.chk_zero c
  have hr : c.critL = if c.chk = 0 then pickL (critF (pns c.ps)) c.ps.length else [] := rfl
  generalize c.critL = R at *
  by_cases h0 : c.chk = 0
  · obtain hok := hok.1 h0
    have hmany := hok.many
    have hoks := hok.oks
    have hD := fun w1 (h : CsAt w1 c) => r6least c.a _ c.cap c.ps w1 h.ps hoks (by omega)
    have hW := fun w1 (h : CsAt w1 c) (k : Nat) => r6Without c k w1 h hroom
    have hask : ∀ k : Nat, k < c.ps.length → c.ask [(k : Int)] = 0 := fun k hk => by
      rw [Cs.ask_eq, if_pos h0, if_pos]
      simp [inL]; omega
    have hLW := fun (d : Cs) w1 (h : CsAt w1 d) (hs : OkS (pns d.ps)) (hm : d.ps.length ≤ 1000) => r6least d.a _ d.cap d.ps w1 h.ps hs hm
    have hdn : ∀ (k : Nat) (d : Cs), SameC d (resC 0 (c.wo k)) → pns d.ps = (pns c.ps).eraseIdx k ∧ d.ps.length ≤ 1000 := fun k d h => by
      have h1 : d.s = (c.wo k).s := h.s
      have h2 : d.ps.length = (c.ps.eraseIdx k).length := h.len
      exact ⟨h1.trans (pns_erase _ _), by rw [h2, List.length_eraseIdx]; split <;> omega⟩
    have Hdn := Lib.hid hdn
    have Hask := Lib.hid hask
    rw [if_pos h0] at hr
    simp only [h0] at hC ⊢
    have hcf : ∀ k, critF (pns c.ps) k = decide (leastN ((pns c.ps).eraseIdx k) < leastN (pns c.ps)) := fun k => rfl
    obtain ⟨ware, lim, byr, a, cap, ps⟩ := c
    simp only [Cs.v] at *
    have hB0 := one_alloc w (Obj.cells #[.string ware, .int .i64 lim, .int .i64 byr, .slice a ps.length cap] 24)
    have hbx := hc.below hB0
    have Hr := Lib.hid hr
    have Hcf := Lib.hid hcf
    obtain ⟨L, hL⟩ : ∃ L, leastN (pns ps) = L := ⟨_, rfl⟩
    rw [hL] at hD
    have HL := Lib.hid hL
    clear hL hr hcf hdn hask h0 hok
    go_enter Tryz.func29, Tryz.ntmps29
    go_wp2_with (first
      | (go_at_call 59; refine (hC _ hbx).mono ?_; rintro e w1 ⟨rfl, hb1⟩; obtain ⟨hc1, hf1⟩ := bcell hb1; have hz1 := lt_size hb1 (b := w.heap.size) (by first | assumption | omega | (simp; done) | (simp; omega)); have hby := hbx.below hb1)
      | (go_at_call 84; refine (hD _ hby).mono ?_; rintro e w2 ⟨rfl, hb2⟩; obtain ⟨hc2, hf2⟩ := bcell hb2; have hz2 := lt_size hb2 (b := w.heap.size) (by first | assumption | omega | (simp; done) | (simp; omega)); have hbz := hby.below hb2))
    have c0 : w2.cell? ⟨w.heap.size, 0, none⟩ = some (.string ware) := by simp [go_sem, *]
    have c1 : w2.cell? ⟨w.heap.size, 1, none⟩ = some (.int .i64 lim) := by simp [go_sem, *]
    have c2 : w2.cell? ⟨w.heap.size, 2, none⟩ = some (.int .i64 byr) := by simp [go_sem, *]
    have c3 : w2.cell? ⟨w.heap.size, 3, none⟩ = some (.slice a ps.length cap) := by simp [go_sem, *]
    have hBW : Below w.heap.size w w2 := (hB0.ch2 hb1).ch2 hb2
    have hzw := hBW.size
    clear hc1 hf1 hb1 hC hB0 hbx hc2 hf2 hb2 hby
    go_loopw [6, 7] (fun o i wr => ∃ k : Nat, k ≤ ps.length ∧ i = .int .i64 k ∧ Below w2.heap.size w2 wr ∧ wr.ownsRow w2.heap.size 3 1 o (pickL (critF (pns ps)) k).length ((pickL (critF (pns ps)) k).map (.int .i64))) (fun _ i _ => ps.length - (RowKit.intOf i).toNat)
    case atStart => exact ⟨0, Nat.zero_le _, rfl, Below.refl _ _, World.ownsRow_nil _ _ _ _⟩
    case round =>
      obtain ⟨k, hk', rfl, hB, hown⟩ := hrel
      have e0 := ((bcell hB).1 _ 0 hz2).trans c0
      have e1 := ((bcell hB).1 _ 1 hz2).trans c1
      have e2 := ((bcell hB).1 _ 2 hz2).trans c2
      have e3 := ((bcell hB).1 _ 3 hz2).trans c3
      have hnn : (0 : Int) ≤ k := by omega
      by_cases hlt : k < ps.length
      · have i1 : (k : Int) < (ps.length : Int) := by omega
        have Hs := Lib.hid (pickL_succ (critF (pns ps)) k)
        have hPl := pickL_len (critF (pns ps)) k
        generalize pickL (critF (pns ps)) k = P at *
        have hzr : w.heap.size < wr.heap.size := lt_size hB hz2
        have hWk := hW wr (hbz.below hB) k
        rw [Hask.out k hlt] at hWk
        simp only [Int.toNat_natCast] at hWk
        have Hck := Lib.hid (Hcf.out k)
        have hok2 := hoks.erase k
        obtain ⟨D, hDk⟩ : ∃ D, leastN ((pns ps).eraseIdx k) = D := ⟨_, rfl⟩
        cases hcl : critF (pns ps) k
        · rw [Hcf.out k, HL.out, hDk] at hcl
          have Hcl := Lib.hid (show critF (pns ps) k = false from (Hcf.out k).trans (by rw [HL.out, hDk]; exact hcl))
          have hcl2 := hcl
          simp only [decide_eq_true_eq, decide_eq_false_iff_not] at hcl2
          have hcl3 : decide ((D : Int) < (L : Int)) = false := (by simp only [decide_eq_true_eq, decide_eq_false_iff_not]; omega)
          have HDk := Lib.hid hDk
          clear hDk hcl2
          go_wp2_with fail
          refine hWk.mono ?_
          rintro e w3 ⟨d, hsd, rfl, hb3, hd3⟩
          obtain ⟨hdn1, hdn2⟩ := Hdn.out k d hsd
          have Hdn1 := Lib.hid hdn1
          have hLd := fun w1 (h : CsAt w1 d) => hLW d w1 h (by rw [Hdn1.out]; exact hok2) hdn2
          rw [hdn1, HDk.out] at hLd
          clear hdn1 hsd
          obtain ⟨dw, dl, db, da, dc, dps⟩ := d
          simp only [Cs.v] at *
          go_wp2_with (first
            | (go_at_call 84; refine (hLd _ (hd3.below (one_alloc w3 _))).mono ?_; rintro e w4 ⟨rfl, hb4⟩
               have hB5 : Below w2.heap.size w2 w4 := hB.ch2 (hb3.ch2 ((one_alloc _ _).ch2 hb4))
               have hO := hown.up (hb3.ch2 ((one_alloc w3 (Obj.cells #[Value.string dw, Value.int .i64 dl, Value.int .i64 db, Value.slice da dps.length dc] 24)).ch2 hb4)) (Nat.le_refl _)
               have hO2 := hO.up (one_alloc w4 (Obj.cells #[.int .i64 k] 3)) (Nat.le_refl _))
            | (at_builtin; refine wpList_app elemI rfl _ _ rfl hO2 rfl rfl (RowAt.of_heap (World.alloc_heap_new w4 _)) rfl (ones_int [(k : Int)]) (by unfold maxLen; omega) (by omega) (by have := hB5.size; simp; omega) ?_))
          go_roundw
          case rel => exact ⟨k + 1, by omega, by go_num, hB5, by rw [Hs.out, Hcl.out]; simpa using hO⟩
          case measure => simp [RowKit.intOf]; omega
        · rw [Hcf.out k, HL.out, hDk] at hcl
          have Hcl := Lib.hid (show critF (pns ps) k = true from (Hcf.out k).trans (by rw [HL.out, hDk]; exact hcl))
          have hcl2 := hcl
          simp only [decide_eq_true_eq, decide_eq_false_iff_not] at hcl2
          have hcl3 : decide ((D : Int) < (L : Int)) = true := (by simp only [decide_eq_true_eq, decide_eq_false_iff_not]; omega)
          have HDk := Lib.hid hDk
          clear hDk hcl2
          go_wp2_with fail
          refine hWk.mono ?_
          rintro e w3 ⟨d, hsd, rfl, hb3, hd3⟩
          obtain ⟨hdn1, hdn2⟩ := Hdn.out k d hsd
          have Hdn1 := Lib.hid hdn1
          have hLd := fun w1 (h : CsAt w1 d) => hLW d w1 h (by rw [Hdn1.out]; exact hok2) hdn2
          rw [hdn1, HDk.out] at hLd
          clear hdn1 hsd
          obtain ⟨dw, dl, db, da, dc, dps⟩ := d
          simp only [Cs.v] at *
          go_wp2_with (first
            | (go_at_call 84; refine (hLd _ (hd3.below (one_alloc w3 _))).mono ?_; rintro e w4 ⟨rfl, hb4⟩
               have hB5 : Below w2.heap.size w2 w4 := hB.ch2 (hb3.ch2 ((one_alloc _ _).ch2 hb4))
               have hO := hown.up (hb3.ch2 ((one_alloc w3 (Obj.cells #[Value.string dw, Value.int .i64 dl, Value.int .i64 db, Value.slice da dps.length dc] 24)).ch2 hb4)) (Nat.le_refl _)
               have hO2 := hO.up (one_alloc w4 (Obj.cells #[.int .i64 k] 3)) (Nat.le_refl _))
            | (at_builtin; refine wpList_app elemI rfl _ _ rfl hO2 rfl rfl (RowAt.of_heap (World.alloc_heap_new w4 _)) rfl (ones_int [(k : Int)]) (by unfold maxLen; omega) (by omega) (by have := hB5.size; simp; omega) ?_))
          intro v' w6 ho hg hb6 _ _
          go_wp2
          go_roundw
          case rel => exact ⟨k + 1, by omega, by go_num, (hB5.trans ((one_alloc w4 _).mono hB5.size)).trans hb6, by rw [Hs.out, Hcl.out]; simpa using ho⟩
          case measure => simp [RowKit.intOf]; omega
      · have hk2 : k = ps.length := by omega
        subst hk2
        go_wp2_with fail
        go_ret2
        rw [Hr.out]
        exact ⟨_, rfl, hBW.ch2 hB, SL.row_base hown hzw⟩
  · rw [if_neg h0] at hr
    subst hr
    generalize c.chk = E at *
    have h2 : (E != 0) = true := by simpa using h0
    obtain ⟨ware, lim, byr, a, cap, ps⟩ := c
    simp only [Cs.v] at *
    have hB0 := one_alloc w (Obj.cells #[.string ware, .int .i64 lim, .int .i64 byr, .slice a ps.length cap] 24)
    have hbx := hc.below hB0
    clear hok h0
    go_enter Tryz.func29, Tryz.ntmps29
    go_wp2_with (go_at_call 59; refine (hC _ hbx).mono ?_; rintro e w1 ⟨rfl, hb1⟩)
    go_ret2
    exact ⟨_, rfl, hB0.ch2 hb1, World.ownsRow_nil _ _ _ _⟩
end Go.Proofs.YtodkbfbbpfghiaaGreat
