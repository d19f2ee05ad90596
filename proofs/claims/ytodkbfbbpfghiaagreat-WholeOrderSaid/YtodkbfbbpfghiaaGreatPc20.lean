/-
  Lemmas and walks for the laws on roads and boards: what each function of the program answers, for every input.
-/
import Derived.Test.YtodkbfbbpfghiaaGreatPc12
import Derived.Test.YtodkbfbbpfghiaaGreatPc13
import Derived.Laws.CopyOwn
import Derived.OwnWalk
import Derived.Deep.RegionLaw
import Derived.Test.YtodkbfbbpfghiaaGreatPc18
import Derived.Test.YtodkbfbbpfghiaaGreatPc11
import Derived.Test.YtodkbfbbpfghiaaGreatPc03
import Derived.Maps.OwnSet
import Derived.Test.YtodkbfbbpfghiaaGreatPc08
import Derived.Test.YtodkbfbbpfghiaaGreatPc10
set_option linter.unusedSimpArgs false
set_option linter.unusedVariables false
set_option linter.unnecessarySimpa false
namespace Go.Proofs.YtodkbfbbpfghiaaGreat
open Go.RowKit Go.Shelf
set_option maxHeartbeats 4000000
set_option maxRecDepth 100000
/-- A row of which k numbers are laid. -/
def repC (v : Int) (m k : Nat) : List Value := List.replicate k (.int .i64 v) ++ List.replicate (m - k) (.int .i64 0)
theorem repC_len {v : Int} {m k : Nat} (h : k ≤ m) : (repC v m k).length = m := by simp [repC]; omega
theorem repC_splice {v : Int} {m k j : Nat} (h : k + j ≤ m) : splice (repC v m k) k (List.replicate j (.int .i64 v)) = repC v m (k + j) := by
  unfold splice repC
  rw [List.take_left' (by simp), List.length_replicate, List.drop_append, List.length_replicate, List.drop_of_length_le (by simp), List.nil_append, List.drop_replicate, ← List.append_assoc, List.replicate_append_replicate]
  congr 2
  omega
theorem repC_get {v : Int} {m k j : Nat} {w : World} {g : Nat} (h : w.heap[g]? = some (.cells (repC v m k).toArray 3 (0, 0))) (hj : j < k) : w.cell? ⟨g, j, none⟩ = some (.int .i64 v) := by
  rw [(SL.cells_of h).1]
  simp [repC, List.getElem?_append, hj]
theorem made_rep {w w4 : World} {v : Int} {m : Nat} (ho4 : w4.ownsRow w.heap.size 3 1 (.slice (some ⟨w.heap.size, 0, none⟩) m m) m (madeCells (Value.int .i64 0).cells (m * 1)).toList) : w4.heap[w.heap.size]? = some (.cells (repC v m 0).toArray 3 (0, 0)) := by
  obtain ⟨_, ⟨e, _⟩ | ⟨g, cap, cu, e, hbg, hg, g1, g2, g3, g4⟩⟩ := ho4
  · cases e
  · injection e with e1 e2 e3
    injection e1 with e1
    injection e1 with e1
    subst e1
    subst e3
    rw [hg]
    congr 2
    rw [Nat.mul_one] at g3 g4
    rw [List.take_of_length_le (by simp; omega)] at g4
    rw [← Array.toArray_toList (xs := cu), g4]
    simp [repC, madeCells, Value.cells, Nat.mod_one, List.map_const']
theorem below_made {w w4 : World} (hg4 : w.grownBy w4 none) : Below w.heap.size w w4 := ⟨hg4.os, hg4.tape, hg4.output, hg4.size, fun k hk => hg4.block k hk (fun e => by cases e)⟩
theorem wrepeat (v : Int) (m SB : Nat) (w : World) (hm : m ≤ 1000) (hsrc : w.cell? ⟨SB, 0, none⟩ = some (.int .i64 v)) :
    Calls Tryz.prog 123 #[.slice (some ⟨SB, 0, none⟩) 1 1, .int .i64 m] w (RowPost w 3 1 m ((List.replicate m v).map (.int .i64))) := by
  have hM : Calls Tryz.prog 151 #[.int .u64 1, .int .u64 m] w fun e w' => e = .returned (.tuple #[.int .u64 0, .int .u64 m]) ∧ w' = w := by
    have h := Any.bits_Mul Tryz.mulA 1 m (by omega) (by omega) w
    rw [show 1 * m / 18446744073709551616 = 0 by omega, show 1 * m % 18446744073709551616 = m by omega] at h
    exact h
  have zS := World.block_lt_of_cell? w _ hsrc
  simp only at zS
  obtain ⟨Q, hQ⟩ : ∃ Q, RowPost w 3 1 m ((List.replicate m v).map (.int .i64)) = Q := ⟨_, rfl⟩
  rw [hQ]
  have HQ := Lib.hid hQ
  clear hQ
  have i0 : ¬ ((m : Int) < 0) := by omega
  have i1 : decide ((9223372036854775807 : Int) < (m : Int)) = false := by simp only [decide_eq_false_iff_not]; omega
  have i2 : IntKind.u64.wrap (m : Int) = m := IntWalk.u64_in _ (by omega)
  have i3 : IntKind.i64.wrap (m : Int) = m := IntWalk.i64_in _ (by omega)
  obtain ⟨iI, hiI, hzI, hsI, hbI⟩ := elemI.info
  have HI := Lib.hid (And.intro hiI (And.intro hzI (And.intro hsI hbI)))
  clear hiI hzI hsI hbI
  have HI2 := Lib.hid (show (Tryz.prog.info? 3).map (·.size) = some 1 by rw [HI.out.1]; simp [HI.out.2.2.1])
  go_enter Tryz.func123, Tryz.ntmps123
  go_wp2_with (first
    | (go_at_call 151; (with_reducible refine hM.mono ?_); rintro e w1 ⟨rfl, hw⟩; obtain rfl := hw.symm)
    | (at_make; refine wpList_make_full _ rfl _ _ 34 rfl w.heap.size 3 iI (.int .i64 0) 1 Tryz.underlying34 HI.out.1 HI.out.2.1 HI.out.2.2.1 .i64 .i64 _ _ m rfl rfl (by omega) (by omega) (by rw [HI.out.2.2.2]; omega) (by unfold maxLen; omega) (Nat.le_refl _) ?_; intro w4 ho4 hg4; have hbl := made_rep (v := v) ho4; have hB4 := below_made hg4; have hsr4 : w4.cell? ⟨SB, 0, none⟩ = some (.int .i64 v) := ((bcell hB4).1 _ _ zS).trans hsrc; have HBL := Lib.hid hbl; clear ho4 hg4 hbl)
    | (refine wpList_copy_splice rfl (.tmp 31) (.tmp 32) 34 34 rfl 3 Tryz.underlying34 HI2.out (some ⟨w.heap.size, 0, none⟩) (some ⟨SB, 0, none⟩) m m 1 1 rfl rfl w.heap.size 0 (repC v m 0) 3 HBL.out (List.replicate (min 1 m) (.int .i64 v)) (by simp) (fun _ => ⟨rfl, _, rfl, fun j u hj => by
        obtain ⟨h1, h2⟩ := List.getElem?_eq_some_iff.1 hj
        simp at h1 h2
        obtain rfl : j = 0 := by omega
        rw [← h2]; exact hsr4⟩) (by simp [repC]; omega) (by simp [Value.oneCell']) w.heap.size w hB4 (Nat.le_refl _) ?_; intro w5 hg5 hb5))
  have hg6 : w5.heap[w.heap.size]? = some (.cells (repC v m (min 1 m)).toArray 3 (0, 0)) := by
    have := hg5.out
    rwa [repC_splice (by omega), Nat.zero_add] at this
  clear hg5 HBL hsr4 hB4
  have hlen0 : ((List.replicate (min 1 m) (Value.int .i64 v)).length : Int) = ((min 1 m : Nat) : Int) := by simp
  try simp only [hlen0]
  go_loopw [8] (fun n wr => ∃ k : Nat, k ≤ m ∧ (m ≠ 0 → 1 ≤ k) ∧ n = .int .i64 k ∧ Below w.heap.size w wr ∧ wr.heap[w.heap.size]? = some (.cells (repC v m k).toArray 3 (0, 0))) (fun n _ => m - (RowKit.intOf n).toNat)
  case atStart => exact ⟨min 1 m, by omega, by omega, by simp [goInt], hb5, hg6⟩
  case round =>
    obtain ⟨k, hk, h1, rfl, hB, hg⟩ := hrel
    have hnn : (0 : Int) ≤ k := by omega
    by_cases hlt : k < m
    · have x1 : (k : Int) < (m : Int) := by omega
      have x2 : (k : Int) ≤ (m : Int) := by omega
      have x3 : ((k : Int) == (m : Int)) = false := by simp; omega
      have x4 : (k == m) = false := by simp; omega
      have hk1 : 1 ≤ k := h1 (by omega)
      obtain ⟨j, hj⟩ : ∃ j, min k (m - k) = j := ⟨_, rfl⟩
      have hwr : IntKind.i64.wrap ((k : Int) + (j : Int)) = (k : Int) + j := IntWalk.i64_in _ (by omega)
      have HG := Lib.hid hg
      clear hg
      have HGd : Hid (wr.drew.heap[w.heap.size]? = some (.cells (repC v m k).toArray 3 (0, 0))) := Lib.hid HG.out
      have HBd : Hid (Below w.heap.size w wr.drew) := Lib.hid hB.drew
      have Hjl : Hid ((List.replicate j (Value.int .i64 v)).length = Nat.min k (m - k)) := Lib.hid (by rw [List.length_replicate]; exact hj.symm)
      have Hfit : Hid (k + (List.replicate j (Value.int .i64 v)).length ≤ (repC v m k).length) := Lib.hid (by rw [List.length_replicate, repC_len hk]; omega)
      have Hone : Hid (∀ u ∈ List.replicate j (Value.int .i64 v), u.oneCell' = true) := Lib.hid (by simp [Value.oneCell'])
      have Hsrc : Hid (∀ (i : Nat) (u : Value), (List.replicate j (Value.int .i64 v))[i]? = some u → wr.drew.cell? ((⟨w.heap.size, 0, none⟩ : Addr).add i) = some u) := Lib.hid (fun i u hi => by
        obtain ⟨q1, q2⟩ := List.getElem?_eq_some_iff.1 hi
        rw [List.length_replicate] at q1
        rw [List.getElem_replicate] at q2
        rw [← q2]
        have e : (⟨w.heap.size, 0, none⟩ : Addr).add i = ⟨w.heap.size, i, none⟩ := by unfold Addr.add; by_cases h : i = 0 <;> simp [h]
        rw [e]
        exact repC_get (w := wr.drew) HGd.out (j := i) (by omega))
      have Hj := Lib.hid hj
      have Hsp : Hid (splice (repC v m k) k (List.replicate j (Value.int .i64 v)) = repC v m (k + j)) := Lib.hid (repC_splice (by omega))
      have Hgo : Hid (goInt (List.replicate j (Value.int .i64 v)).length = .int .i64 j) := Lib.hid (by simp [goInt])
      clear hj HG hg6 hb5 hlen0
      go_wp2_with fail
      go_region_law (refine step_copy_splice rfl (.tmp 41) (.tmp 44) 34 34 rfl 3 Tryz.underlying34 HI2.out (some ⟨w.heap.size, k, none⟩) (some ⟨w.heap.size, 0, none⟩) (m - k) (m - k) k m (by simp [Act.eval, Act.put]; omega) (by simp [Act.eval, Act.put]) w.heap.size k (repC v m k) 3 HGd.out (List.replicate j (.int .i64 v)) Hjl.out (fun _ => ⟨rfl, _, rfl, Hsrc.out⟩) Hfit.out Hone.out w.heap.size w HBd.out (Nat.le_refl _) ?_; rw [Hsp.out, Hgo.out]; intro w6 hg6 hb6)
      all_goals (have HG6 := Lib.hid hg6.out; clear hg6)
      all_goals go_wp2_with fail
      all_goals go_roundw
      case rel => exact ⟨k + j, by have := Hj.out; omega, by omega, by omega, HG6.out⟩
      case measure => have := Hj.out; simp [RowKit.intOf]; omega
    · have hk2 : k = m := by omega
      subst hk2
      have hall : repC v k k = (List.replicate k v).map (.int .i64) := by simp [repC]
      rw [hall] at hg
      go_wp2_with fail
      rw [← HQ.out]
      refine ⟨_, rfl, hB, ⟨by simp, .inr ⟨w.heap.size, k, _, rfl, Nat.le_refl _, hg, Nat.le_refl _, by unfold maxLen; omega, by simp, by simp⟩⟩⟩
theorem wpoints1 (lo hi : Int) (w : World) : Calls Tryz.prog 149 #[.agg #[.int .i64 lo, .int .i64 hi]] w fun e w' => e = .returned (.int .i64 hi) ∧ Below w.heap.size w w' := by
  go_enter Tryz.func149, Tryz.ntmps149
  go_wp2
  go_ret
  exact ⟨rfl, one_alloc _ _⟩
theorem wpoints2 (lo hi : Int) (w : World) : Calls Tryz.prog 150 #[.agg #[.int .i64 lo, .int .i64 hi]] w fun e w' => e = .returned (.int .i64 lo) ∧ Below w.heap.size w w' := by
  go_enter Tryz.func150, Tryz.ntmps150
  go_wp2
  go_ret
  exact ⟨rfl, one_alloc _ _⟩
theorem needS_le (s : List Pn) (pts : List Int) (h : Int) (lows : List Int) : needS s pts h lows ≤ s.length := by
  unfold needS
  rcases fmax_cases (c := fun _ => true) (f := fun low => dem s low h - (pts.length - before pts low)) (l := lows) (m := 0) with e | ⟨x, _, _, e⟩
  · rw [e]; omega
  · rw [e]; have := dem_le (s := s) x h; omega
theorem ptsN_len (s : List Pn) : ∀ k, (ptsN s k).length ≤ k * s.length
  | 0 => by simp [ptsN]
  | k + 1 => by
    have h1 := ptsN_len s k
    have h2 := needS_le s (ptsN s k) ((hisL s).getD k 0) (losL s)
    simp only [ptsN, List.length_append, List.length_replicate, Nat.succ_mul]
    omega
theorem needS_take {s : List Pn} {pts : List Int} {h : Int} {L : List Int} {q : Nat} (hq : q < L.length) :
    needS s pts h (L.take (q + 1)) = max (needS s pts h (L.take q)) (dem s (L.getD q 0) h - (pts.length - before pts (L.getD q 0))) := by
  unfold needS
  rw [List.take_succ_eq_append_getElem hq, fmax_snoc, if_pos rfl]
  simp [List.getD_eq_getElem?_getD, hq]
theorem wpoints (a : Option Addr) (ca : Nat) (f : Option Addr) (cf n : Nat) (s : List Pn) (w : World) (hs : SpansAt w a ca f cf n s) (hn : s.length ≤ 100) (hok : OkS s) :
    Calls Tryz.prog 122 #[spV a ca f cf n] w (RowPost w 3 1 (ptsL s).length ((ptsL s).map (.int .i64))) := by
  obtain rfl := hs.len
  have hE1 := fun W (h : SpansAt W a ca f cf s.length s) => wends a ca f cf s.length s 149 (fun _ hi => hi) W h (by omega) (enters_of Tryz.func149 (by kernel_rfl) rfl) wpoints1 (fun p hp => by have := hok p hp; omega)
  have hE2 := fun W (h : SpansAt W a ca f cf s.length s) => wends a ca f cf s.length s 150 (fun lo _ => lo) W h (by omega) (enters_of Tryz.func150 (by kernel_rfl) rfl) wpoints2 (fun p hp => by have := hok p hp; omega)
  change ∀ W, SpansAt W a ca f cf s.length s → Calls Tryz.prog 131 _ W (RowPost W 3 1 (hisL s).length ((hisL s).map (.int .i64))) at hE1
  change ∀ W, SpansAt W a ca f cf s.length s → Calls Tryz.prog 131 _ W (RowPost W 3 1 (losL s).length ((losL s).map (.int .i64))) at hE2
  have hDm := fun lo hi W (h : SpansAt W a ca f cf s.length s) => wdemand a ca f cf s.length s lo hi W h (by omega)
  have hll := losL_len s
  have hhl := hisL_len s
  have hAsc := fun k (h : k ≤ (hisL s).length) => (ptsN_ok hok h).asc
  have hPl := fun k => ptsN_len s k
  have hPs : ∀ k, ptsN s (k + 1) = ptsN s k ++ List.replicate (needS s (ptsN s k) ((hisL s).getD k 0) (losL s)) ((hisL s).getD k 0) := fun _ => rfl
  have hPf : ptsN s (hisL s).length = ptsL s := rfl
  obtain ⟨Q, hQ⟩ : ∃ Q, RowPost w 3 1 (ptsL s).length ((ptsL s).map (.int .i64)) = Q := ⟨_, rfl⟩
  rw [hQ]
  rw [← hPf] at hQ
  have HQ := Lib.hid hQ
  generalize hisL s = H at *
  generalize losL s = L at *
  have HAsc := Lib.hid hAsc
  have HPl := Lib.hid hPl
  have HPs := Lib.hid hPs
  have HDl : Hid (∀ lo hi, dem s lo hi ≤ 100) := Lib.hid (fun lo hi => Nat.le_trans (dem_le lo hi) hn)
  have HE2 := Lib.hid hE2
  have hB1 := one_alloc w (Obj.cells #[.slice a s.length ca, .slice f s.length cf] 83)
  clear hQ hPf hAsc hPl hPs hE2
  unfold spV at *
  go_enter Tryz.func122, Tryz.ntmps122
  go_wp2_with (go_at_call 131; (with_reducible refine (hE1 _ (hs.below hB1)).mono ?_); rintro e w2 ⟨v1, rfl, hb2, ho2⟩; obtain ⟨ha, hc, rfl, hha⟩ := owns_slice ho2; have hz2 := lt_size hb2 (b := w.heap.size) (by first | assumption | omega | (simp; done) | (simp; omega)))
  have hB2 : Below w.heap.size w w2 := hB1.ch2 hb2
  have p0 : w2.cell? ⟨w.heap.size, 0, none⟩ = some (.slice a s.length ca) := by rw [(bcell hb2).1 _ _ (by simp)]; simp [go_sem]
  have p1 : w2.cell? ⟨w.heap.size, 1, none⟩ = some (.slice f s.length cf) := by rw [(bcell hb2).1 _ _ (by simp)]; simp [go_sem]
  have hHat : IntsAt w2 ha H.length hc H := IntsAt.of_owns ho2 (by omega)
  have hs2 := hs.below hB2
  clear hb2 ho2 hha hE1
  go_loopw [3, 14] (fun t i wr => ∃ k : Nat, k ≤ H.length ∧ i = .int .i64 k ∧ Below w2.heap.size w2 wr ∧ wr.ownsRow w2.heap.size 3 1 t (ptsN s k).length ((ptsN s k).map (.int .i64))) (fun _ i _ => H.length - (RowKit.intOf i).toNat)
  case atStart => exact ⟨0, Nat.zero_le _, rfl, Below.refl _ _, World.ownsRow_nil _ _ _ _⟩
  case round =>
    obtain ⟨k, hk, rfl, hB, hown⟩ := hrel
    have hnn : (0 : Int) ≤ k := by omega
    by_cases hlt : k < H.length
    · have i1 : (k : Int) < (H.length : Int) := by omega
      obtain ⟨b, o, rfl, _, d0⟩ := (hHat.below hB).get hlt
      have HS := Lib.hid (HPs.out k)
      have HA := Lib.hid (HAsc.out k hk)
      have hb1 := HPl.out k
      have hkb : k * s.length ≤ 100 * 100 := Nat.mul_le_mul (by omega) hn
      have HPn : Hid ((ptsN s k).length ≤ 10000) := Lib.hid (by omega)
      generalize ptsN s k = P at *
      generalize H.getD k 0 = x at *
      clear hb1 hkb
      have HR := Lib.hid hown
      obtain ⟨va, vc, rfl, _⟩ := owns_slice hown
      clear hown
      have q0 := ((bcell hB).1 _ 0 hz2).trans p0
      have q1 := ((bcell hB).1 _ 1 hz2).trans p1
      have hsr := hs2.below hB
      have hzr : w.heap.size < wr.heap.size := by have := hB.size; omega
      go_wp2_with (go_at_call 131; (with_reducible refine (HE2.out _ hsr).mono ?_); rintro e w5 ⟨v5, rfl, hb5, ho5⟩; obtain ⟨la, lc, rfl, hla⟩ := owns_slice ho5)
      have hLat : IntsAt w5 la L.length lc L := IntsAt.of_owns ho5 (by omega)
      have r0 := ((bcell hb5).1 _ 0 hzr).trans q0
      have r1 := ((bcell hb5).1 _ 1 hzr).trans q1
      have hs5 := hsr.below hb5
      have hz5 := Nat.lt_of_lt_of_le hzr hb5.size
      have hPat : IntsAt w5 va P.length vc P := IntsAt.of_owns (HR.out.up hb5 (Nat.le_refl _)) (by have := HPn.out; omega)
      clear ho5 hla q0 q1 d0
      go_loopw [6, 21] (fun t i wq => ∃ q : Nat, q ≤ L.length ∧ i = .int .i64 q ∧ t = .int .i64 (needS s P x (L.take q) : Nat) ∧ Below w5.heap.size w5 wq) (fun _ i _ => L.length - (RowKit.intOf i).toNat)
      case atStart => exact ⟨0, Nat.zero_le _, rfl, rfl, Below.refl _ _⟩
      case round =>
        obtain ⟨q, hq, rfl, rfl, hBq⟩ := hrel
        have hnq : (0 : Int) ≤ q := by omega
        by_cases hlq : q < L.length
        · have i2 : (q : Int) < (L.length : Int) := by omega
          obtain ⟨lb, lo, rfl, _, l0⟩ := (hLat.below hBq).get hlq
          have hNs := @needS_take s P x L q hlq
          have hnl := needS_le s P x (L.take q)
          generalize needS s P x (L.take q) = A at *
          generalize L.getD q 0 = y at *
          have hbe := before_le P y
          have hde := HDl.out y x
          have hSe := fun W h => searchI va P.length vc P y W h HA.out (by have := HPn.out; omega)
          have hDe := fun W h => hDm y x W h
          obtain ⟨B, hBv⟩ : ∃ B, before P y = B := ⟨_, rfl⟩
          obtain ⟨D, hDv⟩ : ∃ D, dem s y x = D := ⟨_, rfl⟩
          rw [hBv] at hNs hbe hSe
          rw [hDv] at hNs hde hDe
          obtain ⟨C, hCv⟩ : ∃ C : Int, C = (max A (D - (P.length - B)) : Nat) := ⟨_, rfl⟩
          have hPn := HPn.out
          have w1' : IntKind.i64.wrap ((P.length : Int) - (B : Int)) = (P.length : Int) - B := IntWalk.i64_in _ (by omega)
          have w2' : IntKind.i64.wrap ((D : Int) - ((P.length : Int) - (B : Int))) = (D : Int) - ((P.length : Int) - B) := IntWalk.i64_in _ (by omega)
          have w3' : max (A : Int) ((D : Int) - ((P.length : Int) - (B : Int))) = C := by rw [hCv]; omega
          have HC := Lib.hid hCv
          have HNs := Lib.hid hNs
          have r0q := ((bcell hBq).1 _ 0 hz5).trans r0
          have r1q := ((bcell hBq).1 _ 1 hz5).trans r1
          clear hCv hBv hDv hNs hPn hbe hde
          go_wp2_with (first
            | (go_at_call 124; (with_reducible refine (hSe _ (hPat.below hBq)).mono ?_); rintro e w6 ⟨rfl, hb6⟩; have r0 := ((bcell hb6).1 _ 0 (Nat.lt_of_lt_of_le hz5 hBq.size)).trans r0q; have r1 := ((bcell hb6).1 _ 1 (Nat.lt_of_lt_of_le hz5 hBq.size)).trans r1q)
            | (go_at_call 76; (with_reducible refine (hDe _ ((hs5.below hBq).below hb6)).mono ?_); rintro e w7 ⟨rfl, hb7⟩))
          go_roundw
          case rel => exact ⟨q + 1, by omega, by go_num, by rw [HNs.out, HC.out], (hBq.ch2 hb6).ch2 hb7⟩
          case measure => simp [RowKit.intOf]; omega
        · have hq2 : q = L.length := by omega
          subst hq2
          rw [List.take_length]
          have hnl := needS_le s P x L
          generalize needS s P x L = A at *
          have HAl : Hid (A ≤ 100) := Lib.hid (by omega)
          have hal := one_alloc wr (Obj.cells #[.int .i64 x] 3)
          have hRp := wrepeat x A wr.heap.size (wr.alloc (Obj.cells #[.int .i64 x] 3)) (by omega) (by simp [go_sem])
          have hRw := hb5.trans (hBq.mono hb5.size)
          have HRw := Lib.hid (hRw.ch2 hal)
          clear hnl hRw
          go_wp2_with (first
            | (go_at_call 123; (with_reducible refine hRp.mono ?_); rintro e w6 ⟨v6, rfl, hb6, ho6⟩; obtain ⟨ra, rc, rfl, hra⟩ := owns_slice ho6; have HO6 := Lib.hid ho6; clear ho6)
            | (at_builtin; refine wpList_app elemI rfl _ _ rfl (HR.out.up (HRw.out.ch2 hb6) (Nat.le_refl _)) rfl rfl (news := (List.replicate A x).map (.int .i64)) (IntsAt.of_owns (xs := List.replicate A x) HO6.out (by have := HAl.out; simp; omega)).row (by simp) (ones_int _) (by have := HPn.out; have := HAl.out; unfold maxLen; omega) (by have := HPn.out; have := HAl.out; omega) (by have := hB.size; have := (HRw.out.ch2 hb6).size; omega) ?_))
          intro v' w8 ho hg8 hb8 _ _
          have HO8 := Lib.hid ho
          clear ho
          have hB8 := hB.trans (((HRw.out.ch2 hb6).mono hB.size).trans hb8)
          go_wp2
          go_roundw
          case rel => exact ⟨k + 1, by omega, by go_num, hB8, by rw [HS.out, List.map_append, List.length_append, List.length_replicate, List.map_replicate]; exact HO8.out⟩
          case measure => simp [RowKit.intOf]; omega
    · have hk2 : k = H.length := by omega
      subst hk2
      obtain ⟨va, vc, rfl, _⟩ := owns_slice hown
      go_wp2_with fail
      rw [← HQ.out]
      exact ⟨_, rfl, hB2.ch2 hB, SL.row_base hown (by have := hB2.size; omega)⟩
theorem edfN_len' (s : List Pn) (pts : List Int) : ∀ k, (edfN s pts k).length = s.length
  | 0 => by simp [edfN]
  | k + 1 => by
    have := edfN_len' s pts k
    unfold edfN updS
    split <;> simp [this]
/-- The parts without a foot up to k have their vessels. -/
def outN (s : List Pn) (F pts : List Int) (k : Nat) : List Int := (List.range s.length).map fun p => if p < k then (if (s.getD p default).ft then F.getD p 0 else (before pts (s.getD p default).lo : Int)) else F.getD p 0
theorem outN_len (s : List Pn) (F pts : List Int) (k : Nat) : (outN s F pts k).length = s.length := by simp [outN]
theorem outN_zero {s : List Pn} {F pts : List Int} (h : F.length = s.length) : outN s F pts 0 = F := by
  apply List.ext_getElem
  · rw [outN_len, h]
  · intro i h1 h2
    simp [outN, List.getD_eq_getElem?_getD, h2]
theorem outN_all {s : List Pn} {pts : List Int} (h : pts = ptsL s) : outN s (edfN s pts pts.length) pts s.length = fewL s := by
  subst h
  unfold outN fewL
  refine List.map_congr_left fun p hp => ?_
  have := List.mem_range.1 hp
  cases hf : (s.getD p default).ft <;> simp [this]
theorem outN_ne {s : List Pn} {F pts : List Int} {k p : Nat} (e : p ≠ k) : (if p < k + 1 then (if (s.getD p default).ft then F.getD p 0 else (before pts (s.getD p default).lo : Int)) else F.getD p 0) = if p < k then (if (s.getD p default).ft then F.getD p 0 else (before pts (s.getD p default).lo : Int)) else F.getD p 0 := by
  by_cases h : p < k
  · rw [if_pos (by omega), if_pos h]
  · rw [if_neg (by omega), if_neg h]
theorem outN_skip {s : List Pn} {F pts : List Int} {k : Nat} (h : (s.getD k default).ft = true) : outN s F pts (k + 1) = outN s F pts k := by
  unfold outN
  refine List.map_congr_left fun p hp => ?_
  by_cases e : p = k
  · subst e; rw [if_pos (show p < p + 1 by omega), if_pos h, if_neg (Nat.lt_irrefl p)]
  · exact outN_ne e
theorem outN_set {s : List Pn} {F pts : List Int} {k : Nat} (hk : k < s.length) (h : (s.getD k default).ft = false) : outN s F pts (k + 1) = (outN s F pts k).set k (before pts (s.getD k default).lo : Int) := by
  apply List.ext_getElem
  · simp [outN]
  · intro i h1 h2
    rw [List.getElem_set]
    by_cases e : k = i
    · subst e
      rw [if_pos rfl]
      simp only [outN, List.getElem_map, List.getElem_range]
      rw [if_pos (by omega), h]
      rfl
    · rw [if_neg e]
      simp only [outN, List.getElem_map, List.getElem_range]
      exact outN_ne (fun h => e h.symm)
theorem map_getD {X : List Int} {q : Nat} (h : q < X.length) : (X.map (Value.int .i64))[q]? = some (.int .i64 (X.getD q 0)) := by
  simp [List.getD_eq_getElem?_getD, h]
theorem wfewest (a : Option Addr) (ca : Nat) (f : Option Addr) (cf n : Nat) (s : List Pn) (w : World) (hs : SpansAt w a ca f cf n s) (hn : s.length ≤ 100) (hok : OkS s) :
    Calls Tryz.prog 88 #[spV a ca f cf n] w (RowPost w 3 1 s.length ((fewL s).map (.int .i64))) := by
  obtain rfl := hs.len
  have hPo := fun W h => wpoints a ca f cf s.length s W h hn hok
  obtain ⟨k1, _, k3, _⟩ := ptsL_ok hok
  have k4 := least_le_len hok
  obtain ⟨Q, hQ⟩ : ∃ Q, RowPost w 3 1 s.length ((fewL s).map (.int .i64)) = Q := ⟨_, rfl⟩
  rw [hQ]
  obtain ⟨P, hP⟩ : ∃ P, ptsL s = P := ⟨_, rfl⟩
  rw [← outN_all hP.symm] at hQ
  rw [hP] at hPo k1 k3
  have hPl : P.length ≤ 100 := by omega
  have HQ := Lib.hid hQ
  have HPa := Lib.hid k1
  have hB1 := one_alloc w (Obj.cells #[.slice a s.length ca, .slice f s.length cf] 83)
  clear hQ hP k1 k3 k4 hok
  unfold spV at *
  go_enter Tryz.func88, Tryz.ntmps88
  go_wp2_with (first
    | (go_at_call 122; (with_reducible refine (hPo _ (hs.below hB1)).mono ?_); rintro e w2 ⟨v1, rfl, hb2, ho2⟩; obtain ⟨pa, pc, rfl, hha⟩ := owns_slice ho2; have hz2 := lt_size hb2 (b := w.heap.size) (by first | assumption | omega | (simp; done) | (simp; omega)); obtain ⟨hc2, hf2⟩ := bcell hb2)
    | (go_at_call 123; (with_reducible refine (wrepeat (-1) s.length w2.heap.size _ (by omega) (by simp [go_sem])).mono ?_); rintro e w4 ⟨v4, rfl, hb4, ho4⟩; obtain ⟨oa, oc, rfl, hoa⟩ := owns_slice ho4))
  have hbo := SL.row_bounds ho4
  obtain ⟨B3, hB3⟩ : ∃ B3, (w2.alloc (Obj.cells #[.int .i64 (-1)] 3)).heap.size = B3 := ⟨_, rfl⟩
  have hz3 : w2.heap.size < B3 := by rw [← hB3]; simp
  have hB2 : Below w.heap.size w w2 := hB1.ch2 hb2
  have hal2 := one_alloc w2 (Obj.cells #[.int .i64 (-1)] 3)
  have hB24 : Below w2.heap.size w2 w4 := hal2.ch2 hb4
  rw [hB3] at ho4 hbo
  have hP4 : IntsAt w4 pa P.length pc P := IntsAt.of_owns (ho2.up hB24 (Nat.le_refl _)) (by omega)
  have hs4 := (hs.below hB2).below hB24
  have p0 : w4.cell? ⟨w.heap.size, 0, none⟩ = some (.slice a s.length ca) := by rw [(bcell hB24).1 _ _ hz2, hc2 _ _ (by simp)]; simp [go_sem]
  have p1 : w4.cell? ⟨w.heap.size, 1, none⟩ = some (.slice f s.length cf) := by rw [(bcell hB24).1 _ _ hz2, hc2 _ _ (by simp)]; simp [go_sem]
  have hz4 : w.heap.size < w4.heap.size := Nat.lt_of_lt_of_le hz2 hB24.size
  have hB4 := hB2.ch2 hB24
  have hpb : ∀ x, pa = some x → x.block < B3 := fun x hx => by have := (hha x hx).2; omega
  obtain ⟨zb, zf⟩ := hs.blocks
  obtain ⟨EE, hEE⟩ : ∃ EE, (Value.slice oa s.length oc).ownBlock.toList = EE := ⟨_, rfl⟩
  rw [hEE] at hbo
  have HEE := Lib.hid hEE
  have Hbo := Lib.hid hbo
  have HBX : Hid (∀ W, SL.Chg EE w4 W → W.cell? ⟨w.heap.size, 0, none⟩ = some (.slice a s.length ca) ∧ W.cell? ⟨w.heap.size, 1, none⟩ = some (.slice f s.length cf) ∧ SpansAt W a ca f cf s.length s ∧ IntsAt W pa P.length pc P) := Lib.hid (fun W hC =>
    ⟨(World.cell?_of_block (hC.block _ hz4 (fun h => by have := (Hbo.out _ h).1; dsimp only at this; omega))).trans p0, (World.cell?_of_block (hC.block _ hz4 (fun h => by have := (Hbo.out _ h).1; dsimp only at this; omega))).trans p1,
      hs4.chg hC (fun x hx h => by have := (Hbo.out _ h).1; have := zb x hx; omega) (fun x hx h => by have := (Hbo.out _ h).1; have := zf x hx; omega), hP4.chg hC (fun x hx h => by have := (Hbo.out _ h).1; have := hpb x hx; omega)⟩)
  have ho0 : w4.ownsRow B3 3 1 (.slice oa s.length oc) s.length ((edfN s P 0).map (.int .i64)) := ho4
  clear hs4 hP4 p0 p1 ho2 ho4 hbo hEE hpb zb zf hb4 hb2 hc2 hf2 hB3 hal2 hha hoa hPo hB24
  go_loopw [21] (fun i wr => ∃ k : Nat, k ≤ P.length ∧ i = .int .i64 k ∧ SL.Chg EE w4 wr ∧ wr.ownsRow B3 3 1 (.slice oa s.length oc) s.length ((edfN s P k).map (.int .i64))) (fun i _ => P.length - (RowKit.intOf i).toNat)
  case atStart => exact ⟨0, Nat.zero_le _, rfl, SL.Chg.refl _ _, ho0⟩
  case round =>
    obtain ⟨k, hk, rfl, hC, ho⟩ := hrel
    clear ho0
    obtain ⟨c0, c1, hsr, hPr⟩ := HBX.out _ hC
    have hnn : (0 : Int) ≤ k := by omega
    by_cases hlt : k < P.length
    · have i1 : (k : Int) < (P.length : Int) := by omega
      obtain ⟨pb, po, rfl, _, d0⟩ := hPr.get hlt
      have HU : Hid (edfN s P (k + 1) = updS s (edfN s P k) (P.getD k 0) k) := Lib.hid rfl
      have hOl := edfN_len' s P k
      generalize edfN s P k = O at *
      generalize P.getD k 0 = x at *
      have HO := Lib.hid ho
      have HOl := Lib.hid hOl
      have HC := Lib.hid hC
      have hzr : w.heap.size < wr.heap.size := Nat.lt_of_lt_of_le hz4 hC.size
      clear ho hC hOl
      go_wp2_with fail
      clear d0 hPr
      go_loopw [7, 29] (fun t i wq => ∃ q : Nat, q ≤ s.length ∧ i = .int .i64 q ∧ t = .int .i64 (pickN s O x q) ∧ Below wr.heap.size wr wq) (fun _ i _ => s.length - (RowKit.intOf i).toNat)
      case atStart => exact ⟨0, Nat.zero_le _, rfl, rfl, Below.refl _ _⟩
      case round =>
        obtain ⟨q, hq, rfl, rfl, hBq⟩ := hrel
        have hnq : (0 : Int) ≤ q := by omega
        by_cases hlq : q < s.length
        · have i2 : (q : Int) < (s.length : Int) := by omega
          obtain ⟨sb, so, fb, fo, ea, ef, sbl, fbl, l0, l1, lf⟩ := (hsr.below hBq).get hlq
          obtain ⟨g, eo, _, gbl, hgc⟩ := owns_some (HO.out.up hBq (Nat.le_refl _)) (by omega)
          subst ea
          subst ef
          subst eo
          have hoq := (HO.out.up hBq (Nat.le_refl _)).cellAt q (by omega)
          have hpk : pickN s O x (q + 1) = if candB s O x q && (decide (pickN s O x q < 0) || decide ((s.getD q default).hi < (s.getD (pickN s O x q).toNat default).hi)) then (q : Int) else pickN s O x q := rfl
          have hcd : candB s O x q = ((s.getD q default).ft && decide (O.getD q 0 < 0) && decide ((s.getD q default).lo ≤ x) && decide (x ≤ (s.getD q default).hi)) := rfl
          have hsp := pickN_spec s O x q
          have hoq' : (O.map (Value.int .i64))[q]? = some (.int .i64 (O.getD q 0)) := by
            have : q < O.length := by rw [HOl.out]; exact hlq
            simp [List.getD_eq_getElem?_getD, this]
          rw [hoq'] at hoq
          generalize hnx : pickN s O x (q + 1) = A' at *
          generalize O.getD q 0 = y at *
          rw [hcd] at hpk
          have hzq := Nat.lt_of_lt_of_le hzr hBq.size
          have r0 := ((bcell hBq).1 _ 0 hzr).trans c0
          have r1 := ((bcell hBq).1 _ 1 hzr).trans c1
          have Hse : Hid (∀ p, p < s.length → wr.cell? ⟨sb, so + p * 2 + 1, none⟩ = some (.int .i64 (s.getD p default).hi)) := Lib.hid (fun p hp => by
            obtain ⟨_, _, _, _, e1, _, _, _, _, h1, _⟩ := (hsr.below hBq).get hp
            simp only [Option.some.injEq, Addr.mk.injEq] at e1
            obtain ⟨rfl, rfl, _⟩ := e1
            exact h1)
          have HNX := Lib.hid hnx
          clear hnx hcd hoq'
          generalize hlo : (s.getD q default).lo = lo at *
          generalize hhi : (s.getD q default).hi = hi at *
          generalize hft : (s.getD q default).ft = bf at *
          generalize hA : pickN s O x q = A at *
          have hAp : A = -1 ∨ ∃ p : Nat, A = p ∧ p < q := by
            rcases hsp with ⟨h, _⟩ | ⟨p, h, hp, _⟩
            · exact .inl h
            · exact .inr ⟨p, h, hp⟩
          have HBA := Lib.hid (hBq.ch2 (one_alloc wr (Obj.cells #[.int .i64 lo, .int .i64 hi] 33)))
          have HPK := Lib.hid hpk
          clear hsp hpk hlo hhi hft hA c0 c1 hsr hs
          cases bf
          · have HN : Hid (A' = A) := Lib.hid (by rw [HPK.out]; simp)
            go_wp2_with fail
            go_quiet (fail)
            go_wp2_with fail
            go_roundw
            case rel => exact ⟨q + 1, by omega, by go_num, by rw [HNX.out, HN.out], belowN (HBA.out)⟩
            case measure => simp [RowKit.intOf]; omega
          by_cases a1 : y < 0
          case neg =>
            have d1 : decide (y < 0) = false := decide_eq_false a1
            have HN : Hid (A' = A) := Lib.hid (by rw [HPK.out, d1]; simp)
            clear a1
            go_wp2_with fail
            go_quiet (fail)
            go_wp2_with fail
            go_roundw
            case rel => exact ⟨q + 1, by omega, by go_num, by rw [HNX.out, HN.out], belowN (HBA.out)⟩
            case measure => simp [RowKit.intOf]; omega
          have d1 : decide (y < 0) = true := decide_eq_true a1
          by_cases a2 : lo ≤ x
          case neg =>
            have d2 : decide (lo ≤ x) = false := decide_eq_false a2
            have HN : Hid (A' = A) := Lib.hid (by rw [HPK.out, d2]; simp)
            clear a1 a2
            go_wp2_with fail
            go_quiet (fail)
            go_wp2_with fail
            go_roundw
            case rel => exact ⟨q + 1, by omega, by go_num, by rw [HNX.out, HN.out], belowN (HBA.out)⟩
            case measure => simp [RowKit.intOf]; omega
          have d2 : decide (lo ≤ x) = true := decide_eq_true a2
          by_cases a3 : x ≤ hi
          case neg =>
            have d3 : decide (x ≤ hi) = false := decide_eq_false a3
            have HN : Hid (A' = A) := Lib.hid (by rw [HPK.out, d3]; simp)
            clear a1 a2 a3
            go_wp2_with fail
            go_quiet (fail)
            go_wp2_with fail
            go_roundw
            case rel => exact ⟨q + 1, by omega, by go_num, by rw [HNX.out, HN.out], belowN (HBA.out)⟩
            case measure => simp [RowKit.intOf]; omega
          have d3 : decide (x ≤ hi) = true := decide_eq_true a3
          rcases hAp with rfl | ⟨p, rfl, hp⟩
          · have HN : Hid (A' = q) := Lib.hid (by rw [HPK.out, d1, d2, d3]; simp)
            clear a1 a2 a3
            go_wp2_with fail
            go_quiet (fail)
            go_wp2_with fail
            go_roundw
            case rel => exact ⟨q + 1, by omega, by go_num, by rw [HNX.out, HN.out], belowN (HBA.out)⟩
            case measure => simp [RowKit.intOf]; omega
          have m1 := Hse.out p (by omega)
          have d5 : decide ((p : Int) < 0) = false := by simp only [decide_eq_false_iff_not]; omega
          have i5 : (p : Int) < (s.length : Int) := by omega
          have i6 : (0 : Int) ≤ (p : Int) := by omega
          by_cases a4 : hi < (s.getD p default).hi
          · have d4 : decide (hi < (s.getD p default).hi) = true := decide_eq_true a4
            have HN : Hid (A' = q) := Lib.hid (by rw [HPK.out, Int.toNat_natCast, d1, d2, d3, d4]; simp)
            generalize (s.getD p default).hi = hip at *
            clear a1 a2 a3 a4
            go_wp2_with fail
            go_quiet (fail)
            go_wp2_with fail
            go_roundw
            case rel => exact ⟨q + 1, by omega, by go_num, by rw [HNX.out, HN.out], belowN (HBA.out)⟩
            case measure => simp [RowKit.intOf]; omega
          · have d4 : decide (hi < (s.getD p default).hi) = false := decide_eq_false a4
            have HN : Hid (A' = p) := Lib.hid (by rw [HPK.out, Int.toNat_natCast, d1, d2, d3, d4, d5]; simp)
            generalize (s.getD p default).hi = hip at *
            clear a1 a2 a3 a4
            go_wp2_with fail
            go_quiet (fail)
            go_wp2_with fail
            go_roundw
            case rel => exact ⟨q + 1, by omega, by go_num, by rw [HNX.out, HN.out], belowN (HBA.out)⟩
            case measure => simp [RowKit.intOf]; omega
        · have hq2 : q = s.length := by omega
          subst hq2
          have hsp := pickN_spec s O x s.length
          have hup : updS s O x k = if 0 ≤ pickN s O x s.length then O.set (pickN s O x s.length).toNat k else O := rfl
          rw [hup] at HU
          generalize hA : pickN s O x s.length = A at *
          have hAp : A = -1 ∨ ∃ p : Nat, A = p ∧ p < s.length := by
            rcases hsp with ⟨h, _⟩ | ⟨p, h, hp, _⟩
            · exact .inl h
            · exact .inr ⟨p, h, hp⟩
          have hO6 := HO.out.up hBq (Nat.le_refl _)
          have HC6 := Lib.hid (HC.out.trans (.of_below hBq))
          clear hsp hup hA c0 c1 hsr hs
          rcases hAp with rfl | ⟨p, rfl, hp⟩
          · have HU2 : Hid (edfN s P (k + 1) = O) := Lib.hid (HU.out.trans (by simp))
            have HO6 := Lib.hid hO6
            clear hO6
            go_wp2_with fail
            go_roundw
            case rel => exact ⟨k + 1, by omega, by go_num, HC6.out, by rw [HU2.out]; exact HO6.out⟩
            case measure => simp [RowKit.intOf]; omega
          · have HU2 : Hid (edfN s P (k + 1) = O.set p k) := Lib.hid (HU.out.trans (by simp))
            obtain ⟨g, eo, _, gbl, hgc⟩ := owns_some hO6 (by omega)
            subst eo
            have hgE : g ∈ EE := by rw [← HEE.out]; simp [Value.ownBlock]
            have kf := hO6.frozenAt p
            have kc := hO6.cellAt p (by omega)
            have kc' : (O.map (Value.int .i64))[p]? = some (.int .i64 (O.getD p 0)) := by
              have : p < O.length := by rw [HOl.out]; exact hp
              simp [List.getD_eq_getElem?_getD, this]
            rw [kc'] at kc
            have HS := Lib.hid (hO6.stored p (.int .i64 k)).1
            have HgE := Lib.hid hgE
            have i5 : (p : Int) < (s.length : Int) := by omega
            have i6 : (0 : Int) ≤ (p : Int) := by omega
            clear hO6 kc' hgE
            go_wp2_with fail
            go_roundw
            case rel => exact ⟨k + 1, by omega, by go_num, HC6.out.trans (.setCell _ HgE.out _), by rw [HU2.out, List.map_set]; exact HS.out⟩
            case measure => simp [RowKit.intOf]; omega
    · have hk2 : k = P.length := by omega
      subst hk2
      have hFl := edfN_len' s P P.length
      have HZ := Lib.hid (outN_zero (pts := P) hFl)
      generalize edfN s P P.length = F at *
      clear hsr
      have HO := Lib.hid ho
      have HC := Lib.hid hC
      clear ho hC
      go_wp2_with fail
      have hsw := (HBX.out _ HC.out).2.2.1
      clear c0 c1 hPr hlt
      go_loopw [85] (fun i wq => ∃ k : Nat, k ≤ s.length ∧ i = .int .i64 k ∧ SL.Chg EE w4 wq ∧ wq.ownsRow B3 3 1 (.slice oa s.length oc) s.length ((outN s F P k).map (.int .i64))) (fun i _ => s.length - (RowKit.intOf i).toNat)
      case atStart => exact ⟨0, Nat.zero_le _, rfl, HC.out, by rw [HZ.out]; exact HO.out⟩
      case round =>
        obtain ⟨q, hq, rfl, hC, ho⟩ := hrel
        have hHC := Lib.hid hC
        have HO7 := Lib.hid ho
        clear ho hC
        have hnq : (0 : Int) ≤ q := by omega
        by_cases hlq : q < s.length
        · have i2 : (q : Int) < (s.length : Int) := by omega
          obtain ⟨c0, c1, hsr, hPr⟩ := HBX.out _ hHC.out
          obtain ⟨sb, so, fb, fo, ea, ef, sbl, fbl, l0, l1, lf⟩ := hsr.get hlq
          obtain ⟨g, eo, _, gbl, hgc⟩ := owns_some HO7.out (by omega)
          subst ea
          subst ef
          subst eo
          have hgE : g ∈ EE := by rw [← HEE.out]; simp [Value.ownBlock]
          have hzr : w.heap.size < wr.heap.size := Nat.lt_of_lt_of_le hz4 hHC.out.size
          have hal := one_alloc wr (Obj.cells #[.int .i64 (s.getD q default).lo, .int .i64 (s.getD q default).hi] 33)
          have HC8 := Lib.hid (hHC.out.trans (.of_below hal))
          have hO8 := HO7.out.up hal (Nat.le_refl _)
          have hol := outN_len s F P q
          have hse := @outN_set s F P q hlq
          have hsk := @outN_skip s F P q
          generalize hX1 : outN s F P (q + 1) = X1 at *
          have HX1 := Lib.hid hX1
          clear hX1
          generalize outN s F P q = X0 at *
          have hSe := fun W h => searchI pa P.length pc P (s.getD q default).lo W h HPa.out (by omega)
          generalize (s.getD q default).lo = lo at *
          generalize (s.getD q default).hi = hi at *
          generalize (s.getD q default).ft = bf at *
          have hPx := hPr.below hal
          clear hsr hPr hs hsw
          cases bf
          · have HX := Lib.hid (hse rfl)
            have hO9 := fun W (h : Below (wr.alloc (Obj.cells #[.int .i64 lo, .int .i64 hi] 33)).heap.size (wr.alloc (Obj.cells #[.int .i64 lo, .int .i64 hi] 33)) W) => hO8.up h (Nat.le_refl _)
            have HO9 := Lib.hid hO9
            have HgE := Lib.hid hgE
            have HXl := Lib.hid hol
            clear hse hsk hO8 hO9 hgE hol
            go_wp2_with (go_at_call 124; (with_reducible refine (hSe _ hPx).mono ?_); rintro e w6 ⟨rfl, hb6⟩; have hO6 := HO9.out _ hb6; have kf := hO6.frozenAt q; have kc : w6.cell? ⟨g, q, none⟩ = some (.int .i64 (X0.getD q 0)) := (hO6.cellAt q (by omega)).trans (map_getD (by rw [HXl.out]; exact hlq)); have HS := Lib.hid (hO6.stored q (.int .i64 (before P lo : Nat))).1; clear hO6)
            go_roundw
            case rel => exact ⟨q + 1, by omega, by go_num, (HC8.out.trans (.of_below hb6)).trans (.setCell _ HgE.out _), by rw [HX1.out, HX.out, List.map_set]; exact HS.out⟩
            case measure => simp [RowKit.intOf]; omega
          · have HX := Lib.hid (hsk rfl)
            have HO8 := Lib.hid hO8
            clear hse hsk hO8 hgE
            go_wp2_with fail
            go_roundw
            case rel => exact ⟨q + 1, by omega, by go_num, HC8.out, by rw [HX1.out, HX.out]; exact HO8.out⟩
            case measure => simp [RowKit.intOf]; omega
        · have hq2 : q = s.length := by omega
          subst hq2
          clear hs hsw
          go_wp2_with fail
          rw [← HQ.out]
          exact ⟨_, rfl, hB4.trans (hHC.out.belowW hB4.size fun k hk => by have := (Hbo.out k hk).1; have := hB2.size; omega), SL.row_base HO7.out (by have := hB2.size; omega)⟩
open Go.Maps
theorem numL_take {v : List Int} {k : Nat} (h : k < v.length) : (numL v).take (k + 1) = (numL v).take k ++ [((firstsL (v.take (k + 1))).idxOf (v.getD k 0) : Int)] := by
  have h1 : k < (numL v).length := by rw [numL_len]; exact h
  have e1 := numL_get h
  rw [List.take_succ_eq_append_getElem h1]
  have e2 : (numL v)[k] = (numL v).getD k 0 := by simp [List.getD_eq_getElem?_getD, h1]
  rw [e2, e1]
  obtain ⟨t, ht⟩ := firstsL_pre (v.take (k + 1)) (v.drop (k + 1))
  rw [List.take_append_drop] at ht
  rw [ht, idxOf_app]
  rw [mem_firstsL, List.take_succ_eq_append_getElem h]
  refine List.mem_append.2 (.inr ?_)
  simp [List.getD_eq_getElem?_getD, h]
theorem firstsL_len : ∀ (v a : List Int), (v.foldl (fun a x => if a.contains x then a else a ++ [x]) a).length ≤ a.length + v.length
  | [], a => by simp
  | x :: v, a => by
    simp only [List.foldl_cons, List.length_cons]
    split
    · have := firstsL_len v a; omega
    · have := firstsL_len v (a ++ [x]); rw [List.length_append] at this; simp only [List.length_cons, List.length_nil] at this; omega
structure NumD (D : DataW Unit) (fs : List Int) : Prop where
  tidy : Tidy D
  size : Maps.size D = fs.length
  at_ : ∀ x ∈ fs, D.atKey (.int .i64 x) (.lit (.int .i64 0)) = .lit (.int .i64 (fs.idxOf x : Nat))
  has : ∀ x, Maps.has D (.int .i64 x) = fs.contains x
theorem NumD.nil : NumD (.map []) [] := ⟨tidy_empty, rfl, by simp, fun x => rfl⟩
theorem NumD.put {D : DataW Unit} {fs : List Int} (h : NumD D fs) {x : Int} (hx : fs.contains x = false) : NumD (D.put (.int .i64 x) (.lit (.int .i64 (fs.length : Nat)))) (fs ++ [x]) := by
  have hk : WideAt.IsKeyLit (.int .i64 x) := trivial
  have hx' : x ∉ fs := by simpa using hx
  refine ⟨h.tidy.put hk _, ?_, fun y hy => ?_, fun y => ?_⟩
  · rw [size_put h.tidy, h.has, hx]; simp [h.size]
  · by_cases e : y = x
    · subst e
      rw [atKey_put_same h.tidy.isMap hk, List.idxOf_append, if_neg hx']
      simp
    · have hm : y ∈ fs := by simpa [e] using hy
      rw [atKey_put_other (fun h => e (by injection h with _ h)), h.at_ y hm, idxOf_app hm]
  · by_cases e : y = x
    · subst e
      rw [has_put_same h.tidy.isMap hk]; simp
    · rw [has_put_other (fun h => e (by injection h with _ h)), h.has]; simp [e]
theorem wpList_lookup_own_intv {H : Type} {P : Program} (w : World) {ops : Array Oper} {rest : List Oper} {o : Oper} {a : Act} {Q : Exit → Act → World → Prop}
    (hg : o.guard = none) (m x : Operand) (t : TypeId) (hop : o.op = Op.lookup t m x false)
    (k e : TypeId) (K : Keyed P k) (ht : P.underlying t = some (.map k e)) (he : P.underlying e = some (.int .i64)) (hz : (zeroValue e).run P w = .ok (.int .i64 0) w) (b n : Nat) (D : DataW H)
    (hm : a.eval m = .map (some b)) (hown : w.ownsMap P k (plainElem P e) b n D) (key : Value) (kl : Lit) (hx : a.eval x = key) (hkey : keyOf P k key = some kl) (c : Int) (hat : D.atKey kl (.lit (.int .i64 0)) = .lit (.int .i64 c))
    (hK : wpList P ops Q rest (a.put o.dst (.int .i64 c)) w) : wpList P ops Q (o :: rest) a w :=
  wpList_lookup_own_int w hg m x t hop k e .i64 K ht he hz b n D hm hown key kl hx hkey fun c' hat' _ => by
    rw [hat] at hat'
    injection hat' with h
    injection h with _ h
    subst h
    exact hK
theorem wnumbered (a : Option Addr) (ca n : Nat) (v : List Int) (w : World) (hv : IntsAt w a n ca v) (hl : v.length ≤ 1000) (hr : ∀ x ∈ v, -1000000000 ≤ x ∧ x ≤ 1000000000) :
    Calls Tryz.prog 89 #[.slice a n ca] w (RowPost w 3 1 v.length ((numL v).map (.int .i64))) := by
  obtain rfl := hv.len
  have hmm := @run_makeMap Tryz.prog
  have hsn := fun k (h : k < v.length) => show firstsL (v.take (k + 1)) = _ from (congrArg firstsL (take_get h)).trans (firstsL_snoc (v.take k) (v.getD k 0))
  have hnt := fun k (h : k < v.length) => numL_take h
  have hfl : ∀ k, (firstsL (v.take k)).length ≤ 1000 := fun k => by
    have h1 : (firstsL (v.take k)).length ≤ [].length + (v.take k).length := firstsL_len (v.take k) []
    rw [List.length_take] at h1
    simp at h1
    omega
  have hmf : ∀ k, k < v.length → v.getD k 0 ∈ firstsL (v.take (k + 1)) := fun k h => mem_firstsL.2 (by rw [take_get h]; simp)
  obtain ⟨Q, hQ⟩ : ∃ Q, RowPost w 3 1 v.length ((numL v).map (.int .i64)) = Q := ⟨_, rfl⟩
  rw [hQ]
  have hta : (numL v).take v.length = numL v := List.take_of_length_le (by rw [numL_len]; omega)
  rw [← hta] at hQ
  have HQ := Lib.hid hQ
  have Hsn := Lib.hid hsn
  have Hnt := Lib.hid hnt
  have Hfl := Lib.hid hfl
  have Hmf := Lib.hid hmf
  have Hr := Lib.hid hr
  clear hQ hsn hnt hfl hta hmf hr
  go_enter Tryz.func89, Tryz.ntmps89
  go_wp2_with fail
  obtain ⟨M, hM⟩ : ∃ M, w.heap.size = M := ⟨_, rfl⟩
  have hown0 : (w.alloc (Obj.map #[] 0)).ownsMap Tryz.prog 3 (plainElem Tryz.prog 3) M 0 (.map [] : DataW Unit) := by rw [← hM]; exact World.ownsMap_made _ _ _ _
  have hB0 := one_alloc w (Obj.map #[] 0)
  have hz0 : M < (w.alloc (Obj.map #[] 0)).heap.size := by simp; omega
  have hv0 := hv.below hB0
  rw [hM]
  generalize w.alloc (Obj.map #[] 0) = w1 at *
  go_loopw [4, 12] (fun t i wr => ∃ k : Nat, k ≤ v.length ∧ i = .int .i64 k ∧ Below w.heap.size w wr ∧ M < wr.heap.size ∧ (∃ c D, c ≤ k ∧ NumD D (firstsL (v.take k)) ∧ wr.ownsMap Tryz.prog 3 (plainElem Tryz.prog 3) M c D) ∧ wr.ownsRow (M + 1) 3 1 t k (((numL v).take k).map (.int .i64))) (fun _ i _ => v.length - (RowKit.intOf i).toNat)
  case atStart => exact ⟨0, Nat.zero_le _, rfl, hB0, hz0, ⟨0, _, Nat.le_refl _, NumD.nil, hown0⟩, World.ownsRow_nil _ _ _ _⟩
  case round =>
    obtain ⟨k, hk, rfl, hB, hzM, ⟨c, D, hck, hND, hown⟩, hrow⟩ := hrel
    clear hown0
    have hnn : (0 : Int) ≤ k := by omega
    by_cases hlt : k < v.length
    · have i1 : (k : Int) < (v.length : Int) := by omega
      obtain ⟨b, o, rfl, _, d0⟩ := (hv.below hB).get hlt
      have hx := Hr.out _ (mem_getD hlt)
      have hs1 := Hsn.out k hlt
      have HN1 := Lib.hid (Hnt.out k hlt)
      have hf1 := Hfl.out k
      have hmf := Hmf.out k hlt
      generalize hf1e : firstsL (v.take (k + 1)) = F1 at *
      have HF1 := Lib.hid hf1e
      clear hf1e
      generalize firstsL (v.take k) = F0 at *
      generalize v.getD k 0 = x at *
      generalize hn1e : (numL v).take (k + 1) = N1 at *
      have HN1e := Lib.hid hn1e
      clear hn1e
      generalize (numL v).take k = N0 at *
      have hkey : keyOf Tryz.prog 3 (.int .i64 x) = some (.int .i64 x) := keyOf_int_mk Tryz.underlying3 (WalkArith.wf_i64 (by omega))
      have Hkey := Lib.hid hkey
      have hhas := hND.has x
      have hrb := SL.row_bounds hrow
      obtain ⟨va, vc, rfl, _⟩ := owns_slice hrow
      have Hrb := Lib.hid hrb
      have HROW := Lib.hid hrow
      clear hkey hx hrow hrb
      cases hcn : F0.contains x
      · rw [hcn] at hhas hs1
        have hF : F1 = F0 ++ [x] := by simpa using hs1
        have hND1 : NumD (D.put (.int .i64 x) (.lit (.int .i64 (F0.length : Nat)))) F1 := by rw [hF]; exact hND.put hcn
        have hat1 := hND1.at_ x hmf
        have HAT1 := Lib.hid hat1
        have HND1 := Lib.hid hND1
        have HSZ := Lib.hid hND.size
        have HWF : Hid ((Lit.int .i64 (F0.length : Nat)).wf = true) := Lib.hid (WalkArith.wf_i64 (by omega))
        have HHAS := Lib.hid hhas
        clear hhas hs1 hcn hF hND hND1 hat1 hmf
        go_wp2_with (first
          | (at_lookup; refine wpList_lookup_own_ok_int _ rfl _ _ 134 rfl 3 3 .i64 keyI Tryz.underlying134 Tryz.underlying3 (zvI _) M c D rfl hown _ _ rfl Hkey.out ?_; intro c1 hat hwc; rw [HHAS.out]; clear hat hwc)
          | (at_len; refine wpList_len_own _ rfl _ 134 rfl 3 3 Tryz.underlying134 _ M c D rfl hown ?_; rw [HSZ.out])
          | (at_mapUpdate; refine wpList_mapUpdate_own _ rfl _ _ _ 134 rfl 3 3 keyI Tryz.underlying134 _ M c D rfl hown (by unfold maxLen; omega) _ _ _ rfl rfl Hkey.out _ [] (plainElem_int Tryz.underlying3 HWF.out) ?_; intro w3 hown3 hg3; have hB3 := hB.grown hg3 hB.size (by simp; omega); have hz3 : M < w3.heap.size := Nat.lt_of_lt_of_le hzM hg3.size; have HROW3 := Lib.hid (SL.row_stab HROW.out fun j hj => hg3.block j (Hrb.out j hj).2 (fun e => by have := (Hrb.out j hj).1; injection e with e; omega)); clear hown)
          | (at_lookup; refine wpList_lookup_own_intv _ rfl _ _ 134 rfl 3 3 keyI Tryz.underlying134 Tryz.underlying3 (zvI _) M (c + 1) _ rfl hown3 _ _ rfl Hkey.out (F1.idxOf x : Nat) HAT1.out ?_)
          | (at_builtin; refine wpList_app elemI rfl _ _ rfl (HROW3.out.up (one_alloc w3 (Obj.cells #[.int .i64 (F1.idxOf x : Nat)] 3)) (Nat.le_refl _)) rfl rfl (RowAt.of_heap (World.alloc_heap_new w3 _)) rfl (ones_int [((F1.idxOf x : Nat) : Int)]) (by unfold maxLen; omega) (by omega) (by simp; omega) ?_)
          )
        intro v' w8 ho8 hg8 hb8 _ _
        have hne : some M ≠ (Value.slice va k vc).ownBlock := fun e => by
          have := (Hrb.out M (by rw [← e]; simp)).1
          omega
        have HM8 := Lib.hid ((hown3.alloc (Obj.cells #[.int .i64 (F1.idxOf x : Nat)] 3)).kept hg8 hne)
        have hal := one_alloc w3 (Obj.cells #[.int .i64 (F1.idxOf x : Nat)] 3)
        have HB8 := Lib.hid ((hB3.ch2 hal).trans (hb8.mono (by omega)))
        have HZ8 : Hid (M < w8.heap.size) := Lib.hid (by have := hal.size; have := hb8.size; omega)
        have HO8 := Lib.hid ho8
        clear ho8 hg8 hb8 hne hal
        go_wp2
        go_roundw
        case rel => exact ⟨k + 1, by omega, by go_num, HB8.out, HZ8.out, ⟨c + 1, _, by omega, by rw [HF1.out]; exact HND1.out, HM8.out⟩, by rw [HN1e.out, HN1.out, List.map_append]; exact HO8.out⟩
        case measure => simp [RowKit.intOf]; omega
      · rw [hcn] at hhas hs1
        have hF : F1 = F0 := by simpa using hs1
        subst hF
        have hat1 := hND.at_ x hmf
        have HAT1 := Lib.hid hat1
        have HND1 := Lib.hid hND
        have HHAS := Lib.hid hhas
        clear hhas hs1 hcn hND hat1 hmf
        go_wp2_with (first
          | (at_lookup; refine wpList_lookup_own_ok_int _ rfl _ _ 134 rfl 3 3 .i64 keyI Tryz.underlying134 Tryz.underlying3 (zvI _) M c D rfl hown _ _ rfl Hkey.out ?_; intro c1 hat hwc; rw [HHAS.out]; clear hat hwc)
          | (at_lookup; refine wpList_lookup_own_intv _ rfl _ _ 134 rfl 3 3 keyI Tryz.underlying134 Tryz.underlying3 (zvI _) M c D rfl hown _ _ rfl Hkey.out (F1.idxOf x : Nat) HAT1.out ?_)
          | (at_builtin; refine wpList_app elemI rfl _ _ rfl (HROW.out.up (one_alloc wr (Obj.cells #[.int .i64 (F1.idxOf x : Nat)] 3)) (Nat.le_refl _)) rfl rfl (RowAt.of_heap (World.alloc_heap_new wr _)) rfl (ones_int [((F1.idxOf x : Nat) : Int)]) (by unfold maxLen; omega) (by omega) (by simp; omega) ?_)
          )
        intro v' w8 ho8 hg8 hb8 _ _
        have hne : some M ≠ (Value.slice va k vc).ownBlock := fun e => by
          have := (Hrb.out M (by rw [← e]; simp)).1
          omega
        have HM8 := Lib.hid ((hown.alloc (Obj.cells #[.int .i64 (F1.idxOf x : Nat)] 3)).kept hg8 hne)
        have hal := one_alloc wr (Obj.cells #[.int .i64 (F1.idxOf x : Nat)] 3)
        have HB8 := Lib.hid ((hB.ch2 hal).trans (hb8.mono (by omega)))
        have HZ8 : Hid (M < w8.heap.size) := Lib.hid (by have := hal.size; have := hb8.size; omega)
        have HO8 := Lib.hid ho8
        clear ho8 hg8 hb8 hne hal
        go_wp2
        go_roundw
        case rel => exact ⟨k + 1, by omega, by go_num, HB8.out, HZ8.out, ⟨c, _, by omega, by rw [HF1.out]; exact HND1.out, HM8.out⟩, by rw [HN1e.out, HN1.out, List.map_append]; exact HO8.out⟩
        case measure => simp [RowKit.intOf]; omega
    · have hk2 : k = v.length := by omega
      subst hk2
      obtain ⟨va, vc, rfl, _⟩ := owns_slice hrow
      go_wp2_with fail
      rw [← HQ.out]
      exact ⟨_, rfl, hB, SL.row_base hrow (by omega)⟩
end Go.Proofs.YtodkbfbbpfghiaaGreat
namespace Go.Proofs.YtodkbfbbpfghiaaGreat
open Go.RowKit Go.Shelf
set_option maxHeartbeats 4000000
set_option maxRecDepth 100000
theorem wNumbers (c : Cs) (w : World) (hc : CsAt w c) :
    Calls Tryz.prog 32 #[c.v] w fun e w' => e = .returned (.tuple #[.int .i64 c.num.1.1, .int .i64 c.num.1.2, .bool c.num.2, .int .i64 c.chk]) ∧ Below w.heap.size w w' := by
  have hC := fun w1 (h : CsAt w1 c) => wlaid0 c w1 h
  have hz := @Cs.chk_zero c
  have hr : c.num = if c.chk = 0 ∧ (leastN c.s : Int) ≤ c.most then (((leastN c.s : Int), c.most), true) else ((0, 0), false) := rfl
  generalize c.num = R at *
  generalize c.chk = E at *
  by_cases h0 : E = 0
  · subst h0
    obtain ⟨hm, hok, hsl⟩ := (hz.1 rfl).many'
    have hO := fun w1 a ca f cf (hs : SpansAt w1 a ca f cf c.ps.length c.s) => wleast a ca f cf _ c.s w1 hs (by omega) hok
    have hMo := fun N w1 a ca f cf (h : TabAt w1 N c a ca f cf) => wmost c N a ca f cf w1 h (by omega)
    simp only [ne_eq, not_true, false_implies, true_and, true_implies] at hC hr
    unfold spV at hO
    clear hz hm hok hsl
    generalize leastN c.s = L at *
    generalize c.most = M at *
    obtain ⟨ware, lim, byr, a, cap, ps⟩ := c
    simp only [Cs.v] at *
    have hB0 := one_alloc w (Obj.cells #[.string ware, .int .i64 lim, .int .i64 byr, .slice a ps.length cap] 24)
    have hbx := hc.below hB0
    by_cases hLM : (L : Int) ≤ M
    · have hd : decide (M < (L : Int)) = false := by simp only [decide_eq_false_iff_not]; omega
      rw [if_pos hLM] at hr
      subst hr
      have HL := Lib.hid hLM
      clear hLM
      go_enter Tryz.func32, Tryz.ntmps32
      go_wp2_with (first
        | (go_at_call 75; (with_reducible refine (hC _ hbx).mono ?_); rintro e w1 ⟨N, a1, ca, f1, cf, rfl, hb1, hN, hT⟩; obtain ⟨t0, t1, t2, t3, t4, t5⟩ := hT.get; have hNl := hT.lt)
        | (go_at_call 80; (with_reducible refine (hO _ _ _ _ _ hT.sp).mono ?_); rintro e w2 ⟨rfl, hb2⟩)
        | (go_at_call 85; (with_reducible refine (hMo _ _ _ _ _ _ (hT.below hb2)).mono ?_); rintro e w3 ⟨rfl, hb3⟩))
      refine bodyPost_ret (v := .tuple #[.int .i64 L, .int .i64 M, .bool true, .int .i64 0]) (by simp [results, Tryz.results32, go_sem, *]) rfl ⟨rfl, ((hB0.ch2 hb1).ch2 hb2).ch2 hb3⟩
    · have hd : decide (M < (L : Int)) = true := by simp only [decide_eq_true_eq]; omega
      rw [if_neg hLM] at hr
      subst hr
      have HL := Lib.hid hLM
      clear hLM
      go_enter Tryz.func32, Tryz.ntmps32
      go_wp2_with (first
        | (go_at_call 75; (with_reducible refine (hC _ hbx).mono ?_); rintro e w1 ⟨N, a1, ca, f1, cf, rfl, hb1, hN, hT⟩; obtain ⟨t0, t1, t2, t3, t4, t5⟩ := hT.get; have hNl := hT.lt)
        | (go_at_call 80; (with_reducible refine (hO _ _ _ _ _ hT.sp).mono ?_); rintro e w2 ⟨rfl, hb2⟩)
        | (go_at_call 85; (with_reducible refine (hMo _ _ _ _ _ _ (hT.below hb2)).mono ?_); rintro e w3 ⟨rfl, hb3⟩))
      refine bodyPost_ret (v := .tuple #[.int .i64 0, .int .i64 0, .bool false, .int .i64 0]) (by simp [results, Tryz.results32, go_sem, *]) rfl ⟨rfl, ((hB0.ch2 hb1).ch2 hb2).ch2 hb3⟩
  · have h2 : (E != 0) = true := by simpa using h0
    rw [if_neg (fun h => h0 h.1)] at hr
    subst hr
    have hC2 := fun w1 h => (hC w1 h).mono fun e w' hh => hh.1 h0
    clear hz h0 hC
    obtain ⟨ware, lim, byr, a, cap, ps⟩ := c
    simp only [Cs.v] at *
    have hB0 := one_alloc w (Obj.cells #[.string ware, .int .i64 lim, .int .i64 byr, .slice a ps.length cap] 24)
    have hbx := hc.below hB0
    go_enter Tryz.func32, Tryz.ntmps32
    go_wp2_with (go_at_call 75; (with_reducible refine (hC2 _ hbx).mono ?_); rintro e w1 ⟨rfl, hb1⟩)
    refine bodyPost_ret (v := .tuple #[.int .i64 0, .int .i64 0, .bool false, .int .i64 E]) (by simp [results, Tryz.results32, go_sem, *]) rfl ⟨rfl, hB0.ch2 hb1⟩
/-- Numbers, whether there are any, and an error. -/
def IntBPost (w : World) (l : List Int) (b : Bool) (E : Int) (e : Ending) (w' : World) : Prop := ∃ a k, e = .returned (.tuple #[.slice a l.length k, .bool b, .int .i64 E]) ∧ Below w.heap.size w w' ∧ IntsAt w' a l.length k l ∧ l.length ≤ k
theorem wassigned1 (c : Cs) (N : Nat) (a : Option Addr) (ca : Nat) (f : Option Addr) (cf : Nat) (al : Option Addr) (m cl : Nat) (l : List Int) (PB : Nat) (w : World) (ht : TabAt w N c a ca f cf)
    (hl : IntsAt w al m cl l) (hroom : l.length ≤ cl) (hin : ∀ x ∈ l, 0 ≤ x ∧ x < c.ps.length) (h1 : w.cell? ⟨PB, 0, none⟩ = some (.pointer (some ⟨N, 0, none⟩))) :
    Calls Tryz.prog 121 #[.slice al m cl, .pointer (some ⟨PB, 0, none⟩)] w fun e w' => e = .returned (.bool (!oneB c.s (natL l))) ∧ Below w.heap.size w w' := by
  have hsl : c.s.length = c.ps.length := pns_len _
  have hO := fun W (hs : SpansAt W a ca f cf c.ps.length c.s) (hl : IntsAt W al m cl l) => wone a ca f cf _ c.s al m cl l W hs hl hroom (by rw [hsl]; exact hin)
  obtain ⟨t0, t1, t2, t3, t4, t5⟩ := ht.get
  have hNl := ht.lt
  have hsp := ht.sp
  generalize oneB c.s (natL l) = B at *
  unfold spV at hO
  clear hin
  go_enter Tryz.func121, Tryz.ntmps121
  go_wp2_with (go_at_call 97; (with_reducible refine (hO _ hsp hl).mono ?_); rintro e w2 ⟨rfl, hb2⟩)
  go_ret
  exact ⟨rfl, hb2⟩
end Go.Proofs.YtodkbfbbpfghiaaGreat
