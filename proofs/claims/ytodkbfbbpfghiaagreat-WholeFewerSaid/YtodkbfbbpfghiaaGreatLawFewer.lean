/-
  The law Fewer, walked, and its statement.
-/
import Derived.Test.YtodkbfbbpfghiaaGreatPb03
import Derived.Test.YtodkbfbbpfghiaaGreatPb07
import Derived.Test.YtodkbfbbpfghiaaGreatPb17
import Derived.Test.YtodkbfbbpfghiaaGreatPb29
import Derived.Test.YtodkbfbbpfghiaaGreatPb14
import Derived.Test.YtodkbfbbpfghiaaGreatRows
import Derived.OpenShut
set_option linter.unusedSimpArgs false
set_option linter.unusedVariables false
set_option linter.unnecessarySimpa false
namespace Go.Proofs.YtodkbfbbpfghiaaGreat
theorem len_erase {s : List Pn} {a : Nat} (ha : a < s.length) : (s.eraseIdx a).length = s.length - 1 := by rw [List.length_eraseIdx]; simp [ha]
theorem clB_erase (s : List Pn) (a i j : Nat) : clB (s.eraseIdx a) i j = clB s (upI a i) (upI a j) := by
  unfold clB
  rw [getD_erase, getD_erase]
  congr 1
  rw [Bool.eq_iff_iff]
  unfold upI
  simp
  split <;> split <;> omega
theorem least_erase_le {s : List Pn} (hs : OkS s) {a : Nat} (ha : a < s.length) : leastN (s.eraseIdx a) ≤ leastN s := by
  have hf := fewL_ok hs
  refine least_le (hs.erase a) (f := fun i => ((fewL s).getD (upI a i) 0).toNat) ⟨fun i hi => hf.lt _ ?_, fun i j hi hj hc => ?_⟩
  · rw [len_erase ha] at hi; unfold upI; split <;> omega
  · rw [len_erase ha] at hi hj
    rw [clB_erase] at hc
    exact hf.cl _ _ (by unfold upI; split <;> omega) (by unfold upI; split <;> omega) hc
theorem least_le_erase {s : List Pn} (hs : OkS s) {a : Nat} (ha : a < s.length) : leastN s ≤ leastN (s.eraseIdx a) + 1 := by
  have hf := fewL_ok (hs.erase a)
  have hl := len_erase ha
  have hup : ∀ i, i ≠ a → upI a (dnI a i) = i := fun i hi => updn hi
  refine least_le hs (f := fun i => if i = a then leastN (s.eraseIdx a) else ((fewL (s.eraseIdx a)).getD (dnI a i) 0).toNat) ⟨fun i hi => ?_, fun i j hi hj hc => ?_⟩
  · split
    · omega
    · have := hf.lt (dnI a i) (by unfold dnI; split <;> omega); omega
  · have hne := clB_ne hc
    by_cases e1 : i = a
    · rw [if_pos e1, if_neg (by omega)]
      have := hf.lt (dnI a j) (by unfold dnI; split <;> omega); omega
    · by_cases e2 : j = a
      · rw [if_neg e1, if_pos e2]
        have := hf.lt (dnI a i) (by unfold dnI; split <;> omega); omega
      · rw [if_neg e1, if_neg e2]
        refine hf.cl _ _ (by unfold dnI; split <;> omega) (by unfold dnI; split <;> omega) ?_
        rw [clB_erase, hup i e1, hup j e2]
        exact hc
theorem least_erase_out {s : List Pn} (hs : OkS s) {a : Nat} (ha : a < s.length) {W : List Nat} (hW : WitOk s W) (hn : a ∉ W) : W.length ≤ leastN (s.eraseIdx a) := by
  have hf := fewL_ok (hs.erase a)
  have hl := len_erase ha
  have hup : ∀ i, i ≠ a → upI a (dnI a i) = i := fun i hi => updn hi
  have hne : ∀ i ∈ W, i ≠ a := fun i hi e => hn (e ▸ hi)
  have := wit_le (W := W.map (dnI a)) (s := s.eraseIdx a) ⟨fun i hi => by
    obtain ⟨j, hj, rfl⟩ := List.mem_map.1 hi
    have := hW.lt j hj
    have := hne j hj
    unfold dnI; split <;> omega, by
    rw [List.pairwise_map]
    refine List.Pairwise.imp_of_mem (fun {i j} hi hj h => ?_) hW.cl
    rw [clB_erase, hup i (hne i hi), hup j (hne j hj)]
    exact h⟩ hf
  simpa using this

end Go.Proofs.YtodkbfbbpfghiaaGreat
namespace Go.Proofs.YtodkbfbbpfghiaaGreat
open Go
/-- Sherds of different parts are different. -/
theorem dis_iff {ps : List Pt} : disB ps = true ↔ ∀ i k, k ≠ i → i < ps.length → k < ps.length → ∀ x ∈ (ps.getD k default).sh, x ∉ (ps.getD i default).sh := by
  rw [disB_iff]
  constructor
  · intro h i k hki hi hk x hx hn
    rcases (by omega : k < i ∨ i < k) with h' | h'
    · exact h i k h' hi x hx hn
    · exact h k i h' hk x hn hx
  · exact fun h i k hki hi x hx => h i k (by omega) hi (by omega) x hx
theorem wo_ok {ware : List UInt8} {lim by_ : Int} {ps : List Pt} (h : CaseOk ware lim by_ ps) (a : Nat) : CaseOk ware lim by_ (ps.eraseIdx a) := by
  refine ⟨?_, h.head, fun p hp => h.each p (List.mem_of_mem_eraseIdx hp), ?_⟩
  · rw [List.length_eraseIdx]; have := h.many; split <;> omega
  · have hd := dis_iff.1 h.dis
    rw [dis_iff]
    intro i k hki hi hk x hx hn
    rw [getD_erasePt] at hx hn
    have hu : ∀ i, i < (ps.eraseIdx a).length → upI a i < ps.length := fun i hi => by
      rw [List.length_eraseIdx] at hi
      unfold upI
      split at hi <;> split <;> omega
    refine hd (upI a i) (upI a k) (fun e => ?_) (hu i hi) (hu k hk) x hx hn
    unfold upI at e
    split at e <;> split at e <;> omega
end Go.Proofs.YtodkbfbbpfghiaaGreat
namespace Go.Proofs.YtodkbfbbpfghiaaGreat
open Go.RowKit Go.Shelf Go.Lib
set_option maxHeartbeats 4000000
set_option maxRecDepth 100000
theorem lsmall (c : Cs) (m : Int) (w : World) (hc : CsAt w c) : Calls Tryz.prog 27 #[c.v, .int .i64 m] w fun e w' => ∃ b, e = .returned (.bool b) ∧ Below w.heap.size w w' ∧ (b = true → (c.ps.length : Int) ≤ m) := by
  have hF := fun W (h : CsAt W c) => lfew c W h
  unfold BoolAny at hF
  have hP := Lib.hid (show ∀ b w', Below w.heap.size w w' → (b = true → (c.ps.length : Int) ≤ m) → (fun (e : Ending) (w' : World) => ∃ b, e = .returned (.bool b) ∧ Below w.heap.size w w' ∧ (b = true → (c.ps.length : Int) ≤ m)) (.returned (.bool b)) w' from fun b w' h h2 => ⟨b, rfl, h, h2⟩)
  obtain ⟨P, hP2⟩ : ∃ P : Ending → World → Prop, P = fun e w' => ∃ b, e = .returned (.bool b) ∧ Below w.heap.size w w' ∧ (b = true → (c.ps.length : Int) ≤ m) := ⟨_, rfl⟩
  rw [← hP2] at hP ⊢
  have HP := Lib.hid hP.out
  clear hP hP2
  obtain ⟨ware, lim, byr, a, cap, ps⟩ := c
  simp only [Cs.v] at *
  have hB0 := one_alloc w (Obj.cells #[.string ware, .int .i64 lim, .int .i64 byr, .slice a ps.length cap] 24)
  go_enter Tryz.func27, Tryz.ntmps27
  go_wp2_with (go_at_call 16; (with_reducible refine (hF _ (hc.below hB0)).mono ?_); rintro e w1 ⟨b, rfl, hb1⟩; obtain ⟨hc1, hf1⟩ := bcell hb1; have hz1 := lt_size hb1 (b := w.heap.size) (by first | assumption | omega | (simp; done) | (simp; omega)); cases b)
  · exact HP.out false _ (hB0.ch2 hb1) (fun h => by cases h)
  · exact HP.out (decide ((ps.length : Int) ≤ m)) _ (hB0.ch2 hb1) (fun h => by simpa using h)
end Go.Proofs.YtodkbfbbpfghiaaGreat
namespace Go.Proofs.YtodkbfbbpfghiaaGreat
open Go.RowKit Go.Shelf Go.Lib
set_option maxHeartbeats 8000000
set_option maxRecDepth 100000
/-- What a part left out changes. -/
theorem fewer_ok {s : List Pn} (hs : OkS s) {a : Nat} (ha : a < s.length) : leastN (s.eraseIdx a) ≤ leastN s ∧ leastN s ≤ leastN (s.eraseIdx a) + 1 ∧ (pickL (critF s) s.length).contains (a : Int) = decide (leastN (s.eraseIdx a) < leastN s) ∧ (leastN (s.eraseIdx a) < leastN s → (witS s).contains (a : Int) = true) := by
  refine ⟨least_erase_le hs ha, least_le_erase hs ha, ?_, fun h => ?_⟩
  · rw [Bool.eq_iff_iff, List.contains_iff_mem, decide_eq_true_eq]
    unfold pickL
    rw [List.mem_map]
    constructor
    · rintro ⟨i, hi, e⟩
      obtain rfl : i = a := by omega
      have := (List.mem_filter.1 hi).2
      unfold critF at this
      simpa using this
    · intro h
      exact ⟨a, List.mem_filter.2 ⟨List.mem_range.2 ha, by unfold critF; simpa using h⟩, rfl⟩
  · rw [List.contains_iff_mem]
    refine Classical.byContradiction fun hn => ?_
    have hw := witB_wit (witS_wit hs)
    have h1 := least_erase_out hs ha hw (fun hm => by
      obtain ⟨y, hy, e⟩ := List.mem_map.1 hm
      have h0 := (witB_iff.1 (witS_wit hs)).1 y hy
      obtain rfl : y = a := by omega
      exact hn hy)
    rw [List.length_map, witS_many hs] at h1
    omega
theorem has_succ {l : List Int} {k : Nat} (hk : k < l.length) (x : Int) : (l.take (k + 1)).contains x = ((l.take k).contains x || l.getD k 0 == x) := by
  rw [List.take_succ_eq_append_getElem hk, List.getD_eq_getElem?_getD, List.getElem?_eq_getElem hk]
  rw [Bool.eq_iff_iff]
  simp only [List.contains_iff_mem, List.mem_append, List.mem_singleton, Bool.or_eq_true, beq_iff_eq, Option.getD_some]
  exact or_congr Iff.rfl ⟨Eq.symm, Eq.symm⟩
theorem law_fewer (c : Cs) (x : Int) (w : World) (hc : CsAt w c) (hcr : c.ps.length ≤ c.cap) :
    Calls Tryz.prog 11 #[c.v, .int .i64 x] w fun e w' => e = .returned (.bool true) ∧ Below w.heap.size w w' := by
  have fSm := fun W (h : CsAt W c) => lsmall c 12 W h
  have fWo := fun W (h : CsAt W c) => wWithout c x W h
  have fL := fun W (h : CsAt W c) => wLeast c W h
  have fL2 := fun (p : Cs) W (h : CsAt W p) => wLeast p W h
  have fX := fun W (h : CsAt W c) => wWitness c W h
  have fC := fun W (h : CsAt W c) => wCritical c W h
  unfold CaseRes at fWo
  unfold IntPost at fX
  simp only [Cs.v] at fSm fWo fL fL2 fX fC ⊢
  have S0 := LS.start w hc
  obtain ⟨y0, y1, y2, y3, yl⟩ := S0.cells
  have S0 := Lib.hid S0
  by_cases h0 : c.ask [x] = 0
  · obtain ⟨hk, hxs⟩ := Cs.ask_zero h0
    have hx0 := hxs x (by simp)
    obtain ⟨X, rfl⟩ : ∃ X : Nat, x = X := ⟨x.toNat, by omega⟩
    obtain ⟨hmm, hok, hsl⟩ := hk.many'
    have hX : X < c.s.length := by omega
    have h2 := Cs.chk_zero.2 hk
    have hle := least_le_len hok
    obtain ⟨q1, q2, q3, q4⟩ := fewer_ok hok hX
    have hA : ∀ (p : Cs), SameC p (resC (c.ask [(X : Int)]) (c.wo (X : Int).toNat)) → p.leastI = (leastN (c.s.eraseIdx X) : Int) ∧ p.chk = 0 := fun p hp => by
      rw [h0] at hp
      unfold resC at hp
      rw [if_pos rfl, Int.toNat_natCast] at hp
      have g1 : p.chk = 0 := by rw [hp.chk]; exact Cs.chk_zero.2 (wo_ok hk X)
      refine ⟨?_, g1⟩
      unfold Cs.leastI
      rw [if_pos g1, hp.s]
      show ((leastN (pns (c.ps.eraseIdx X)) : Nat) : Int) = _
      rw [pns_erase]
      rfl
    have hli : c.leastI = (leastN c.s : Int) := by unfold Cs.leastI; rw [if_pos h2]
    have hW : c.witO = witS c.s := by unfold Cs.witO; rw [if_pos h2]
    have hCL : c.critL = pickL (critF c.s) c.s.length := by unfold Cs.critL; rw [if_pos h2, hsl]
    have hCl : (pickL (critF c.s) c.s.length).length ≤ 1000 := by
      unfold pickL
      rw [List.length_map]
      have := List.length_filter_le (critF c.s) (List.range c.s.length)
      rw [List.length_range] at this
      omega
    have hWl : (witS c.s).length ≤ 1000 := by have := witS_many hok; omega
    have hN : leastN c.s ≤ 40 := by omega
    rw [hli, h2] at fL
    rw [hW, h2] at fX
    rw [hCL, h2] at fC
    rw [h0] at fWo hA
    have HA := Lib.hid hA
    have HCl := Lib.hid hCl
    clear hA hCl hW hCL hli hle h2 hsl hok hmm hk hxs hx0 h0 hX
    generalize leastN (c.s.eraseIdx X) = M at *
    generalize leastN c.s = N at *
    generalize witS c.s = WX at *
    generalize pickL (critF c.s) c.s.length = CL at *
    generalize resC 0 (c.wo (X : Int).toNat) = RC at *
    have HWl := Lib.hid hWl
    have HN := Lib.hid hN
    clear hWl hN
    by_cases hMN : M < N
    · have hNM : N = M + 1 := by omega
      have hIB := q4 hMN
      have hCB := q3.trans (decide_eq_true hMN)
      have e1 : ((M : Int) != (N : Int)) = true := by simp; omega
      have hw : IntKind.i64.wrap ((N : Int) - 1) = (M : Int) := by rw [IntWalk.i64_in _ (by have := HN.out; omega)]; omega
      have e2 : ((M : Int) != (M : Int)) = false := by simp
      have d1 : decide ((M : Int) < (N : Int)) = true := by simp; omega
      have d3 : decide (M < N) = true := by simp; omega
      clear hNM
      have d2 : (true == true) = true := rfl
      clear q1 q2 q3 q4 hMN
      go_enter Tryz.func11, Tryz.ntmps11
      go_wp2_with (first
        | (go_at_call 27; (with_reducible refine (fSm _ S0.out.c1).mono ?_); rintro e w1 ⟨b, rfl, hb1, _⟩; have S1 := (S0.out).ch hb1; clear y0 y1 y2 y3 yl; obtain ⟨y0, y1, y2, y3, yl⟩ := S1.cells; have S1 := Lib.hid S1; cases b; clear hb1)
        | (go_at_call 46; (with_reducible refine (fWo _ S1.out.c1).mono ?_); rintro e w2 ⟨p, hp, rfl, hb2, hpc⟩; have S2 := (S1.out).ch hb2; clear y0 y1 y2 y3 yl; obtain ⟨y0, y1, y2, y3, yl⟩ := S2.cells; have S2 := Lib.hid S2; have XP := Lib.hid (hpc); clear hpc; clear hb2)
        | (go_at_call 31; (with_reducible refine (fL _ (S2.out.al _).c1).mono ?_); rintro e w3 ⟨rfl, hb3⟩; have S3 := ((S2.out.al _)).ch hb3; clear y0 y1 y2 y3 yl; obtain ⟨y0, y1, y2, y3, yl⟩ := S3.cells; have S3 := Lib.hid S3; have XP := Lib.hid ((XP.out.below (one_alloc _ _)).below hb3); have ZP := Lib.hid ((HB.new w2 #[.string p.ware, .int .i64 p.lim, .int .i64 p.byr, .slice p.a p.ps.length p.cap] 24).below hb3); obtain ⟨p0, p1, p2, p3, pf, pl⟩ := cell4w ZP.out; have HP3 := Lib.hid (HA.out p hp); clear hb3)
        | (go_at_call 31; (with_reducible refine (fL2 p _ XP.out).mono ?_); rintro e w4 ⟨rfl, hb4⟩; rw [HP3.out.1, HP3.out.2]; have S4 := (S3.out).ch hb4; clear y0 y1 y2 y3 yl; obtain ⟨y0, y1, y2, y3, yl⟩ := S4.cells; have S4 := Lib.hid S4; have XP := Lib.hid (XP.out.below hb4); have ZP := Lib.hid (ZP.out.below hb4); clear hb4)
        | (go_at_call 43; (with_reducible refine (fX _ S4.out.c1).mono ?_); rintro e w5 ⟨xa, xk, rfl, hb5, hx, _⟩; have S5 := (S4.out).ch hb5; clear y0 y1 y2 y3 yl; obtain ⟨y0, y1, y2, y3, yl⟩ := S5.cells; have S5 := Lib.hid S5; have XP := Lib.hid (XP.out.below hb5); have ZP := Lib.hid (ZP.out.below hb5); have XX := Lib.hid (hx); clear hx; clear hb5)
        | (go_at_call 28; (with_reducible refine (fC _ S5.out.c1).mono ?_); rintro e w6 ⟨v6, rfl, hb6, ho⟩; obtain ⟨ca, ck, rfl, _⟩ := owns_slice ho; have S6 := (S5.out).ch hb6; clear y0 y1 y2 y3 yl; obtain ⟨y0, y1, y2, y3, yl⟩ := S6.cells; have S6 := Lib.hid S6; have XP := Lib.hid (XP.out.below hb6); have ZP := Lib.hid (ZP.out.below hb6); have XX := Lib.hid (XX.out.below hb6); have XC := Lib.hid (IntsAt.of_owns ho (by have := HCl.out; omega)); clear ho; clear hb6)
        | (go_at_call 17; (with_reducible refine (ltold _).mono ?_); rintro e wT ⟨rfl, hbT⟩))
      · go_ret
        exact ⟨rfl, S1.out.below.ch2 hbT⟩
      have HIB := Lib.hid hIB
      have HCB := Lib.hid hCB
      have z1 := HWl.out
      have z2 := HCl.out
      clear hIB hCB
      go_loop [15, 16] (fun b i => ∃ k : Nat, k ≤ WX.length ∧ b = .bool ((WX.take k).contains (X : Int)) ∧ i = .int .i64 k) (fun _ i => WX.length - (RowKit.intOf i).toNat)
      case atStart => exact ⟨0, Nat.zero_le _, rfl, rfl⟩
      case round =>
        obtain ⟨k, hk', rfl, rfl⟩ := hrel
        have hnn : (0 : Int) ≤ k := by omega
        by_cases hlt : k < WX.length
        · have i1 : (k : Int) < (WX.length : Int) := by omega
          obtain ⟨b, o, rfl, hbl, d0⟩ := XX.out.get hlt
          have HS := Lib.hid (has_succ hlt (X : Int))
          obtain ⟨z, hz⟩ : ∃ z, WX.getD k 0 = z := ⟨_, rfl⟩
          obtain ⟨B, hB⟩ : ∃ B, (WX.take k).contains (X : Int) = B := ⟨_, rfl⟩
          rw [hz] at d0
          have Hz := Lib.hid hz
          have HB' := Lib.hid hB
          rw [hB]
          clear hz hB
          cases B
          · go_wp2_with fail
            go_round
            case rel => exact ⟨k + 1, by omega, by rw [HS.out, HB'.out, Hz.out]; rfl, by go_num⟩
            case measure => simp [RowKit.intOf]; omega
          · go_wp2_with fail
            go_round
            case rel => exact ⟨k + 1, by omega, by rw [HS.out, HB'.out]; rfl, by go_num⟩
            case measure => simp [RowKit.intOf]; omega
        · have hk2 : k = WX.length := by omega
          subst hk2
          rw [List.take_length, HIB.out]
          go_wp2_with fail
          go_loop [17, 18] (fun b i => ∃ k : Nat, k ≤ CL.length ∧ b = .bool ((CL.take k).contains (X : Int)) ∧ i = .int .i64 k) (fun _ i => CL.length - (RowKit.intOf i).toNat)
          case atStart => exact ⟨0, Nat.zero_le _, rfl, rfl⟩
          case round =>
            obtain ⟨k, hk', rfl, rfl⟩ := hrel
            have hnn : (0 : Int) ≤ k := by omega
            by_cases hlt : k < CL.length
            · have i1 : (k : Int) < (CL.length : Int) := by omega
              obtain ⟨b, o, rfl, hbl, d0⟩ := XC.out.get hlt
              have HS := Lib.hid (has_succ hlt (X : Int))
              obtain ⟨z, hz⟩ : ∃ z, CL.getD k 0 = z := ⟨_, rfl⟩
              obtain ⟨B, hB⟩ : ∃ B, (CL.take k).contains (X : Int) = B := ⟨_, rfl⟩
              rw [hz] at d0
              have Hz := Lib.hid hz
              have HB' := Lib.hid hB
              rw [hB]
              clear hz hB
              cases B
              · go_wp2_with fail
                go_round
                case rel => exact ⟨k + 1, by omega, by rw [HS.out, HB'.out, Hz.out]; rfl, by go_num⟩
                case measure => simp [RowKit.intOf]; omega
              · go_wp2_with fail
                go_round
                case rel => exact ⟨k + 1, by omega, by rw [HS.out, HB'.out]; rfl, by go_num⟩
                case measure => simp [RowKit.intOf]; omega
            · have hk2 : k = CL.length := by omega
              subst hk2
              rw [List.take_length, HCB.out]
              go_wp2_with (go_at_call 17; (with_reducible refine (ltold _).mono ?_); rintro e wT ⟨rfl, hbT⟩)
              go_ret
              exact ⟨rfl, S6.out.below.ch2 hbT⟩
    · obtain rfl : M = N := by omega
      have hCB := q3.trans (decide_eq_false hMN)
      have e2 : ((M : Int) != (M : Int)) = false := by simp
      have e3 : ((M : Int) == (M : Int)) = true := by simp
      clear q1 q2 q3 q4 hMN
      cases hIB : WX.contains (X : Int)
      all_goals
        go_enter Tryz.func11, Tryz.ntmps11
        go_wp2_with (first
          | (go_at_call 27; (with_reducible refine (fSm _ S0.out.c1).mono ?_); rintro e w1 ⟨b, rfl, hb1, _⟩; have S1 := (S0.out).ch hb1; clear y0 y1 y2 y3 yl; obtain ⟨y0, y1, y2, y3, yl⟩ := S1.cells; have S1 := Lib.hid S1; cases b; clear hb1)
          | (go_at_call 46; (with_reducible refine (fWo _ S1.out.c1).mono ?_); rintro e w2 ⟨p, hp, rfl, hb2, hpc⟩; have S2 := (S1.out).ch hb2; clear y0 y1 y2 y3 yl; obtain ⟨y0, y1, y2, y3, yl⟩ := S2.cells; have S2 := Lib.hid S2; have XP := Lib.hid (hpc); clear hpc; clear hb2)
          | (go_at_call 31; (with_reducible refine (fL _ (S2.out.al _).c1).mono ?_); rintro e w3 ⟨rfl, hb3⟩; have S3 := ((S2.out.al _)).ch hb3; clear y0 y1 y2 y3 yl; obtain ⟨y0, y1, y2, y3, yl⟩ := S3.cells; have S3 := Lib.hid S3; have XP := Lib.hid ((XP.out.below (one_alloc _ _)).below hb3); have ZP := Lib.hid ((HB.new w2 #[.string p.ware, .int .i64 p.lim, .int .i64 p.byr, .slice p.a p.ps.length p.cap] 24).below hb3); obtain ⟨p0, p1, p2, p3, pf, pl⟩ := cell4w ZP.out; have HP3 := Lib.hid (HA.out p hp); clear hb3)
          | (go_at_call 31; (with_reducible refine (fL2 p _ XP.out).mono ?_); rintro e w4 ⟨rfl, hb4⟩; rw [HP3.out.1, HP3.out.2]; have S4 := (S3.out).ch hb4; clear y0 y1 y2 y3 yl; obtain ⟨y0, y1, y2, y3, yl⟩ := S4.cells; have S4 := Lib.hid S4; have XP := Lib.hid (XP.out.below hb4); have ZP := Lib.hid (ZP.out.below hb4); clear hb4)
          | (go_at_call 43; (with_reducible refine (fX _ S4.out.c1).mono ?_); rintro e w5 ⟨xa, xk, rfl, hb5, hx, _⟩; have S5 := (S4.out).ch hb5; clear y0 y1 y2 y3 yl; obtain ⟨y0, y1, y2, y3, yl⟩ := S5.cells; have S5 := Lib.hid S5; have XP := Lib.hid (XP.out.below hb5); have ZP := Lib.hid (ZP.out.below hb5); have XX := Lib.hid (hx); clear hx; clear hb5)
          | (go_at_call 28; (with_reducible refine (fC _ S5.out.c1).mono ?_); rintro e w6 ⟨v6, rfl, hb6, ho⟩; obtain ⟨ca, ck, rfl, _⟩ := owns_slice ho; have S6 := (S5.out).ch hb6; clear y0 y1 y2 y3 yl; obtain ⟨y0, y1, y2, y3, yl⟩ := S6.cells; have S6 := Lib.hid S6; have XP := Lib.hid (XP.out.below hb6); have ZP := Lib.hid (ZP.out.below hb6); have XX := Lib.hid (XX.out.below hb6); have XC := Lib.hid (IntsAt.of_owns ho (by have := HCl.out; omega)); clear ho; clear hb6)
          | (go_at_call 17; (with_reducible refine (ltold _).mono ?_); rintro e wT ⟨rfl, hbT⟩))
        · go_ret
          exact ⟨rfl, S1.out.below.ch2 hbT⟩
        have HIB := Lib.hid hIB
        have HCB := Lib.hid hCB
        have z1 := HWl.out
        have z2 := HCl.out
        clear hIB hCB
        go_loop [15, 16] (fun b i => ∃ k : Nat, k ≤ WX.length ∧ b = .bool ((WX.take k).contains (X : Int)) ∧ i = .int .i64 k) (fun _ i => WX.length - (RowKit.intOf i).toNat)
        case atStart => exact ⟨0, Nat.zero_le _, rfl, rfl⟩
        case round =>
          obtain ⟨k, hk', rfl, rfl⟩ := hrel
          have hnn : (0 : Int) ≤ k := by omega
          by_cases hlt : k < WX.length
          · have i1 : (k : Int) < (WX.length : Int) := by omega
            obtain ⟨b, o, rfl, hbl, d0⟩ := XX.out.get hlt
            have HS := Lib.hid (has_succ hlt (X : Int))
            obtain ⟨z, hz⟩ : ∃ z, WX.getD k 0 = z := ⟨_, rfl⟩
            obtain ⟨B, hB⟩ : ∃ B, (WX.take k).contains (X : Int) = B := ⟨_, rfl⟩
            rw [hz] at d0
            have Hz := Lib.hid hz
            have HB' := Lib.hid hB
            rw [hB]
            clear hz hB
            cases B
            · go_wp2_with fail
              go_round
              case rel => exact ⟨k + 1, by omega, by rw [HS.out, HB'.out, Hz.out]; rfl, by go_num⟩
              case measure => simp [RowKit.intOf]; omega
            · go_wp2_with fail
              go_round
              case rel => exact ⟨k + 1, by omega, by rw [HS.out, HB'.out]; rfl, by go_num⟩
              case measure => simp [RowKit.intOf]; omega
          · have hk2 : k = WX.length := by omega
            subst hk2
            rw [List.take_length, HIB.out]
            go_wp2_with fail
            go_loop [17, 18] (fun b i => ∃ k : Nat, k ≤ CL.length ∧ b = .bool ((CL.take k).contains (X : Int)) ∧ i = .int .i64 k) (fun _ i => CL.length - (RowKit.intOf i).toNat)
            case atStart => exact ⟨0, Nat.zero_le _, rfl, rfl⟩
            case round =>
              obtain ⟨k, hk', rfl, rfl⟩ := hrel
              have hnn : (0 : Int) ≤ k := by omega
              by_cases hlt : k < CL.length
              · have i1 : (k : Int) < (CL.length : Int) := by omega
                obtain ⟨b, o, rfl, hbl, d0⟩ := XC.out.get hlt
                have HS := Lib.hid (has_succ hlt (X : Int))
                obtain ⟨z, hz⟩ : ∃ z, CL.getD k 0 = z := ⟨_, rfl⟩
                obtain ⟨B, hB⟩ : ∃ B, (CL.take k).contains (X : Int) = B := ⟨_, rfl⟩
                rw [hz] at d0
                have Hz := Lib.hid hz
                have HB' := Lib.hid hB
                rw [hB]
                clear hz hB
                cases B
                · go_wp2_with fail
                  go_round
                  case rel => exact ⟨k + 1, by omega, by rw [HS.out, HB'.out, Hz.out]; rfl, by go_num⟩
                  case measure => simp [RowKit.intOf]; omega
                · go_wp2_with fail
                  go_round
                  case rel => exact ⟨k + 1, by omega, by rw [HS.out, HB'.out]; rfl, by go_num⟩
                  case measure => simp [RowKit.intOf]; omega
              · have hk2 : k = CL.length := by omega
                subst hk2
                rw [List.take_length, HCB.out]
                go_wp2_with (go_at_call 17; (with_reducible refine (ltold _).mono ?_); rintro e wT ⟨rfl, hbT⟩)
                go_ret
                exact ⟨rfl, S6.out.below.ch2 hbT⟩
  · have b0 : (c.ask [x] == 0) = false := by simpa using h0
    clear fL2 fX fC h0
    generalize resC (c.ask [x]) (c.wo x.toNat) = RC at *
    generalize c.ask [x] = E2 at *
    generalize c.leastI = LI at *
    generalize c.chk = E at *
    go_enter Tryz.func11, Tryz.ntmps11
    go_wp2_with (first
      | (go_at_call 27; (with_reducible refine (fSm _ S0.out.c1).mono ?_); rintro e w1 ⟨b, rfl, hb1, _⟩; have S1 := (S0.out).ch hb1; clear y0 y1 y2 y3 yl; obtain ⟨y0, y1, y2, y3, yl⟩ := S1.cells; have S1 := Lib.hid S1; cases b; clear hb1)
      | (go_at_call 46; (with_reducible refine (fWo _ S1.out.c1).mono ?_); rintro e w2 ⟨p, hp, rfl, hb2, hpc⟩; have S2 := (S1.out).ch hb2; clear y0 y1 y2 y3 yl; obtain ⟨y0, y1, y2, y3, yl⟩ := S2.cells; have S2 := Lib.hid S2; have XP := Lib.hid (hpc); clear hpc; clear hb2)
      | (go_at_call 31; (with_reducible refine (fL _ (S2.out.al _).c1).mono ?_); rintro e w3 ⟨rfl, hb3⟩; have S3 := ((S2.out.al _)).ch hb3; clear y0 y1 y2 y3 yl; obtain ⟨y0, y1, y2, y3, yl⟩ := S3.cells; have S3 := Lib.hid S3; have XP := Lib.hid ((XP.out.below (one_alloc _ _)).below hb3); have ZP := Lib.hid ((HB.new w2 #[.string p.ware, .int .i64 p.lim, .int .i64 p.byr, .slice p.a p.ps.length p.cap] 24).below hb3); obtain ⟨p0, p1, p2, p3, pf, pl⟩ := cell4w ZP.out; clear hb3)
      | (go_at_call 17; (with_reducible refine (ltold _).mono ?_); rintro e w4 ⟨rfl, hb4⟩; have S4 := (S3.out).ch hb4; clear y0 y1 y2 y3 yl; obtain ⟨y0, y1, y2, y3, yl⟩ := S4.cells; have S4 := Lib.hid S4; have XP := Lib.hid (XP.out.below hb4); have ZP := Lib.hid (ZP.out.below hb4); clear hb4)
      | (go_at_call 17; (with_reducible refine (ltold _).mono ?_); rintro e wT ⟨rfl, hbT⟩))
    all_goals go_ret
    all_goals first
      | exact ⟨rfl, S4.out.below⟩
      | exact ⟨rfl, S1.out.below.ch2 hbT⟩
end Go.Proofs.YtodkbfbbpfghiaaGreat
namespace Go.Proofs.YtodkbfbbpfghiaaGreat
open Go.ChangeShapes Go.WideShapes Go.ChangeAt Go.RowKit Go.Joins Go.Deep
set_option maxRecDepth 100000 in
theorem wholeFewer_lifted (os : Os) (started : os.Started) (H : Type) (enc : TypeId × Value → H) :
    ReturnsInHanded {} Tryz.checked os 11 .any (Rows.wholeFewerSpec.pre6 enc Tryz.prog Tryz.f11 Rows.wholeFewerRow.domain false) (Rows.wholeFewerSpec.post enc Tryz.prog Tryz.f11 false true false false) := by
  refine returnsInHanded_of_change_sized (C := Tryz.checked) Tryz.own started (by kernel_rfl) Tryz.func11
    (ChangeSpec.witness6 (enc := enc) (C := Tryz.checked) false ⟨#[], #[.agg #[.string ⟨#[]⟩, .int .i64 0, .int .i64 0, .slice none 0 0], .int .i64 0], []⟩ 8 (by kernel_rfl) (by kernel_rfl) (by kernel_rfl) (by kernel_rfl)) ?_
  intro W base args ds gs before hval0 hW _ hsz0 _
  have hsz : (DataW.weightsEach Tryz.prog (Tryz.f11.params.toList ++ Rows.wholeFewerSpec.plain.varTypes Tryz.prog) (ds ++ gs)).all (· ≤ reachBytes) = true := hsz0
  clear hsz0
  have hval : ∀ (j : Nat) t v, Tryz.f11.params[j]? = some t → args[j]? = some v → Value.okWide Tryz.prog W .any base t v := hval0
  have hW' := hW
  obtain ⟨p, q, hA0, hV, rfl, _, _⟩ := hW
  have hA : DataW.TrodAll enc Tryz.prog W 0 (fun _ => true) true Tryz.f11.params.toList args.toList ds p := hA0
  rw [Tryz.params11] at hA hval hsz
  obtain ⟨v0, vs0, d0, ds0, p0, q0, hargs, rfl, rfl, h0, r0⟩ := trodAll_cons hA
  obtain ⟨v1, vs1, d1, ds1, p1, q1, rfl, rfl, rfl, h1, r1⟩ := trodAll_cons r0
  obtain ⟨rfl, rfl, rfl⟩ := trodAll_nil r1
  obtain rfl : args = #[v0, v1] := by cases args; simp_all
  obtain ⟨rfl, rfl⟩ := trodVars_none hV
  clear hA0 hval0
  have hlt : ∀ x ∈ p0 ++ p1, x.block < W.heap.size := fun x hx => by have := hW'.lt x (by simpa using hx); simpa using this
  obtain ⟨c0, rfl, hb0, hn0⟩ := case_open (hval 0 24 v0 rfl rfl) h0 (fun n hn => by
    have := List.all_eq_true.1 hsz _ (DataW.weights_mem_each (j := 0) rfl rfl n hn)
    simpa using this)
  obtain ⟨x1, rfl⟩ := okWide_int Tryz.underlying3 (hval 1 3 v1 rfl rfl)
  refine (law_fewer c0 x1 W hb0 hn0).mono fun e W' ⟨he, hw⟩ => ?_
  subst he
  exact ⟨_, rfl, ⟨_, _, _, [], _, [], hW', trodAll_mk1 (shut_bool Tryz.underlying4 _), (trodAll_cons_mk (Below.trod Tryz.laidOut (by kernel_rfl) (of_decide_eq_true (by kernel_rfl)) h0 hw (fun x hx => hlt x (by simp [hx]))) (trodAll_cons_mk (Below.trod Tryz.laidOut (by kernel_rfl) (of_decide_eq_true (by kernel_rfl)) h1 hw (fun x hx => hlt x (by simp [hx]))) trodAll_mk0)), rfl, hw.frame _, fun h => by cases h⟩⟩
theorem wholeFewer_holds : Rows.WholeFewerSaid :=
  OpenClaim.holds_of_wide 11 Tryz.f11 rfl rfl rfl rfl rfl rfl rfl ⟨rfl, rfl, rfl, rfl, rfl⟩ rfl rfl rfl rfl rfl (by kernel_rfl) Tryz.func11 (by kernel_rfl)
    (of_decide_eq_true (by kernel_rfl)) (by unfold Func.isWrapper; rw [if_neg (of_decide_eq_false (by kernel_rfl))]; exact ⟨rfl, rfl⟩)
    (fun os started H enc _ => wholeFewer_lifted os started H enc)
#print axioms wholeFewer_holds
end Go.Proofs.YtodkbfbbpfghiaaGreat
