/-
  The law Critical, walked, and its statement.
-/
import Derived.Test.YtodkbfbbpfghiaaGreatPa29
import Derived.Test.YtodkbfbbpfghiaaGreatPa16
import Derived.Test.YtodkbfbbpfghiaaGreatRows
import Derived.OpenShut
set_option linter.unusedSimpArgs false
set_option linter.unusedVariables false
set_option linter.unnecessarySimpa false
namespace Go.Proofs.YtodkbfbbpfghiaaGreat
open Go.RowKit Go.Shelf Go.Lib
set_option maxHeartbeats 8000000
set_option maxRecDepth 100000
theorem critL_small (c : Cs) : c.critL.length ≤ 1000 := by
  unfold Cs.critL
  split
  · rename_i h
    have := (Cs.chk_zero.1 h).many
    unfold pickL
    rw [List.length_map]
    have h2 := List.length_filter_le (critF c.s) (List.range c.ps.length)
    rw [List.length_range] at h2
    omega
  · simp
theorem law_critical (c : Cs) (w : World) (hc : CsAt w c) (hcr : c.ps.length ≤ c.cap) :
    Calls Tryz.prog 5 #[c.v] w fun e w' => e = .returned (.bool true) ∧ Below w.heap.size w w' := by
  have fSmall := fun W (h : CsAt W c) => lsmall c 12 W h
  have fC := fun W (h : CsAt W c) => wCritical c W h
  have gC := fun W (h : CsAt W c) => r6Critical c W h hcr
  have hLl := critL_small c
  simp only [Cs.v] at fSmall fC gC ⊢
  generalize c.critL = LL at *
  generalize c.chk = E at *
  have e2 : (E == E) = true := by simp
  have HL := Lib.hid hLl
  clear hLl
  have S0 := LS.start w hc
  obtain ⟨y0, y1, y2, y3, yl⟩ := S0.cells
  have S0 := Lib.hid S0
  go_enter Tryz.func5, Tryz.ntmps5
  go_wp2_with (first
    | (go_at_call 27; (with_reducible refine (fSmall _ S0.out.c1).mono ?_); rintro e w1 ⟨b, rfl, hb1, _⟩; have S1 := (S0.out).ch hb1; clear y0 y1 y2 y3 yl; obtain ⟨y0, y1, y2, y3, yl⟩ := S1.cells; have S1 := Lib.hid S1; cases b; clear hb1)
    | (go_at_call 28; (with_reducible refine (fC _ S1.out.c1).mono ?_); rintro e w2 ⟨v2, rfl, hb2, ho2⟩; obtain ⟨va, vk, rfl, _⟩ := owns_slice ho2; have S2 := (S1.out).ch hb2; clear y0 y1 y2 y3 yl; obtain ⟨y0, y1, y2, y3, yl⟩ := S2.cells; have S2 := Lib.hid S2; have XA := Lib.hid (IntsAt.of_owns ho2 (by have := HL.out; omega)); clear ho2; clear hb2)
    | (go_at_call 29; (with_reducible refine (gC _ S2.out.c1).mono ?_); rintro e w3 ⟨v3, rfl, hb3, ho3⟩; obtain ⟨ua, uk, rfl, _⟩ := owns_slice ho3; have S3 := (S2.out).ch hb3; clear y0 y1 y2 y3 yl; obtain ⟨y0, y1, y2, y3, yl⟩ := S3.cells; have S3 := Lib.hid S3; have XA := Lib.hid (XA.out.below hb3); have XB := Lib.hid (IntsAt.of_owns ho3 (by have := HL.out; omega)); clear ho3; clear hb3)
    | (go_at_call 17; (with_reducible refine (ltold _).mono ?_); rintro e w4 ⟨rfl, hb4⟩; have S4 := (S3.out).ch hb4; clear y0 y1 y2 y3 yl; obtain ⟨y0, y1, y2, y3, yl⟩ := S4.cells; have S4 := Lib.hid S4; have XA := Lib.hid (XA.out.below hb4); have XB := Lib.hid (XB.out.below hb4); clear hb4)
    | (go_at_call 30; (with_reducible refine (r6sameInts _ _ _ _ _ _ LL _ XA.out.lat XB.out.lat).mono ?_); rintro e w5 ⟨rfl, hb5⟩; have S5 := (S4.out).ch hb5; clear y0 y1 y2 y3 yl; obtain ⟨y0, y1, y2, y3, yl⟩ := S5.cells; have S5 := Lib.hid S5; have XA := Lib.hid (XA.out.below hb5); have XB := Lib.hid (XB.out.below hb5); clear hb5)
    | (go_at_call 17; (with_reducible refine (ltold _).mono ?_); rintro e wT ⟨rfl, hbT⟩))
  all_goals go_ret
  all_goals first
    | exact ⟨rfl, S5.out.below⟩
    | exact ⟨rfl, S1.out.below.ch2 hbT⟩
end Go.Proofs.YtodkbfbbpfghiaaGreat
namespace Go.Proofs.YtodkbfbbpfghiaaGreat
open Go.ChangeShapes Go.WideShapes Go.ChangeAt Go.RowKit Go.Joins Go.Deep
set_option maxRecDepth 100000 in
theorem wholeCritical_lifted (os : Os) (started : os.Started) (H : Type) (enc : TypeId × Value → H) :
    ReturnsInHanded {} Tryz.checked os 5 .any (Rows.wholeCriticalSpec.pre6 enc Tryz.prog Tryz.f5 Rows.wholeCriticalRow.domain false) (Rows.wholeCriticalSpec.post enc Tryz.prog Tryz.f5 false true false false) := by
  refine returnsInHanded_of_change_sized (C := Tryz.checked) Tryz.own started (by kernel_rfl) Tryz.func5
    (ChangeSpec.witness6 (enc := enc) (C := Tryz.checked) false ⟨#[], #[.agg #[.string ⟨#[]⟩, .int .i64 0, .int .i64 0, .slice none 0 0]], []⟩ 8 (by kernel_rfl) (by kernel_rfl) (by kernel_rfl) (by kernel_rfl)) ?_
  intro W base args ds gs before hval0 hW _ hsz0 _
  have hsz : (DataW.weightsEach Tryz.prog (Tryz.f5.params.toList ++ Rows.wholeCriticalSpec.plain.varTypes Tryz.prog) (ds ++ gs)).all (· ≤ reachBytes) = true := hsz0
  clear hsz0
  have hval : ∀ (j : Nat) t v, Tryz.f5.params[j]? = some t → args[j]? = some v → Value.okWide Tryz.prog W .any base t v := hval0
  have hW' := hW
  obtain ⟨p, q, hA0, hV, rfl, _, _⟩ := hW
  have hA : DataW.TrodAll enc Tryz.prog W 0 (fun _ => true) true Tryz.f5.params.toList args.toList ds p := hA0
  rw [Tryz.params5] at hA hval hsz
  obtain ⟨v0, d0, rfl, rfl, h0⟩ := trodAll_one hA
  obtain ⟨rfl, rfl⟩ := trodVars_none hV
  clear hA0 hval0
  simp only [List.append_nil] at hW'
  have hlt : ∀ x ∈ p, x.block < W.heap.size := fun x hx => by simpa using hW'.lt x hx
  obtain ⟨c0, rfl, hb0, hn0⟩ := case_open (hval 0 24 v0 rfl rfl) h0 (fun n hn => by
    have := List.all_eq_true.1 hsz _ (DataW.weights_mem_each (j := 0) rfl rfl n hn)
    simpa using this)
  refine (law_critical c0 W hb0 hn0).mono fun e W' ⟨he, hw⟩ => ?_
  subst he
  exact ⟨_, rfl, ⟨_, _, _, [], _, [], hW', trodAll_mk1 (shut_bool Tryz.underlying4 _), trodAll_mk1 (Below.trod Tryz.laidOut (by kernel_rfl) (of_decide_eq_true (by kernel_rfl)) h0 hw hlt), rfl, hw.frame _, fun h => by cases h⟩⟩
theorem wholeCritical_holds : Rows.WholeCriticalSaid :=
  OpenClaim.holds_of_wide 5 Tryz.f5 rfl rfl rfl rfl rfl rfl rfl ⟨rfl, rfl, rfl, rfl, rfl⟩ rfl rfl rfl rfl rfl (by kernel_rfl) Tryz.func5 (by kernel_rfl)
    (of_decide_eq_true (by kernel_rfl)) (by unfold Func.isWrapper; rw [if_neg (of_decide_eq_false (by kernel_rfl))]; exact ⟨rfl, rfl⟩)
    (fun os started H enc _ => wholeCritical_lifted os started H enc)
#print axioms wholeCritical_holds
end Go.Proofs.YtodkbfbbpfghiaaGreat
