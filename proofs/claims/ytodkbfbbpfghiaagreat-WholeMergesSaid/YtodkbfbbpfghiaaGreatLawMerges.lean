/-
  The law Merges, walked, and its statement.
-/
import Derived.Test.YtodkbfbbpfghiaaGreatPa29
import Derived.Test.YtodkbfbbpfghiaaGreatPa16
import Derived.Test.YtodkbfbbpfghiaaGreatRows
import Derived.OpenShut
set_option linter.unusedSimpArgs false
set_option linter.unusedVariables false
set_option linter.unnecessarySimpa false
namespace Go.Proofs.YtodkbfbbpfghiaaGreat
open Go.RowKit Go.Shelf Go.Lib
set_option maxHeartbeats 8000000
set_option maxRecDepth 100000
theorem law_merges (c : Cs) (x y : Int) (w : World) (hc : CsAt w c) (hcr : c.ps.length ≤ c.cap) :
    Calls Tryz.prog 3 #[c.v, .int .i64 x, .int .i64 y] w fun e w' => e = .returned (.bool true) ∧ Below w.heap.size w w' := by
  have fFew := fun W (h : CsAt W c) => lfew c W h
  unfold BoolAny at fFew
  have fM := fun W (h : CsAt W c) => wMerge c x y W h
  have gM := fun W (h : CsAt W c) => r6Merge2 c x y W h
  have fSame := fun (p q : Cs) W hs (h : CsAt W p) (h2 : CsAt W q) => r6sameCase p q W hs h h2
  unfold CaseRes at fM gM
  simp only [Cs.v] at fFew fM gM fSame ⊢
  generalize resC (c.mrgE x y) (c.mrg x.toNat y.toNat) = RC at *
  generalize c.mrgE x y = E at *
  have e2 : (E == E) = true := by simp
  have S0 := LS.start w hc
  obtain ⟨y0, y1, y2, y3, yl⟩ := S0.cells
  have S0 := Lib.hid S0
  go_enter Tryz.func3, Tryz.ntmps3
  go_wp2_with (first
    | (go_at_call 16; (with_reducible refine (fFew _ S0.out.c1).mono ?_); rintro e w1 ⟨b, rfl, hb1⟩; have S1 := (S0.out).ch hb1; clear y0 y1 y2 y3 yl; obtain ⟨y0, y1, y2, y3, yl⟩ := S1.cells; have S1 := Lib.hid S1; cases b; clear hb1)
    | (go_at_call 18; (with_reducible refine (fM _ S1.out.c1).mono ?_); rintro e w2 ⟨p, hp, rfl, hb2, hpc⟩; have S2 := (S1.out).ch hb2; clear y0 y1 y2 y3 yl; obtain ⟨y0, y1, y2, y3, yl⟩ := S2.cells; have S2 := Lib.hid S2; have XP := Lib.hid (hpc); clear hpc; clear hb2)
    | (go_at_call 19; (with_reducible refine (gM _ (S2.out.al _).c1).mono ?_); rintro e w3 ⟨q, hq, rfl, hb3, hqc⟩; have S3 := ((S2.out.al _)).ch hb3; clear y0 y1 y2 y3 yl; obtain ⟨y0, y1, y2, y3, yl⟩ := S3.cells; have S3 := Lib.hid S3; have XP := Lib.hid ((XP.out.below (one_alloc _ _)).below hb3); have ZP := Lib.hid ((HB.new w2 #[.string p.ware, .int .i64 p.lim, .int .i64 p.byr, .slice p.a p.ps.length p.cap] 24).below hb3); have XQ := Lib.hid (hqc); clear hqc; clear hb3)
    | (go_at_call 17; (with_reducible refine (ltold _).mono ?_); rintro e w4 ⟨rfl, hb4⟩; have S4 := ((S3.out.al _)).ch hb4; clear y0 y1 y2 y3 yl; obtain ⟨y0, y1, y2, y3, yl⟩ := S4.cells; have S4 := Lib.hid S4; have XP := Lib.hid ((XP.out.below (one_alloc _ _)).below hb4); have ZP := Lib.hid ((ZP.out.below (one_alloc _ _)).below hb4); have XQ := Lib.hid ((XQ.out.below (one_alloc _ _)).below hb4); have ZQ := Lib.hid ((HB.new w3 #[.string q.ware, .int .i64 q.lim, .int .i64 q.byr, .slice q.a q.ps.length q.cap] 24).below hb4); obtain ⟨p0, p1, p2, p3, pf, pl⟩ := cell4w ZP.out; obtain ⟨q0, q1, q2, q3, qf, ql⟩ := cell4w ZQ.out; clear hb4)
    | (go_at_call 20; (with_reducible refine (fSame p q _ (hp.trans hq.symm) XP.out XQ.out).mono ?_); rintro e w5 ⟨rfl, hb5⟩; have S5 := (S4.out).ch hb5; clear y0 y1 y2 y3 yl; obtain ⟨y0, y1, y2, y3, yl⟩ := S5.cells; have S5 := Lib.hid S5; have XP := Lib.hid (XP.out.below hb5); have ZP := Lib.hid (ZP.out.below hb5); have XQ := Lib.hid (XQ.out.below hb5); have ZQ := Lib.hid (ZQ.out.below hb5); clear hb5)
    | (go_at_call 17; (with_reducible refine (ltold _).mono ?_); rintro e wT ⟨rfl, hbT⟩))
  all_goals go_ret
  all_goals first
    | exact ⟨rfl, S5.out.below⟩
    | exact ⟨rfl, S1.out.below.ch2 hbT⟩
end Go.Proofs.YtodkbfbbpfghiaaGreat
namespace Go.Proofs.YtodkbfbbpfghiaaGreat
open Go.ChangeShapes Go.WideShapes Go.ChangeAt Go.RowKit Go.Joins Go.Deep
set_option maxRecDepth 100000 in
theorem wholeMerges_lifted (os : Os) (started : os.Started) (H : Type) (enc : TypeId × Value → H) :
    ReturnsInHanded {} Tryz.checked os 3 .any (Rows.wholeMergesSpec.pre6 enc Tryz.prog Tryz.f3 Rows.wholeMergesRow.domain false) (Rows.wholeMergesSpec.post enc Tryz.prog Tryz.f3 false true false false) := by
  refine returnsInHanded_of_change_sized (C := Tryz.checked) Tryz.own started (by kernel_rfl) Tryz.func3
    (ChangeSpec.witness6 (enc := enc) (C := Tryz.checked) false ⟨#[], #[.agg #[.string ⟨#[]⟩, .int .i64 0, .int .i64 0, .slice none 0 0], .int .i64 0, .int .i64 0], []⟩ 8 (by kernel_rfl) (by kernel_rfl) (by kernel_rfl) (by kernel_rfl)) ?_
  intro W base args ds gs before hval0 hW _ hsz0 _
  have hsz : (DataW.weightsEach Tryz.prog (Tryz.f3.params.toList ++ Rows.wholeMergesSpec.plain.varTypes Tryz.prog) (ds ++ gs)).all (· ≤ reachBytes) = true := hsz0
  clear hsz0
  have hval : ∀ (j : Nat) t v, Tryz.f3.params[j]? = some t → args[j]? = some v → Value.okWide Tryz.prog W .any base t v := hval0
  have hW' := hW
  obtain ⟨p, q, hA0, hV, rfl, _, _⟩ := hW
  have hA : DataW.TrodAll enc Tryz.prog W 0 (fun _ => true) true Tryz.f3.params.toList args.toList ds p := hA0
  rw [Tryz.params3] at hA hval hsz
  obtain ⟨v0, vs0, d0, ds0, p0, q0, hargs, rfl, rfl, h0, r0⟩ := trodAll_cons hA
  obtain ⟨v1, vs1, d1, ds1, p1, q1, rfl, rfl, rfl, h1, r1⟩ := trodAll_cons r0
  obtain ⟨v2, vs2, d2, ds2, p2, q2, rfl, rfl, rfl, h2, r2⟩ := trodAll_cons r1
  obtain ⟨rfl, rfl, rfl⟩ := trodAll_nil r2
  obtain rfl : args = #[v0, v1, v2] := by cases args; simp_all
  obtain ⟨rfl, rfl⟩ := trodVars_none hV
  clear hA0 hval0
  have hlt : ∀ x ∈ p0 ++ p1 ++ p2, x.block < W.heap.size := fun x hx => by have := hW'.lt x (by simpa using hx); simpa using this
  obtain ⟨c0, rfl, hb0, hn0⟩ := case_open (hval 0 24 v0 rfl rfl) h0 (fun n hn => by
    have := List.all_eq_true.1 hsz _ (DataW.weights_mem_each (j := 0) rfl rfl n hn)
    simpa using this)
  obtain ⟨x1, rfl⟩ := okWide_int Tryz.underlying3 (hval 1 3 v1 rfl rfl)
  obtain ⟨x2, rfl⟩ := okWide_int Tryz.underlying3 (hval 2 3 v2 rfl rfl)
  refine (law_merges c0 x1 x2 W hb0 hn0).mono fun e W' ⟨he, hw⟩ => ?_
  subst he
  exact ⟨_, rfl, ⟨_, _, _, [], _, [], hW', trodAll_mk1 (shut_bool Tryz.underlying4 _), (trodAll_cons_mk (Below.trod Tryz.laidOut (by kernel_rfl) (of_decide_eq_true (by kernel_rfl)) h0 hw (fun x hx => hlt x (by simp [hx]))) (trodAll_cons_mk (Below.trod Tryz.laidOut (by kernel_rfl) (of_decide_eq_true (by kernel_rfl)) h1 hw (fun x hx => hlt x (by simp [hx]))) (trodAll_cons_mk (Below.trod Tryz.laidOut (by kernel_rfl) (of_decide_eq_true (by kernel_rfl)) h2 hw (fun x hx => hlt x (by simp [hx]))) trodAll_mk0))), rfl, hw.frame _, fun h => by cases h⟩⟩
theorem wholeMerges_holds : Rows.WholeMergesSaid :=
  OpenClaim.holds_of_wide 3 Tryz.f3 rfl rfl rfl rfl rfl rfl rfl ⟨rfl, rfl, rfl, rfl, rfl⟩ rfl rfl rfl rfl rfl (by kernel_rfl) Tryz.func3 (by kernel_rfl)
    (of_decide_eq_true (by kernel_rfl)) (by unfold Func.isWrapper; rw [if_neg (of_decide_eq_false (by kernel_rfl))]; exact ⟨rfl, rfl⟩)
    (fun os started H enc _ => wholeMerges_lifted os started H enc)
#print axioms wholeMerges_holds
end Go.Proofs.YtodkbfbbpfghiaaGreat
