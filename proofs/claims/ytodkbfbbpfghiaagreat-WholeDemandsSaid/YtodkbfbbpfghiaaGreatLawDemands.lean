/-
  The law Demands, walked, and its statement.
-/
import Derived.Test.YtodkbfbbpfghiaaGreatPa29
import Derived.Test.YtodkbfbbpfghiaaGreatPa16
import Derived.Test.YtodkbfbbpfghiaaGreatRows
import Derived.OpenShut
set_option linter.unusedSimpArgs false
set_option linter.unusedVariables false
set_option linter.unnecessarySimpa false
namespace Go.Proofs.YtodkbfbbpfghiaaGreat
open Go.RowKit Go.Shelf Go.Lib
set_option maxHeartbeats 8000000
set_option maxRecDepth 100000
theorem law_demands (c : Cs) (lo hi : Int) (al : Option Addr) (m cl : Nat) (xs : List Int) (ar : Option Addr) (mr cr : Nat) (rs : List (Int × Int)) (n : Int) (w : World) (hc : CsAt w c) (hcr : c.ps.length ≤ c.cap) (hl : IntsAt w al m cl xs) (hroom : xs.length ≤ cl) (hr : RngsAt w ar mr cr rs) (hrr : rs.length ≤ cr) :
    Calls Tryz.prog 4 #[c.v, .agg #[.int .i64 lo, .int .i64 hi], .slice al m cl, .slice ar mr cr, .int .i64 n] w fun e w' => e = .returned (.bool true) ∧ Below w.heap.size w w' := by
  have fFew := fun W (h : CsAt W c) => lfew c W h
  unfold BoolAny at fFew
  have fD := fun W (h : CsAt W c) => wDemand c lo hi W h
  have gD := fun W (h : CsAt W c) => r6Demand c lo hi W h
  have fW := fun W (h : CsAt W c) (h2 : IntsAt W al m cl xs) => wCheckWitness c al m cl xs W h h2 hroom
  have gW := fun W (h : CsAt W c) (h2 : IntsAt W al m cl xs) => r6CheckWitness c al m cl xs W h h2
  have fS := fun W (h : CsAt W c) (h2 : RngsAt W ar mr cr rs) h3 => wCheckShow c ar mr cr rs n W h h2 h3
  have gS := fun W (h : CsAt W c) (h2 : RngsAt W ar mr cr rs) h3 => r6CheckShow c ar mr cr rs n W h h2 h3
  have hm := hl.len
  have hmr := hr.len
  have hms := hl.small
  have hmrs := hr.small
  simp only [Cs.v] at fFew fD gD fW gW fS gS ⊢
  generalize c.dem lo hi = D at *
  generalize c.chk = E at *
  generalize c.wit xs = B1 at *
  generalize c.shw rs n = B2 at *
  have e1 : (D == D) = true := by simp
  have e2 : (E == E) = true := by simp
  have e3 : (B1 == B1) = true := by simp
  have e4 : (B2 == B2) = true := by simp
  have S0 := LS.start w hc
  have hB := one_alloc w (Obj.cells #[.string c.ware, .int .i64 c.lim, .int .i64 c.byr, .slice c.a c.ps.length c.cap] 24)
  have XL := Lib.hid (hl.below hB)
  have XR := Lib.hid (hr.below hB)
  have Z0 := HB.new (w.alloc (Obj.cells #[.string c.ware, .int .i64 c.lim, .int .i64 c.byr, .slice c.a c.ps.length c.cap] 24)) #[.int .i64 lo, .int .i64 hi] 33
  rw [World.size_alloc] at Z0
  have Z := Lib.hid Z0
  clear Z0
  obtain ⟨y0, y1, y2, y3, yl⟩ := S0.cells
  have S0 := Lib.hid S0
  have HM := Lib.hid hm
  have HMR := Lib.hid hmr
  clear hl hr hB hm hmr
  by_cases q1 : m ≤ 60
  · have q1' : decide ((60 : Int) < (m : Int)) = false := by simp; omega
    by_cases q2 : mr ≤ 60
    · have q2' : decide ((60 : Int) < (mr : Int)) = false := by simp; omega
      go_enter Tryz.func4, Tryz.ntmps4
      go_wp2_with (first
        | (go_at_call 16; (with_reducible refine (fFew _ (S0.out.al _).c1).mono ?_); rintro e w1 ⟨b, rfl, hb1⟩; have S1 := ((S0.out.al _)).ch hb1; clear y0 y1 y2 y3 yl; obtain ⟨y0, y1, y2, y3, yl⟩ := S1.cells; have S1 := Lib.hid S1; have XL := Lib.hid ((XL.out.below (one_alloc _ _)).below hb1); have XR := Lib.hid ((XR.out.below (one_alloc _ _)).below hb1); have Z := Lib.hid (Z.out.below hb1); obtain ⟨z0, z1, zf, zl⟩ := cell2w Z.out; cases b; clear hb1)
        | (go_at_call 21; (with_reducible refine (fD _ S1.out.c1).mono ?_); rintro e w2 ⟨rfl, hb2⟩; have S2 := (S1.out).ch hb2; clear y0 y1 y2 y3 yl; obtain ⟨y0, y1, y2, y3, yl⟩ := S2.cells; have S2 := Lib.hid S2; have XL := Lib.hid (XL.out.below hb2); have XR := Lib.hid (XR.out.below hb2); have Z := Lib.hid (Z.out.below hb2); clear z0 z1 zf zl; obtain ⟨z0, z1, zf, zl⟩ := cell2w Z.out; clear hb2)
        | (go_at_call 22; (with_reducible refine (gD _ S2.out.c1).mono ?_); rintro e w3 ⟨rfl, hb3⟩; have S3 := (S2.out).ch hb3; clear y0 y1 y2 y3 yl; obtain ⟨y0, y1, y2, y3, yl⟩ := S3.cells; have S3 := Lib.hid S3; have XL := Lib.hid (XL.out.below hb3); have XR := Lib.hid (XR.out.below hb3); have Z := Lib.hid (Z.out.below hb3); clear hb3)
        | (go_at_call 23; (with_reducible refine (fW _ S3.out.c1 XL.out).mono ?_); rintro e w4 ⟨rfl, hb4⟩; have S4 := (S3.out).ch hb4; clear y0 y1 y2 y3 yl; obtain ⟨y0, y1, y2, y3, yl⟩ := S4.cells; have S4 := Lib.hid S4; have XL := Lib.hid (XL.out.below hb4); have XR := Lib.hid (XR.out.below hb4); have Z := Lib.hid (Z.out.below hb4); clear hb4)
        | (go_at_call 24; (with_reducible refine (gW _ S4.out.c1 XL.out).mono ?_); rintro e w5 ⟨rfl, hb5⟩; have S5 := (S4.out).ch hb5; clear y0 y1 y2 y3 yl; obtain ⟨y0, y1, y2, y3, yl⟩ := S5.cells; have S5 := Lib.hid S5; have XL := Lib.hid (XL.out.below hb5); have XR := Lib.hid (XR.out.below hb5); have Z := Lib.hid (Z.out.below hb5); clear hb5)
        | (go_at_call 25; (with_reducible refine (fS _ S5.out.c1 XR.out (by have := HMR.out; omega)).mono ?_); rintro e w6 ⟨rfl, hb6⟩; have S6 := (S5.out).ch hb6; clear y0 y1 y2 y3 yl; obtain ⟨y0, y1, y2, y3, yl⟩ := S6.cells; have S6 := Lib.hid S6; have XL := Lib.hid (XL.out.below hb6); have XR := Lib.hid (XR.out.below hb6); have Z := Lib.hid (Z.out.below hb6); clear hb6)
        | (go_at_call 26; (with_reducible refine (gS _ S6.out.c1 XR.out (by have := HMR.out; omega)).mono ?_); rintro e w7 ⟨rfl, hb7⟩; have S7 := (S6.out).ch hb7; clear y0 y1 y2 y3 yl; obtain ⟨y0, y1, y2, y3, yl⟩ := S7.cells; have S7 := Lib.hid S7; have XL := Lib.hid (XL.out.below hb7); have XR := Lib.hid (XR.out.below hb7); have Z := Lib.hid (Z.out.below hb7); clear hb7)
        | (go_at_call 17; (with_reducible refine (ltold _).mono ?_); rintro e w8 ⟨rfl, hb8⟩; have S8 := (S7.out).ch hb8; clear y0 y1 y2 y3 yl; obtain ⟨y0, y1, y2, y3, yl⟩ := S8.cells; have S8 := Lib.hid S8; have XL := Lib.hid (XL.out.below hb8); have XR := Lib.hid (XR.out.below hb8); have Z := Lib.hid (Z.out.below hb8); clear hb8)
        | (go_at_call 17; (with_reducible refine (ltold _).mono ?_); rintro e wT ⟨rfl, hbT⟩))
      all_goals go_ret
      all_goals first
        | exact ⟨rfl, S8.out.below⟩
        | exact ⟨rfl, S1.out.below.ch2 hbT⟩
    · have q2' : decide ((60 : Int) < (mr : Int)) = true := by simp; omega
      go_enter Tryz.func4, Tryz.ntmps4
      go_wp2_with (first
        | (go_at_call 16; (with_reducible refine (fFew _ (S0.out.al _).c1).mono ?_); rintro e w1 ⟨b, rfl, hb1⟩; have S1 := ((S0.out.al _)).ch hb1; clear y0 y1 y2 y3 yl; obtain ⟨y0, y1, y2, y3, yl⟩ := S1.cells; have S1 := Lib.hid S1; have XL := Lib.hid ((XL.out.below (one_alloc _ _)).below hb1); have XR := Lib.hid ((XR.out.below (one_alloc _ _)).below hb1); have Z := Lib.hid (Z.out.below hb1); obtain ⟨z0, z1, zf, zl⟩ := cell2w Z.out; cases b; clear hb1)
        | (go_at_call 17; (with_reducible refine (ltold _).mono ?_); rintro e wT ⟨rfl, hbT⟩))
      all_goals go_ret
      all_goals first
        | exact ⟨rfl, S1.out.below.ch2 hbT⟩
  · have q1' : decide ((60 : Int) < (m : Int)) = true := by simp; omega
    go_enter Tryz.func4, Tryz.ntmps4
    go_wp2_with (first
      | (go_at_call 16; (with_reducible refine (fFew _ (S0.out.al _).c1).mono ?_); rintro e w1 ⟨b, rfl, hb1⟩; have S1 := ((S0.out.al _)).ch hb1; clear y0 y1 y2 y3 yl; obtain ⟨y0, y1, y2, y3, yl⟩ := S1.cells; have S1 := Lib.hid S1; have XL := Lib.hid ((XL.out.below (one_alloc _ _)).below hb1); have XR := Lib.hid ((XR.out.below (one_alloc _ _)).below hb1); have Z := Lib.hid (Z.out.below hb1); obtain ⟨z0, z1, zf, zl⟩ := cell2w Z.out; cases b; clear hb1)
      | (go_at_call 17; (with_reducible refine (ltold _).mono ?_); rintro e wT ⟨rfl, hbT⟩))
    all_goals go_ret
    all_goals first
      | exact ⟨rfl, S1.out.below.ch2 hbT⟩
end Go.Proofs.YtodkbfbbpfghiaaGreat
namespace Go.Proofs.YtodkbfbbpfghiaaGreat
open Go.ChangeShapes Go.WideShapes Go.ChangeAt Go.RowKit Go.Joins Go.Deep
set_option maxRecDepth 100000 in
theorem wholeDemands_lifted (os : Os) (started : os.Started) (H : Type) (enc : TypeId × Value → H) :
    ReturnsInHanded {} Tryz.checked os 4 .any (Rows.wholeDemandsSpec.pre6 enc Tryz.prog Tryz.f4 Rows.wholeDemandsRow.domain false) (Rows.wholeDemandsSpec.post enc Tryz.prog Tryz.f4 false true false false) := by
  refine returnsInHanded_of_change_sized (C := Tryz.checked) Tryz.own started (by kernel_rfl) Tryz.func4
    (ChangeSpec.witness6 (enc := enc) (C := Tryz.checked) false ⟨#[], #[.agg #[.string ⟨#[]⟩, .int .i64 0, .int .i64 0, .slice none 0 0], .agg #[.int .i64 0, .int .i64 0], .slice none 0 0, .slice none 0 0, .int .i64 0], []⟩ 8 (by kernel_rfl) (by kernel_rfl) (by kernel_rfl) (by kernel_rfl)) ?_
  intro W base args ds gs before hval0 hW _ hsz0 _
  have hsz : (DataW.weightsEach Tryz.prog (Tryz.f4.params.toList ++ Rows.wholeDemandsSpec.plain.varTypes Tryz.prog) (ds ++ gs)).all (· ≤ reachBytes) = true := hsz0
  clear hsz0
  have hval : ∀ (j : Nat) t v, Tryz.f4.params[j]? = some t → args[j]? = some v → Value.okWide Tryz.prog W .any base t v := hval0
  have hW' := hW
  obtain ⟨p, q, hA0, hV, rfl, _, _⟩ := hW
  have hA : DataW.TrodAll enc Tryz.prog W 0 (fun _ => true) true Tryz.f4.params.toList args.toList ds p := hA0
  rw [Tryz.params4] at hA hval hsz
  obtain ⟨v0, vs0, d0, ds0, p0, q0, hargs, rfl, rfl, h0, r0⟩ := trodAll_cons hA
  obtain ⟨v1, vs1, d1, ds1, p1, q1, rfl, rfl, rfl, h1, r1⟩ := trodAll_cons r0
  obtain ⟨v2, vs2, d2, ds2, p2, q2, rfl, rfl, rfl, h2, r2⟩ := trodAll_cons r1
  obtain ⟨v3, vs3, d3, ds3, p3, q3, rfl, rfl, rfl, h3, r3⟩ := trodAll_cons r2
  obtain ⟨v4, vs4, d4, ds4, p4, q4, rfl, rfl, rfl, h4, r4⟩ := trodAll_cons r3
  obtain ⟨rfl, rfl, rfl⟩ := trodAll_nil r4
  obtain rfl : args = #[v0, v1, v2, v3, v4] := by cases args; simp_all
  obtain ⟨rfl, rfl⟩ := trodVars_none hV
  clear hA0 hval0
  have hlt : ∀ x ∈ p0 ++ p1 ++ p2 ++ p3 ++ p4, x.block < W.heap.size := fun x hx => by have := hW'.lt x (by simpa using hx); simpa using this
  obtain ⟨c0, rfl, hb0, hn0⟩ := case_open (hval 0 24 v0 rfl rfl) h0 (fun n hn => by
    have := List.all_eq_true.1 hsz _ (DataW.weights_mem_each (j := 0) rfl rfl n hn)
    simpa using this)
  obtain ⟨lo1, hi1, rfl⟩ := range_open (hval 1 33 v1 rfl rfl) h1
  obtain ⟨a2, n2, k2, xs2, rfl, hb2, hn2⟩ := ints_open (hval 2 34 v2 rfl rfl) h2 (fun n hn => by
    have := List.all_eq_true.1 hsz _ (DataW.weights_mem_each (j := 2) rfl rfl n hn)
    simpa using this)
  obtain ⟨a3, n3, k3, xs3, rfl, hb3, hn3⟩ := rngs_open (hval 3 35 v3 rfl rfl) h3 (fun n hn => by
    have := List.all_eq_true.1 hsz _ (DataW.weights_mem_each (j := 3) rfl rfl n hn)
    simpa using this)
  obtain ⟨x4, rfl⟩ := okWide_int Tryz.underlying3 (hval 4 3 v4 rfl rfl)
  refine (law_demands c0 lo1 hi1 a2 n2 k2 xs2 a3 n3 k3 xs3 x4 W hb0 hn0 hb2 hn2 hb3 hn3).mono fun e W' ⟨he, hw⟩ => ?_
  subst he
  exact ⟨_, rfl, ⟨_, _, _, [], _, [], hW', trodAll_mk1 (shut_bool Tryz.underlying4 _), (trodAll_cons_mk (Below.trod Tryz.laidOut (by kernel_rfl) (of_decide_eq_true (by kernel_rfl)) h0 hw (fun x hx => hlt x (by simp [hx]))) (trodAll_cons_mk (Below.trod Tryz.laidOut (by kernel_rfl) (of_decide_eq_true (by kernel_rfl)) h1 hw (fun x hx => hlt x (by simp [hx]))) (trodAll_cons_mk (Below.trod Tryz.laidOut (by kernel_rfl) (of_decide_eq_true (by kernel_rfl)) h2 hw (fun x hx => hlt x (by simp [hx]))) (trodAll_cons_mk (Below.trod Tryz.laidOut (by kernel_rfl) (of_decide_eq_true (by kernel_rfl)) h3 hw (fun x hx => hlt x (by simp [hx]))) (trodAll_cons_mk (Below.trod Tryz.laidOut (by kernel_rfl) (of_decide_eq_true (by kernel_rfl)) h4 hw (fun x hx => hlt x (by simp [hx]))) trodAll_mk0))))), rfl, hw.frame _, fun h => by cases h⟩⟩
theorem wholeDemands_holds : Rows.WholeDemandsSaid :=
  OpenClaim.holds_of_wide 4 Tryz.f4 rfl rfl rfl rfl rfl rfl rfl ⟨rfl, rfl, rfl, rfl, rfl⟩ rfl rfl rfl rfl rfl (by kernel_rfl) Tryz.func4 (by kernel_rfl)
    (of_decide_eq_true (by kernel_rfl)) (by unfold Func.isWrapper; rw [if_neg (of_decide_eq_false (by kernel_rfl))]; exact ⟨rfl, rfl⟩)
    (fun os started H enc _ => wholeDemands_lifted os started H enc)
#print axioms wholeDemands_holds
end Go.Proofs.YtodkbfbbpfghiaaGreat
