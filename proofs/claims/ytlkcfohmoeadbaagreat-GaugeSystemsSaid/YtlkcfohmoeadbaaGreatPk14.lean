/-
  Lemmas and walks for the laws on bounds and their sums; the parts' own heads say what each proves, for every input.
-/
import Derived.Test.YtlkcfohmoeadbaaGreatPk13
import Derived.Test.YtlkcfohmoeadbaaGreatPk10
import Derived.Test.YtlkcfohmoeadbaaGreatPk08
import Derived.Test.YtlkcfohmoeadbaaGreatPk09
set_option linter.unusedSimpArgs false
set_option linter.unusedVariables false
set_option linter.unnecessarySimpa false
/-
  Gauge, walked: leftOut.
-/
namespace Go.Proofs.YtlkcfohmoeadbaaGreat
open Go.RowKit Go.Shelf
set_option maxHeartbeats 1000000
set_option maxRecDepth 100000
attribute [local go_sem] Oper.semAt_some

/-- Records left out one after the other: what stays of the bounds, and the records without which it does not stay. -/
def loS (st : List Bd → Bool) (l : List Int) (bs : List Bd) : List Bd × List Int :=
  l.foldl (fun s id => if st (s.1.filter fun b => b.bid != id) then (s.1.filter fun b => b.bid != id, s.2) else (s.1, s.2 ++ [id])) (bs, [])
def loAt (st : List Bd → Bool) (bs : List Bd) (k : Nat) : List Bd × List Int := loS st ((idsL bs).drop k).reverse bs
def loL (st : List Bd → Bool) (bs : List Bd) : List Int := (loAt st bs 0).2.reverse

theorem loAt_top (st : List Bd → Bool) (bs : List Bd) : loAt st bs (idsL bs).length = (bs, []) := by simp [loAt, loS]
theorem loAt_step {st : List Bd → Bool} {bs : List Bd} {k : Nat} (hk : k < (idsL bs).length) : loAt st bs k =
    if st ((loAt st bs (k + 1)).1.filter fun b => b.bid != (idsL bs).getD k 0) then ((loAt st bs (k + 1)).1.filter fun b => b.bid != (idsL bs).getD k 0, (loAt st bs (k + 1)).2) else ((loAt st bs (k + 1)).1, (loAt st bs (k + 1)).2 ++ [(idsL bs).getD k 0]) := by
  unfold loAt loS
  rw [List.drop_eq_getElem_cons hk, List.reverse_cons, List.foldl_append]
  simp [List.getD_eq_getElem?_getD, List.getElem?_eq_getElem hk]
theorem loAt_sub {st : List Bd → Bool} {bs : List Bd} : ∀ (k : Nat), (∀ b ∈ (loAt st bs k).1, b ∈ bs) ∧ (loAt st bs k).1.length ≤ bs.length := by
  suffices h : ∀ (l : List Int) (s : List Bd × List Int), ((∀ b ∈ s.1, b ∈ bs) ∧ s.1.length ≤ bs.length) → let r := l.foldl (fun s id => if st (s.1.filter fun b => b.bid != id) then (s.1.filter fun b => b.bid != id, s.2) else (s.1, s.2 ++ [id])) s; (∀ b ∈ r.1, b ∈ bs) ∧ r.1.length ≤ bs.length by
    intro k; exact h _ (bs, []) ⟨fun _ h => h, Nat.le_refl _⟩
  intro l
  induction l with
  | nil => intro s h; exact h
  | cons x l ih =>
    intro s h
    simp only [List.foldl_cons]
    apply ih
    split
    · exact ⟨fun b hb => h.1 b (List.mem_filter.1 hb).1, Nat.le_trans (List.length_filter_le _ _) h.2⟩
    · exact h
theorem loAt_len {st : List Bd → Bool} {bs : List Bd} (k : Nat) : (loAt st bs k).2.length ≤ (idsL bs).length := by
  suffices h : ∀ (l : List Int) (s : List Bd × List Int), (l.foldl (fun s id => if st (s.1.filter fun b => b.bid != id) then (s.1.filter fun b => b.bid != id, s.2) else (s.1, s.2 ++ [id])) s).2.length ≤ s.2.length + l.length by
    have := h ((idsL bs).drop k).reverse (bs, [])
    unfold loAt loS
    refine Nat.le_trans this ?_
    simp
  intro l
  induction l with
  | nil => intro s; simp
  | cons x l ih =>
    intro s
    simp only [List.foldl_cons, List.length_cons]
    refine Nat.le_trans (ih _) ?_
    split <;> simp <;> omega

theorem Sys.sub {p : Int} {bs cs : List Bd} (h : Sys p bs) (h1 : ∀ b ∈ cs, b ∈ bs) (h2 : cs.length ≤ bs.length) : Sys p cs := ⟨h.p1, h.p2, Nat.le_trans h2 h.len, fun b hb => h.inr b (h1 b hb)⟩

/-- What leftOut works on, as it lies in a world. -/
structure LO (p : Int) (SB FB OB BX base : Nat) (fv idv : Value) (ids : List Int) (cur : List Bd) (out : List Int) (W : World) : Prop where
  sys : ∃ a n c v, W.heap[SB]? = some (.cells #[.int .i64 p, .slice a n c] 24 (0, 0)) ∧ BdsAt W a n c cur ∧ W.heap[OB]? = some (.cells #[v] 27 (0, 0)) ∧ W.ownsRow base 3 1 v out.length (out.map (.int .i64)) ∧
    ∀ x, a = some x → x.block ≠ SB ∧ x.block ≠ OB ∧ x.block ∉ v.ownBlock.toList
  fb : W.heap[FB]? = some (.cells #[fv] 28 (0, 0))
  bx : W.heap[BX]? = some (.cells #[idv] 27 (0, 0))
  ids : W.ownsRow (OB + 1) 3 1 idv ids.length (ids.map (.int .i64))

theorem LO.keepC {p : Int} {SB FB OB BX base : Nat} {fv idv : Value} {ids : List Int} {cur : List Bd} {out : List Int} {W W' : World} (h : LO p SB FB OB BX base fv idv ids cur out W) (hk : KeepC W W') : LO p SB FB OB BX base fv idv ids cur out W' := by
  obtain ⟨⟨a, n, c, v, h1, h2, h3, h4, h5⟩, h6, h7, h8⟩ := h
  exact ⟨⟨a, n, c, v, hk.cells _ _ _ _ h1, h2.keepC hk, hk.cells _ _ _ _ h3, row_keepC h4 hk, h5⟩, hk.cells _ _ _ _ h6, hk.cells _ _ _ _ h7, row_keepC h8 hk⟩

theorem keeps_cells {B : Nat} {E : List Nat} {W W' : World} (h : SL.Chg E W W') (hE : ∀ k ∈ E, k < B ∨ ∃ cs t f, W.heap[k]? = some (Obj.cells cs t f)) : KeepsFrom B W W' := by
  refine ⟨h.size, fun k o hk ho hn => (h.block k (Array.getElem?_eq_some_iff.1 ho).1 (fun hm => ?_)).trans ho⟩
  rcases hE k hm with h1 | ⟨cs, t, f, h1⟩
  · omega
  · rw [ho] at h1; cases h1; cases hn
theorem row_cells {w : World} {base : Nat} {t : TypeId} {size n : Nat} {v : Value} {xs : List Value} (h : w.ownsRow base t size v n xs) : ∀ k ∈ v.ownBlock.toList, ∃ cs t f, w.heap[k]? = some (Obj.cells cs t f) := by
  obtain ⟨hl, ⟨hv, hn⟩ | ⟨g, cap', cur, hv, hbg, hg, hr⟩⟩ := h
  · subst hv; simp [Value.ownBlock]
  · subst hv; intro k hk; simp [Value.ownBlock] at hk; subst hk; exact ⟨_, _, _, hg⟩

theorem gleftOut_any (p : Int) (a : Option Addr) (n cap : Nat) (bs : List Bd) (k : Nat) (caps : Array Value) (st : List Bd → Bool) (w : World) (hb : BdsAt w a n cap bs) (hs : Sys p bs) (hid : ∀ b ∈ bs, 0 ≤ b.bid ∧ b.bid ≤ 1000000)
    (hent : ∀ args w, (callFunc k args).run Tryz.prog w = .ok (.enter k args) w)
    (hst : ∀ (W : World) (a' : Option Addr) (n' c' : Nat) (bs' : List Bd), Below w.heap.size w W → BdsAt W a' n' c' bs' → Sys p bs' → Calls Tryz.prog k (#[.agg #[.int .i64 p, .slice a' n' c']] ++ caps) W fun e w' => e = .returned (.bool (st bs')) ∧ Below W.heap.size W w') :
    Calls Tryz.prog 61 #[.agg #[.int .i64 p, .slice a n cap], .func (.func k) #[] caps] w fun e w' => ∃ v, e = .returned v ∧ w'.ownsRow w.heap.size 3 1 v (loL st bs).length ((loL st bs).map (.int .i64)) ∧ Below w.heap.size w w' := by
  have hmf := makeFunc_run
  have h402 := hs.len
  have hax : ∀ x, a = some x → x.block < w.heap.size := fun x hx => (hb.at_ x hx).2.1
  have hB3 : Below w.heap.size w (((w.alloc (Obj.cells #[.int .i64 p, .slice a n cap] 24)).alloc (Obj.cells #[.func (.func k) #[] caps] 28)).alloc (Obj.cells #[.slice none 0 0] 27)) := by ((repeat (first | assumption | exact Below.refl _ _ | refine Below.alloc ?_ ?_ _ | refine Below.setCell ?_ ?_ _ | refine Below.drew ?_ | refine belowN ?_ | refine Below.up ?_ (by assumption) ?_)) <;> (first | assumption | omega | (simp; done) | (simp; omega)))
  have hI := gidsOf_any a n cap bs _ (hb.below hB3) (by omega) hid
  refine (callsIn_wide (n := 0)).1 (callsIn_of_wp_marks Tryz.func61 rfl trivial ?_)
  simp only [Tryz.ntmps61, List.size_toArray, List.length_cons, List.length_nil, Nat.reduceAdd, Nat.reduceSub, Array.replicate_succ, Array.replicate_zero, List.push_toArray, List.append_toArray, List.nil_append, List.cons_append]
  refine wpIn_wide.2 ?_
  go_wp2_with (first
    | (go_at_call 50; refine hI.mono ?_; rintro e w3 ⟨v3, rfl, ho3, hb3⟩; obtain ⟨ida, idc, rfl, hia⟩ := owns_slice ho3)
    | (go_at_call 82; refine (gback_any _ _ _ _).mono ?_; rintro e w4 ⟨rfl, rfl⟩))
  have hz3 := hb3.size
  simp only [World.size_alloc] at hz3 hia
  have g0 : w3.heap[w.heap.size]? = some (.cells #[.int .i64 p, .slice a n cap] 24 (0, 0)) := by
    rw [hb3.block _ (by simp; omega), Below.heap_alloc _ _ _ (by simp; omega), Below.heap_alloc _ _ _ (by simp)]; exact World.alloc_heap_new _ _
  have g1 : w3.heap[w.heap.size + 1]? = some (.cells #[.func (.func k) #[] caps] 28 (0, 0)) := by
    rw [hb3.block _ (by simp), Below.heap_alloc _ _ _ (by simp)]; exact heap_alloc2_new _ _ _
  have g2 : w3.heap[w.heap.size + 2]? = some (.cells #[.slice none 0 0] 27 (0, 0)) := by
    have h := World.alloc_heap_new ((w.alloc (Obj.cells #[.int .i64 p, .slice a n cap] 24)).alloc (Obj.cells #[.func (.func k) #[] caps] 28)) (Obj.cells #[.slice none 0 0] 27)
    rw [World.size_alloc, World.size_alloc] at h
    rw [hb3.block _ (by simp)]; exact h
  have hBc : Below w.heap.size w (w3.alloc (Obj.cells #[.slice ida (idsL bs).length idc] 27)) := (hB3.trans (hb3.mono (by simp; omega))).alloc (by omega) _
  generalize hWc : w3.alloc (Obj.cells #[.slice ida (idsL bs).length idc] 27) = Wc at *
  have hzc : Wc.heap.size = w3.heap.size + 1 := by rw [← hWc]; simp
  have hidl := idsL_len bs
  have hL0 : LO p w.heap.size (w.heap.size + 1) (w.heap.size + 2) w3.heap.size Wc.heap.size (.func (.func k) #[] caps) (.slice ida (idsL bs).length idc) (idsL bs) bs [] Wc := by
    refine ⟨⟨a, n, cap, .slice none 0 0, ?_, hb.below hBc, ?_, World.ownsRow_nil _ _ _ _, fun x hx => ?_⟩, ?_, ?_, ?_⟩
    · rw [← hWc, Below.heap_alloc _ _ _ (by omega)]; exact g0
    · rw [← hWc, Below.heap_alloc _ _ _ (by omega)]; exact g2
    · have := hax x hx; simp [Value.ownBlock]; omega
    · rw [← hWc, Below.heap_alloc _ _ _ (by omega)]; exact g1
    · rw [← hWc]; exact World.alloc_heap_new _ _
    · rw [← hWc]; exact SL.row_base (World.ownsRow.up ho3 ((Below.refl _ _).alloc (Nat.le_refl _) _) (Nat.le_refl _)) (by simp)
  have hIo : OwnFrom Wc.heap.size (fun (j : Nat) W' => LO p w.heap.size (w.heap.size + 1) (w.heap.size + 2) w3.heap.size Wc.heap.size (.func (.func k) #[] caps) (.slice ida (idsL bs).length idc) (idsL bs) (loAt st bs j).1 (loAt st bs j).2 W' ∧ Below w.heap.size w W' ∧ Wc.heap.size ≤ W'.heap.size) := by
    rintro j W1 W2 row ⟨h1, h2, h3⟩ hg hr
    exact ⟨h1.keepC (.of_grown hg fun r e => (hr r e).2), h2.grown hg h2.size (fun r e => by have := (hr r e).1; omega), Nat.le_trans h3 hg.size⟩
  clear g0 g1 g2 hI
  refine range_state' (σ := Nat) (α := Nat × Int) (gf := 89) (lb := #[.pointer (some ⟨w3.heap.size, 0, none⟩)]) (by simp [go_sem]) (enters_of Tryz.func89 (by kernel_rfl) rfl)
    (encs := fun x => #[.int .i64 x.1, .int .i64 x.2]) (fun _ => rfl)
    (fun j W' => LO p w.heap.size (w.heap.size + 1) (w.heap.size + 2) w3.heap.size Wc.heap.size (.func (.func k) #[] caps) (.slice ida (idsL bs).length idc) (idsL bs) (loAt st bs j).1 (loAt st bs j).2 W' ∧ Below w.heap.size w W' ∧ Wc.heap.size ≤ W'.heap.size) (fun _ _ _ => False)
    hIo (fun _ _ _ _ _ h => h.elim) (idsL bs).length ⟨by rw [loAt_top]; exact hL0, hBc, Nat.le_refl _⟩
    (fun j x => j = x.1 + 1 ∧ x.1 < (idsL bs).length ∧ x.2 = (idsL bs).getD x.1 0) (fun j x => x.1) [7, 13, 14]
    (fun j x us W' => ∃ Bx, Wc.heap.size ≤ Bx ∧ us 7 = .pointer (some ⟨Bx, 0, none⟩) ∧ W'.heap[Bx]? = some (.cells #[.int .i64 x.2] 3 (0, 0)))
    ?_ (fun j => j = 0) (fun _ => False) ?_ ?_ ?_ ?_ (fun _ _ _ _ _ h => h.elim)
  · rintro j x us ⟨⟩ W1 W2 row ⟨Bx, h2, h3, h4⟩ hg hr
    exact ⟨Bx, h2, h3, (KeepC.of_grown hg fun r e => (hr r e).2).cells _ _ _ _ h4⟩
  · intro l J Jx W1 hb1 hJ hJx hJI hJxI hy hj0
    refine (gback1_any ida (idsL bs).length idc (idsL bs) w3.heap.size l J W1 (by omega) (fun j W' h => ?_) hj0 (fun j W2 hj hJ2 => ?_)).mono ?_
    · have h1 := (hJI _ _ h).1
      have := (SL.cells_of h1.bx).1 0
      exact ⟨by simpa using this, IntsAt.of_owns h1.ids (by omega)⟩
    · refine (hy (j + 1) (j, (idsL bs).getD j 0) W2 hJ2 ⟨rfl, hj, rfl⟩).mono ?_
      rintro e W3 (⟨rfl, h⟩ | ⟨_, h⟩)
      · exact ⟨rfl, h⟩
      · obtain ⟨_, hf⟩ := hJxI _ _ h; exact hf.elim
    · rintro e W2 ⟨hv, hj⟩
      exact ⟨hv, .inl ⟨_, rfl, hj⟩⟩
  · rintro l j ⟨m, x⟩ W1 K ⟨hL, hB, hz⟩ ⟨rfl, hm, hx⟩ hK
    have Hx := Lib.hid hx
    clear hx
    gi_wp2_with fail
    exact hK _ _ (keeps_of_chg (E := []) (.alloc _ _ _) (by simp)) (hIo.alloc _ ⟨hL, hB, hz⟩) rfl rfl ⟨W1.heap.size, hz, rfl, World.alloc_heap_new W1 _⟩
  · rintro l j ⟨m, x⟩ us W1 hl ⟨hL, hB, hz⟩ ⟨rfl, hm, hx⟩ ⟨Bx, hBx, h7, hBh⟩
    simp only at hm hx hBh
    have hstep := loAt_step (st := st) hm
    obtain ⟨hcs, hcl⟩ := loAt_sub (st := st) (bs := bs) (m + 1)
    have hol := loAt_len (st := st) (bs := bs) (m + 1)
    rw [← hx] at hstep
    have Hstep := Lib.hid hstep
    clear hstep hx
    generalize hcur : (loAt st bs (m + 1)).1 = cur at *
    generalize hout : (loAt st bs (m + 1)).2 = out at *
    have Hs := Lib.hid (And.intro hcur hout)
    clear hcur hout
    obtain ⟨⟨a1, n1, c1, v, s1, s2, s3, s4, s5⟩, s6, s7, s8⟩ := hL
    have zS := (Array.getElem?_eq_some_iff.1 s1).1
    have zO := (Array.getElem?_eq_some_iff.1 s3).1
    have zF := (Array.getElem?_eq_some_iff.1 s6).1
    have zX := (Array.getElem?_eq_some_iff.1 s7).1
    have zB := (Array.getElem?_eq_some_iff.1 hBh).1
    have cS0 := (SL.cells_of s1).1 0
    have cS1 := (SL.cells_of s1).1 1
    have cF := (SL.cells_of s6).1 0
    have cB := (SL.cells_of hBh).1 0
    simp at cS0 cS1 cF cB
    have hT := glout_tells x Bx W1 cB
    have hSome := gsome_any p a1 n1 c1 cur 83 #[.pointer (some ⟨Bx, 0, none⟩)] (fun b => b.bid != x) W1 s2 hT (by omega)
    have hfs : Sys p (cur.filter fun b => b.bid != x) := hs.sub (fun b hb => hcs b (List.mem_filter.1 hb).1) (Nat.le_trans (List.length_filter_le _ _) hcl)
    generalize cur.filter (fun b => b.bid != x) = T at *
    simp only [frame', SL.put', List.toList_toArray, List.contains_cons, List.contains_nil, Nat.reduceAdd, Nat.reduceBEq, Bool.or_false, Bool.or_true, Bool.false_or, Bool.true_or, if_true, Bool.false_eq_true, if_false, h7]
    refine wpIn_block ?_
    have Hroom := Lib.hid hfs.len
    have hfw : ∀ f, Fence.wide.fn f := fun _ => trivial
    have hdp : Fence.wide.depth = none := rfl
    gi_wp2_with (gi_at_call 44; refine (inR hSome).mono ?_; rintro e w2 ⟨v2, rfl, ho2, hb2⟩; obtain ⟨a2, c2, rfl, ha2⟩ := owns_slice ho2
                 have j1 := (hb2.block _ zF).trans s6
                 have j1c := (SL.cells_of j1).1 0
                 simp at j1c
                 have zF2 := (Array.getElem?_eq_some_iff.1 j1).1)
    have hz2 := hb2.size
    have hb0 : Below W1.heap.size W1 (w2.alloc (Obj.cells #[.int .i64 p, .slice a2 T.length c2] 24)) := hb2.alloc hz2 _
    have hbt : BdsAt (w2.alloc (Obj.cells #[.int .i64 p, .slice a2 T.length c2] 24)) a2 T.length c2 T := (BdsAt.of_owns ho2 (by have := Hroom.out; omega)).below ((Below.refl _ _).alloc (Nat.le_refl _) _)
    cases hq : st T with
    | true =>
      refine (inR (hst _ a2 _ c2 T (hB.trans (hb0.mono hB.size)) hbt hfs)).mono ?_
      rintro e w5 ⟨rfl, hb5⟩
      rw [hq]
      have hz5 := hb5.size
      simp only [World.size_alloc] at hz5
      have hb15 : Below W1.heap.size W1 w5 := hb0.trans (hb5.mono (by simp; omega))
      have k8 : w5.heap[w2.heap.size]? = some (.cells #[.int .i64 p, .slice a2 T.length c2] 24 (0, 0)) := (hb5.block _ (by simp)).trans (World.alloc_heap_new _ _)
      have kS := (hb15.block _ zS).trans s1
      have y80 := (SL.cells_of k8).1 0
      have y81 := (SL.cells_of k8).1 1
      have yS0 := (SL.cells_of kS).1 0
      have yS1 := (SL.cells_of kS).1 1
      have fS := (SL.cells_of kS).2
      simp at y80 y81 yS0 yS1
      clear j1 j1c cS0 cS1 cF cB
      gi_wp2
      have hG : SL.Chg [w.heap.size] W1 ((w5.setCell ⟨w.heap.size, 0, none⟩ (.int .i64 p)).setCell ⟨w.heap.size, 1, none⟩ (.slice a2 T.length c2)) := (SL.Chg.of_below hb15).trans ((SL.Chg.setCell _ (by simp) _).trans (.setCell _ (by simp) _))
      have hst2 := Hstep.out
      rw [if_pos hq] at hst2
      refine ⟨keeps_cells hG (by simp; omega), ⟨?_, ?_, ?_, ?_⟩, hB.trans (hG.belowE hB.size (by simp)), Nat.le_trans hz hG.size⟩
      · rw [hst2]
        refine ⟨a2, T.length, c2, v, SL.heap_set (SL.heap_set kS _) _, ((BdsAt.of_owns ho2 (by have := Hroom.out; omega)).below (((Below.refl _ _).alloc (Nat.le_refl _) _).trans (hb5.mono (by simp)))).chg (E := [w.heap.size]) ((SL.Chg.setCell _ (by simp) _).trans (.setCell _ (by simp) _)) (fun y hy => ?_), heap_chg s3 hG (by simp), ?_, fun y hy => ?_⟩
        · have := (ha2 y hy).1; simp; omega
        · exact SL.row_stab s4 fun y hy => hG.block y (SL.row_bounds s4 y hy).2 (by have := (SL.row_bounds s4 y hy).1; simp; omega)
        · have h1 := (ha2 y hy).1
          exact ⟨by omega, by omega, fun h => by have := (SL.row_bounds s4 _ h).2; omega⟩
      · exact heap_chg s6 hG (by simp)
      · exact heap_chg s7 hG (by simp; omega)
      · exact SL.row_stab s8 fun y hy => hG.block y (SL.row_bounds s8 y hy).2 (by have := (SL.row_bounds s8 y hy).1; simp; omega)
    | false =>
      refine (inR (hst _ a2 _ c2 T (hB.trans (hb0.mono hB.size)) hbt hfs)).mono ?_
      rintro e w5 ⟨rfl, hb5⟩
      rw [hq]
      have hz5 := hb5.size
      simp only [World.size_alloc] at hz5
      have hb15 : Below W1.heap.size W1 w5 := hb0.trans (hb5.mono (by simp; omega))
      have kO := (hb15.block _ zO).trans s3
      have kB := (hb15.block _ zB).trans hBh
      have yO := (SL.cells_of kO).1 0
      have yB := (SL.cells_of kB).1 0
      simp at yO yB
      have zO5 : w.heap.size + 2 < w5.heap.size := by omega
      clear j1 j1c cS0 cS1 cF cB
      gi_wp2_with (gi_at_builtin; refine wpListIn_app elemI rfl _ _ rfl (s4.up (hb15.alloc (by omega) (Obj.cells #[.int .i64 x] 3)) (Nat.le_refl _)) rfl rfl (RowAt.of_heap (World.alloc_heap_new w5 _)) (by simp) (ones_int [x]) ?_ ?_ ?_ ?_)
      · unfold maxLen; omega
      · omega
      · simp; omega
      · intro v' w6 ho hg hb6 _ hat
        rw [← hzc] at ho
        obtain ⟨sa, sc, rfl, _⟩ := owns_slice ho
        have hz6 := hb6.size
        simp only [World.size_alloc] at hz6
        have kO6 : w6.heap[w.heap.size + 2]? = some (.cells #[v] 27 (0, 0)) := by
          rw [hb6.block _ (by omega), Below.heap_alloc _ _ _ (by omega)]; exact kO
        have fO6 := (SL.cells_of kO6).2
        have yO6 := (SL.cells_of kO6).1 0
        simp at yO6
        clear yO yB
        gi_wp2
        have hG6 : SL.Chg ((w.heap.size + 2) :: v.ownBlock.toList) W1 w6 := by
          refine SL.Chg.trans (.of_below (hb15.alloc (by omega) (Obj.cells #[.int .i64 x] 3))) ?_
          exact .of_own hg (fun k hk => by simp [hk])
        have hG := hG6.trans (SL.Chg.setCell (E := (w.heap.size + 2) :: v.ownBlock.toList) w6 (p := ⟨w.heap.size + 2, 0, none⟩) (by simp) (.slice sa (out.length + 1) sc))
        have hv := fun y hy => SL.row_bounds s4 y hy
        have hst2 := Hstep.out
        rw [if_neg (by simp [hq])] at hst2
        have hne : ∀ y, y < Wc.heap.size → y ≠ w.heap.size + 2 → y ∉ ((w.heap.size + 2) :: v.ownBlock.toList) := fun y h1 h2 h3 => by
          rcases List.mem_cons.1 h3 with h | h
          · exact h2 h
          · have := (hv y h).1; omega
        have hat' : ∀ y, sa = some y → y.block ∈ v.ownBlock.toList ∨ w5.heap.size < y.block := fun y hy => by
          subst hy
          rcases hat with h | h
          · left; rw [← h]; simp [Value.ownBlock]
          · right; simp [Value.ownBlock] at h; omega
        refine ⟨keeps_cells hG (fun y hy => ?_), ⟨?_, ?_, ?_, ?_⟩, hB.trans (hG.belowE hB.size (fun y hy => ?_)), Nat.le_trans hz hG.size⟩
        · rcases List.mem_cons.1 hy with h | h
          · left; omega
          · right; exact row_cells s4 y h
        · rw [hst2]
          refine ⟨a1, n1, c1, _, heap_chg s1 hG (hne _ (by omega) (by omega)), s2.chg hG (fun y hy => ?_), SL.heap_set kO6 _, ?_, fun y hy => ⟨(s5 y hy).1, (s5 y hy).2.1, fun h => ?_⟩⟩
          · have h1 := s5 y hy
            simp only [List.mem_cons, not_or]
            exact ⟨h1.2.1, h1.2.2⟩
          · simp only [List.length_append, List.length_cons, List.length_nil, List.map_append]
            exact SL.row_set (p := ⟨w.heap.size + 2, 0, none⟩) ho (fun h => by have h9 := (SL.row_bounds ho (w.heap.size + 2) h).1; omega) _
          · have h1 := s5 y hy
            have h2 := (s2.at_ y hy).2.1
            simp only [Option.mem_toList] at h
            cases sa with
            | none => simp [Value.ownBlock] at h
            | some z =>
              simp [Value.ownBlock] at h
              rcases hat' z rfl with h3 | h3
              · exact h1.2.2 (by rw [← h]; exact h3)
              · omega
        · exact heap_chg s6 hG (hne _ (by omega) (by omega))
        · exact heap_chg s7 hG (hne _ (by omega) (by omega))
        · exact SL.row_stab s8 fun y hy => hG.block y (SL.row_bounds s8 y hy).2 (by
            cases hida : ida with
            | none => rw [hida] at hy; simp [Value.ownBlock] at hy
            | some z =>
              rw [hida] at hy
              simp [Value.ownBlock] at hy
              have h1 := hia z hida
              exact hne _ (by omega) (by omega))
        · rcases List.mem_cons.1 hy with h | h
          · omega
          · have := (hv y h).1; omega
  · rintro D j W2 hD rfl ⟨hL, hB, hz⟩ hdef
    obtain ⟨⟨a1, n1, c1, v, s1, s2, s3, s4, s5⟩, s6, s7, s8⟩ := hL
    have zO := (Array.getElem?_eq_some_iff.1 s3).1
    have cO := (SL.cells_of s3).1 0
    simp at cO
    have hol := loAt_len (st := st) (bs := bs) 0
    have hR := greverse_any v _ _ _ W2 s4 (by omega)
    obtain ⟨sa, sc, rfl, hsa⟩ := owns_slice s4
    have hlen : (loAt st bs 0).2.length = (loL st bs).length := by simp [loL]
    rw [show (loAt st bs 0).2.reverse = loL st bs from rfl, hlen] at hR
    rw [hlen] at cO s3
    go_wp2_with (go_at_call 84; refine hR.mono ?_; rintro e w6 ⟨rfl, ho6, hC6⟩
                 have kO := heap_chg s3 hC6 (fun h => by
                   cases hs : sa with
                   | none => rw [hs] at h; simp [Value.ownBlock] at h
                   | some z => rw [hs] at h; simp [Value.ownBlock] at h; have := (hsa z hs).1; omega)
                 have cO6 := (SL.cells_of kO).1 0
                 simp at cO6)
    have hB6 : Below w.heap.size w w6 := hB.trans (hC6.belowE hB.size (fun y hy => by have h9 := (SL.row_bounds s4 y (by rw [hlen]; exact hy)).1; have := hBc.size; omega))
    have hdef6 := heap_chg hdef hC6 (fun h => by
      obtain ⟨cs, t, f, hc⟩ := row_cells s4 D (by rw [hlen]; exact h)
      rw [hdef] at hc; cases hc)
    refine leaves_marks (B := Wc.heap.size) (by simp) (fun W => Below w.heap.size w W ∧ W.ownsRow Wc.heap.size 3 1 (.slice sa (loL st bs).length sc) (loL st bs).length ((loL st bs).map (.int .i64))) ?_ ?_ _ w6 ⟨by simp; exact ⟨hD, hdef6⟩, by simp⟩ ⟨hB6, ho6⟩
    · rintro W3 r hr ⟨a1, a2⟩ hd
      have hg := grownBy_putObj' W3 r (.deferred none)
      refine ⟨a1.grown hg a1.size (fun k hk => by cases hk; have := hBc.size; omega), row_keepC a2 (.of_grown hg fun k hk => by cases hk; exact ⟨_, hd, rfl⟩)⟩
    · rintro W3 ⟨a1, a2⟩
      exact ⟨_, by simp [results, Tryz.results61], _, rfl, SL.row_base a2 hBc.size, a1⟩
end Go.Proofs.YtlkcfohmoeadbaaGreat

/-
  Gauge, walked: Rests.
-/
namespace Go.Proofs.YtlkcfohmoeadbaaGreat
open Go.RowKit Go.Shelf
set_option maxHeartbeats 1000000
set_option maxRecDepth 100000

theorem grests11_any (p : Int) (a : Option Addr) (n cap : Nat) (bs : List Bd) (x y q : Int) (XB YB QB : Nat) (w : World) (hb : BdsAt w a n cap bs) (hs : Sys p bs) (hx0 : 0 ≤ x) (hx1 : x < p) (hy0 : 0 ≤ y) (hy1 : y < p)
    (cx : w.cell? ⟨XB, 0, none⟩ = some (.int .i64 x)) (cy : w.cell? ⟨YB, 0, none⟩ = some (.int .i64 y)) (cq : w.cell? ⟨QB, 0, none⟩ = some (.int .i64 q)) :
    Calls Tryz.prog 62 #[.agg #[.int .i64 p, .slice a n cap], .pointer (some ⟨XB, 0, none⟩), .pointer (some ⟨YB, 0, none⟩), .pointer (some ⟨QB, 0, none⟩)] w fun e w' => e = .returned (.bool (gD p bs x y == q)) ∧ Below w.heap.size w w' := by
  have hbx := hb.below (w' := w.alloc (Obj.cells #[.int .i64 p, .slice a n cap] 24)) ((Below.refl _ _).alloc (Nat.le_refl _) _)
  have z1 := World.block_lt_of_cell? w _ cx
  have z2 := World.block_lt_of_cell? w _ cy
  have z3 := World.block_lt_of_cell? w _ cq
  simp only at z1 z2 z3
  go_enter Tryz.func62, Tryz.ntmps62
  go_wp2_with fail
  refine SL.rule (by kernel_rfl) [] [6, 7, 8, 9, 10, 11, 5] [SL.pu 6 [] (.agg #[.int .i64 p, .slice a n cap]), SL.pu 7 [] (.int .i64 x), SL.pu 8 [] (.int .i64 y), SL.pu 9 [0, 1, 2] (.int .i64 (gD p bs x y)), SL.pu 10 [] (.int .i64 q), SL.pu 11 [3, 4] (.bool (gD p bs x y == q)), SL.pu 5 [5] (.bool (gD p bs x y == q))]
    [6] (by kernel_rfl) (by kernel_rfl) (fun _ => []) (SL.none_held rfl) (by simp) ?_ ?_
  · refine ⟨?_, ?_, ?_, ?_, ?_, ?_, ?_, trivial⟩
    all_goals refine SL.ob fun us w' Fe hG hu hd hv K hK => ?_
    all_goals simp [SL.frame, SL.put', SL.Used, SL.Seen, SL.pu, SL.row, SL.box, SL.rowIn, SL.boxIn, SL.boxAt, SL.boxAtIn, Bd.v, Bd.cs] at hu hv hK ⊢
    all_goals (have hbw := hbx.below hG.below')
    all_goals (have hcc := (bcell hG.below').1)
    all_goals (have g0 : w'.cell? ⟨w.heap.size, 0, none⟩ = some (.int .i64 p) := by rw [hcc _ _ (by simp)]; simp [go_sem])
    all_goals (have g1 : w'.cell? ⟨w.heap.size, 1, none⟩ = some (.slice a n cap) := by rw [hcc _ _ (by simp)]; simp [go_sem])
    all_goals (have g2 : w'.cell? ⟨XB, 0, none⟩ = some (.int .i64 x) := by rw [hcc _ _ (by simp; omega)]; simp [go_sem, *])
    all_goals (have g3 : w'.cell? ⟨YB, 0, none⟩ = some (.int .i64 y) := by rw [hcc _ _ (by simp; omega)]; simp [go_sem, *])
    all_goals (have g4 : w'.cell? ⟨QB, 0, none⟩ = some (.int .i64 q) := by rw [hcc _ _ (by simp; omega)]; simp [go_sem, *])
    all_goals clear hcc
    all_goals try (go_step; refine hK _ _ _ _ (by simp [Act.put, *]; done) (SL.Chg.refl _ _) rfl rfl (by simp))
    · go_step
      refine (ggreatest_any p a n cap bs x y _ hbw hs hx0 hx1 hy0 hy1).mono ?_
      rintro e w2 ⟨rfl, hb2⟩
      exact hK _ _ w2 _ (by simp [Act.put, *]; done) (.of_below hb2) rfl rfl (by simp)
  · intro us w' Fs hG hu hbd hd
    simp [SL.frame, SL.put', SL.Used, SL.Seen, SL.pu, SL.row, SL.box, SL.rowIn, SL.boxIn, SL.boxAt, SL.boxAtIn, Bd.v, Bd.cs] at hu ⊢
    obtain ⟨u5, _⟩ := hu
    simp only [u5]
    go_wp2
    refine bodyPost_ret (v := .bool (gD p bs x y == q)) (by simp [results, Tryz.results62, go_sem, *]) rfl ⟨rfl, ((Below.refl _ w).alloc (Nat.le_refl _) _).trans (hG.below'.mono (by simp))⟩

def rstX (x y : Int) (up : Bool) : Int := if up then x else y
def rstL (p : Int) (bs : List Bd) (x y : Int) (up : Bool) : List Int :=
  if gD p bs (rstX x y up) (rstX y x up) = FAR then [] else loL (fun t => gD p t (rstX x y up) (rstX y x up) == gD p bs (rstX x y up) (rstX y x up)) bs

theorem chk_bids {p : Int} {bs : List Bd} (h : chk p bs = 0) : ∀ b ∈ bs, 0 ≤ b.bid ∧ b.bid ≤ 1000000 := by
  unfold chk at h
  split at h
  · omega
  · split at h
    · omega
    · split at h
      · rename_i h3
        intro b hb
        have h4 := List.all_eq_true.1 h3 b hb
        simp only [Bd.ok, Bool.and_eq_true, withinB_iff] at h4
        exact h4.2
      · omega

theorem SL.Chg.mono {E F : List Nat} {w w' : World} (h : SL.Chg E w w') (hE : ∀ k ∈ E, k ∈ F) : SL.Chg F w w' := ⟨h.os, h.tape, h.output, h.size, fun k hk hn => h.block k hk (fun hm => hn (hE k hm))⟩

theorem gRests1_any (p : Int) (a : Option Addr) (n cap : Nat) (bs : List Bd) (x y : Int) (up : Bool) (UB BB BA SB OB : Nat) (w1 : World) (h0 : chk p bs = 0) (hb : BdsAt w1 a n cap bs) (hxy : both p x y = true)
    (c0 : w1.cell? ⟨SB, 0, none⟩ = some (.int .i64 p)) (c1 : w1.cell? ⟨SB, 1, none⟩ = some (.slice a n cap)) (cu : w1.cell? ⟨UB, 0, none⟩ = some (.bool up)) (hA : w1.heap[BA]? = some (.cells #[.int .i64 x] 3 (0, 0))) (hBb : w1.heap[BB]? = some (.cells #[.int .i64 y] 3 (0, 0)))
    (hO : w1.heap[OB]? = some (.cells #[.slice none 0 0] 27 (0, 0))) (hax : ∀ z, a = some z → z.block ∉ [BA, BB, OB]) (n1 : BA ≠ BB) (n2 : OB ≠ BA) (n3 : OB ≠ BB) (n4 : SB ∉ [BA, BB, OB]) :
    Calls Tryz.prog 60 #[.pointer (some ⟨UB, 0, none⟩), .pointer (some ⟨BB, 0, none⟩), .pointer (some ⟨BA, 0, none⟩), .pointer (some ⟨SB, 0, none⟩), .pointer (some ⟨OB, 0, none⟩)] w1 fun e w' => e = .returned (.tuple #[]) ∧ SL.Chg [BA, BB, OB] w1 w' ∧
      ∃ v, w'.heap[OB]? = some (.cells #[v] 27 (0, 0)) ∧ w'.ownsRow w1.heap.size 3 1 v (rstL p bs x y up).length ((rstL p bs x y up).map (.int .i64)) := by
  obtain ⟨⟨h1, h2⟩, h3, h4⟩ := both_in hxy
  have hmf := makeFunc_run
  have hs := Sys.of_chk h0
  have zA := (Array.getElem?_eq_some_iff.1 hA).1
  have zB := (Array.getElem?_eq_some_iff.1 hBb).1
  have zO := (Array.getElem?_eq_some_iff.1 hO).1
  have zS := World.block_lt_of_cell? w1 _ c0
  have zU := World.block_lt_of_cell? w1 _ cu
  simp only at zS zU
  have cA := (SL.cells_of hA).1 0
  have cB := (SL.cells_of hBb).1 0
  have fA := (SL.cells_of hA).2
  have fB := (SL.cells_of hBb).2
  simp at cA cB
  have n4' := n4
  simp at n4
  obtain ⟨m1, m2, m3⟩ := n4
  have n4 : SB ≠ BA ∧ SB ≠ BB ∧ SB ≠ OB := ⟨m1, m2, m3⟩
  have Hw1 := Lib.hid (And.intro hA hBb)
  cases up with
  | true =>
    have hCW : SL.Chg [BA, BB] w1 w1 := .refl _ _
    have hGr := fun W1 (hb1 : BdsAt W1 a n cap bs) => ggreatest_any p a n cap bs x y W1 hb1 hs (by omega) (by omega) (by omega) (by omega)
    have hst : ∀ (qB : Nat) (q : Int) (W3 : World) (cq : W3.cell? ⟨qB, 0, none⟩ = some (.int .i64 q)) (xa : W3.cell? ⟨BA, 0, none⟩ = some (.int .i64 x)) (xb : W3.cell? ⟨BB, 0, none⟩ = some (.int .i64 y)) (W : World) (a' : Option Addr) (n' c' : Nat) (bs' : List Bd), Below W3.heap.size W3 W → BdsAt W a' n' c' bs' → Sys p bs' →
        Calls Tryz.prog 62 (#[.agg #[.int .i64 p, .slice a' n' c']] ++ #[.pointer (some ⟨BA, 0, none⟩), .pointer (some ⟨BB, 0, none⟩), .pointer (some ⟨qB, 0, none⟩)]) W fun e w' => e = .returned (.bool (gD p bs' x y == q)) ∧ Below W.heap.size W w' := fun qB q W3 cq xa xb W a' n' c' bs' hB hb' hs' =>
      grests11_any p a' n' c' bs' x y q BA BB qB W hb' hs' (by omega) (by omega) (by omega) (by omega) (((bcell hB).1 _ _ (World.block_lt_of_cell? W3 _ xa)).trans xa) (((bcell hB).1 _ _ (World.block_lt_of_cell? W3 _ xb)).trans xb) (((bcell hB).1 _ _ (World.block_lt_of_cell? W3 _ cq)).trans cq)
    have hrng := gD_range hs (x := x) (y := y) (by omega) (by omega) (by omega) (by omega)
    have hL : rstL p bs x y true = if gD p bs x y = FAR then [] else loL (fun t => gD p t x y == gD p bs x y) bs := rfl
    rw [hL]
    clear hL
    generalize gD p bs x y = q at *
    go_enter Tryz.func60, Tryz.ntmps60
    have zW := hCW.size
    have yS := (SL.Chg.cellsE hCW).1 SB 0 zS (by simp; exact ⟨n4.1, n4.2.1⟩)
    have kS0 : w1.cell? ⟨SB, 0, none⟩ = some (.int .i64 p) := ((SL.Chg.cellsE hCW).1 SB 0 zS (by simp; exact ⟨n4.1, n4.2.1⟩)).trans c0
    have kS1 : w1.cell? ⟨SB, 1, none⟩ = some (.slice a n cap) := ((SL.Chg.cellsE hCW).1 SB 1 zS (by simp; exact ⟨n4.1, n4.2.1⟩)).trans c1
    have kO : w1.heap[OB]? = some (.cells #[.slice none 0 0] 27 (0, 0)) := heap_chg hO hCW (by simp; exact ⟨n2, n3⟩)
    have hbW : BdsAt w1 a n cap bs := hb.chg hCW (fun z hz => by have := hax z hz; simp at this ⊢; exact ⟨this.1, this.2.1⟩)
    have hG := hGr _ hbW
    clear yS
    by_cases hq : q = 1099511627776
    · subst hq
      go_wp2_with (go_at_call 55; refine hG.mono ?_; rintro e w2 ⟨rfl, hb2⟩)
      have hb3 : Below w1.heap.size w1 (w2.alloc (Obj.cells #[.int .i64 1099511627776] 3)) := hb2.alloc hb2.size _
      refine bodyPost_ret (v := .tuple #[]) (by simp [results, Tryz.results60]) rfl ⟨rfl, (hCW.trans (.of_below hb3)).mono (by simp), .slice none 0 0, (hb3.block _ (by omega)).trans kO, ?_⟩
      try rw [if_pos (show (1099511627776 : Int) = FAR from rfl)]
      exact World.ownsRow_nil _ _ _ _
    · have hq' : (q == 1099511627776) = false := by simpa using hq
      go_wp2_with (first
        | (go_at_call 55; refine hG.mono ?_; rintro e w2 ⟨rfl, hb2⟩
           have hz2 := hb2.size
           have e0 : w2.cell? ⟨SB, 0, none⟩ = some (.int .i64 p) := ((bcell hb2).1 _ _ (by omega)).trans kS0
           have e1 : w2.cell? ⟨SB, 1, none⟩ = some (.slice a n cap) := ((bcell hb2).1 _ _ (by omega)).trans kS1
           have zS2 : SB < w2.heap.size := by omega)
        | (go_at_call 61
           have hb3 : Below w1.heap.size w1 (w2.alloc (Obj.cells #[.int .i64 q] 3)) := hb2.alloc hb2.size _
           have xa : (w2.alloc (Obj.cells #[.int .i64 q] 3)).cell? ⟨BA, 0, none⟩ = some (.int .i64 x) := by
             rw [(bcell hb3).1 _ _ (by omega)]; assumption
           have xb : (w2.alloc (Obj.cells #[.int .i64 q] 3)).cell? ⟨BB, 0, none⟩ = some (.int .i64 y) := by
             rw [(bcell hb3).1 _ _ (by omega)]; assumption
           refine (gleftOut_any p a n cap bs 62 _ (fun t => gD p t x y == q) _ (hbW.below hb3) hs (chk_bids h0) (enters_of Tryz.func62 (by kernel_rfl) rfl) (hst w2.heap.size q _ (by simp [go_sem]) xa xb)).mono ?_
           rintro e w4 ⟨v, rfl, ho4, hb4⟩
           obtain ⟨sa, sc, rfl, hsa⟩ := owns_slice ho4
           have hb5 : Below w1.heap.size w1 w4 := hb3.trans (hb4.mono (by simp; omega))
           have kO4 := (hb5.block _ (by omega)).trans kO
           have fO := (SL.cells_of kO4).2
           have cO := (SL.cells_of kO4).1 0
           simp at cO))
      go_end0
      refine ⟨rfl, ((hCW.trans (.of_below hb5)).mono (by simp)).trans (.setCell _ (by simp) _), _, SL.heap_set kO4 _, ?_⟩
      try rw [if_neg (show q ≠ FAR from hq)]
      exact SL.row_set (p := ⟨OB, 0, none⟩) (SL.row_base ho4 (by simp; omega)) (fun h => by have h9 := (SL.row_bounds ho4 _ h).1; simp at h9; omega) _
  | false =>
    have n1' := n1.symm
    have hGr := fun W1 (hb1 : BdsAt W1 a n cap bs) => ggreatest_any p a n cap bs y x W1 hb1 hs (by omega) (by omega) (by omega) (by omega)
    have hst : ∀ (qB : Nat) (q : Int) (W3 : World) (cq : W3.cell? ⟨qB, 0, none⟩ = some (.int .i64 q)) (xa : W3.cell? ⟨BA, 0, none⟩ = some (.int .i64 y)) (xb : W3.cell? ⟨BB, 0, none⟩ = some (.int .i64 x)) (W : World) (a' : Option Addr) (n' c' : Nat) (bs' : List Bd), Below W3.heap.size W3 W → BdsAt W a' n' c' bs' → Sys p bs' →
        Calls Tryz.prog 62 (#[.agg #[.int .i64 p, .slice a' n' c']] ++ #[.pointer (some ⟨BA, 0, none⟩), .pointer (some ⟨BB, 0, none⟩), .pointer (some ⟨qB, 0, none⟩)]) W fun e w' => e = .returned (.bool (gD p bs' y x == q)) ∧ Below W.heap.size W w' := fun qB q W3 cq xa xb W a' n' c' bs' hB hb' hs' =>
      grests11_any p a' n' c' bs' y x q BA BB qB W hb' hs' (by omega) (by omega) (by omega) (by omega) (((bcell hB).1 _ _ (World.block_lt_of_cell? W3 _ xa)).trans xa) (((bcell hB).1 _ _ (World.block_lt_of_cell? W3 _ xb)).trans xb) (((bcell hB).1 _ _ (World.block_lt_of_cell? W3 _ cq)).trans cq)
    have hrng := gD_range hs (x := y) (y := x) (by omega) (by omega) (by omega) (by omega)
    have hL : rstL p bs x y false = if gD p bs y x = FAR then [] else loL (fun t => gD p t y x == gD p bs y x) bs := rfl
    rw [hL]
    clear hL
    generalize gD p bs y x = q at *
    go_enter Tryz.func60, Tryz.ntmps60
    go_wp2_with fail
    have hCW : SL.Chg [BA, BB] w1 ((w1.setCell ⟨BA, 0, none⟩ (.int .i64 y)).setCell ⟨BB, 0, none⟩ (.int .i64 x)) := (SL.Chg.setCell _ (by simp) _).trans (.setCell _ (by simp) _)
    have kA : ((w1.setCell ⟨BA, 0, none⟩ (.int .i64 y)).setCell ⟨BB, 0, none⟩ (.int .i64 x)).heap[BA]? = some (.cells #[.int .i64 y] 3 (0, 0)) := by
      rw [Below.heap_setCell _ _ _ _ (by simpa using n1)]; exact SL.heap_set hA _
    have kB : ((w1.setCell ⟨BA, 0, none⟩ (.int .i64 y)).setCell ⟨BB, 0, none⟩ (.int .i64 x)).heap[BB]? = some (.cells #[.int .i64 x] 3 (0, 0)) :=
      SL.heap_set ((Below.heap_setCell _ _ _ _ (by simpa using n1.symm)).trans hBb) _
    generalize hWe : (w1.setCell ⟨BA, 0, none⟩ (.int .i64 y)).setCell ⟨BB, 0, none⟩ (.int .i64 x) = W at *
    clear hWe cA cB fA fB
    have cA := (SL.cells_of kA).1 0
    have cB := (SL.cells_of kB).1 0
    simp at cA cB
    have zW := hCW.size
    have yS := (SL.Chg.cellsE hCW).1 SB 0 zS (by simp; exact ⟨n4.1, n4.2.1⟩)
    have kS0 : W.cell? ⟨SB, 0, none⟩ = some (.int .i64 p) := ((SL.Chg.cellsE hCW).1 SB 0 zS (by simp; exact ⟨n4.1, n4.2.1⟩)).trans c0
    have kS1 : W.cell? ⟨SB, 1, none⟩ = some (.slice a n cap) := ((SL.Chg.cellsE hCW).1 SB 1 zS (by simp; exact ⟨n4.1, n4.2.1⟩)).trans c1
    have kO : W.heap[OB]? = some (.cells #[.slice none 0 0] 27 (0, 0)) := heap_chg hO hCW (by simp; exact ⟨n2, n3⟩)
    have hbW : BdsAt W a n cap bs := hb.chg hCW (fun z hz => by have := hax z hz; simp at this ⊢; exact ⟨this.1, this.2.1⟩)
    have hG := hGr _ hbW
    clear yS
    by_cases hq : q = 1099511627776
    · subst hq
      go_wp2_with (go_at_call 55; refine hG.mono ?_; rintro e w2 ⟨rfl, hb2⟩)
      have hb3 : Below W.heap.size W (w2.alloc (Obj.cells #[.int .i64 1099511627776] 3)) := hb2.alloc hb2.size _
      refine bodyPost_ret (v := .tuple #[]) (by simp [results, Tryz.results60]) rfl ⟨rfl, (hCW.trans (.of_below hb3)).mono (by simp), .slice none 0 0, (hb3.block _ (by omega)).trans kO, ?_⟩
      try rw [if_pos (show (1099511627776 : Int) = FAR from rfl)]
      exact World.ownsRow_nil _ _ _ _
    · have hq' : (q == 1099511627776) = false := by simpa using hq
      go_wp2_with (first
        | (go_at_call 55; refine hG.mono ?_; rintro e w2 ⟨rfl, hb2⟩
           have hz2 := hb2.size
           have e0 : w2.cell? ⟨SB, 0, none⟩ = some (.int .i64 p) := ((bcell hb2).1 _ _ (by omega)).trans kS0
           have e1 : w2.cell? ⟨SB, 1, none⟩ = some (.slice a n cap) := ((bcell hb2).1 _ _ (by omega)).trans kS1
           have zS2 : SB < w2.heap.size := by omega)
        | (go_at_call 61
           have hb3 : Below W.heap.size W (w2.alloc (Obj.cells #[.int .i64 q] 3)) := hb2.alloc hb2.size _
           have xa : (w2.alloc (Obj.cells #[.int .i64 q] 3)).cell? ⟨BA, 0, none⟩ = some (.int .i64 y) := by
             rw [(bcell hb3).1 _ _ (by omega)]; assumption
           have xb : (w2.alloc (Obj.cells #[.int .i64 q] 3)).cell? ⟨BB, 0, none⟩ = some (.int .i64 x) := by
             rw [(bcell hb3).1 _ _ (by omega)]; assumption
           refine (gleftOut_any p a n cap bs 62 _ (fun t => gD p t y x == q) _ (hbW.below hb3) hs (chk_bids h0) (enters_of Tryz.func62 (by kernel_rfl) rfl) (hst w2.heap.size q _ (by simp [go_sem]) xa xb)).mono ?_
           rintro e w4 ⟨v, rfl, ho4, hb4⟩
           obtain ⟨sa, sc, rfl, hsa⟩ := owns_slice ho4
           have hb5 : Below W.heap.size W w4 := hb3.trans (hb4.mono (by simp; omega))
           have kO4 := (hb5.block _ (by omega)).trans kO
           have fO := (SL.cells_of kO4).2
           have cO := (SL.cells_of kO4).1 0
           simp at cO))
      go_end0
      refine ⟨rfl, ((hCW.trans (.of_below hb5)).mono (by simp)).trans (.setCell _ (by simp) _), _, SL.heap_set kO4 _, ?_⟩
      try rw [if_neg (show q ≠ FAR from hq)]
      exact SL.row_set (p := ⟨OB, 0, none⟩) (SL.row_base ho4 (by simp; omega)) (fun h => by have h9 := (SL.row_bounds ho4 _ h).1; simp at h9; omega) _
end Go.Proofs.YtlkcfohmoeadbaaGreat
