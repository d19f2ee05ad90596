/-
  Lemmas and walks for the laws on bounds and their sums; the parts' own heads say what each proves, for every input.
-/
import Derived.Test.YtlkcfohmoeadbaaPk21
import Derived.Test.YtlkcfohmoeadbaaPk09
import Derived.Test.YtlkcfohmoeadbaaRows
import Derived.Test.YtlkcfohmoeadbaaChecked
import Derived.Test.YtlkcfohmoeadbaaPk02
import Derived.ProofKit
import Derived.SizedLaws
import Derived.Lib.SmallJoins
import Derived.Deep.Slices
import Derived.Deep.Fields
import Derived.Test.YtlkcfohmoeadbaaPk20
set_option linter.unusedSimpArgs false
set_option linter.unusedVariables false
set_option linter.unnecessarySimpa false
/-
  The reference's solve, Solve, walked.
-/
namespace Go.Proofs.Ytlkcfohmoeadbaa
open Go.RowKit Go.Shelf
set_option maxHeartbeats 1000000
set_option maxRecDepth 100000

def rsol (p : Int) (bs : List Bd) : List Int × Bool := rsettle 1000000000 bs (p + 1).toNat (List.replicate p.toNat 0)

theorem run_make_ints (w : World) (p : Int) (h1 : 1 ≤ p) (h2 : p ≤ 60) : (Instr.makeSlice 27 (.int .i64 p) (.int .i64 p)).run Try.prog w = .ok (.slice (some ⟨w.heap.size, 0, none⟩) p.toNat p.toNat) (w.alloc (.cells (madeCells #[.int .i64 0] p.toNat) 3)) := by
  obtain ⟨i, hi, hz, hs, hb⟩ := info_parts (show (Try.prog.info? 3).map (fun i => (i.zero, i.size, i.bytes)) = some (some (.int .i64 0), 1, 8) by kernel_rfl)
  have h := run_make (P := Try.prog) (w := w) 27 3 i _ Try.underlying27 hi hz .i64 .i64 p p (by omega) (Int.le_refl _) (by rw [hb]; omega) (by omega)
  rw [hs, Nat.mul_one] at h
  exact h
theorem made_row (w : World) (n base : Nat) (hb : base ≤ w.heap.size) (hn : n ≤ 100) : (w.alloc (.cells (madeCells #[.int .i64 0] n) 3)).ownsRow base 3 1 (.slice (some ⟨w.heap.size, 0, none⟩) n n) n ((List.replicate n (0 : Int)).map (.int .i64)) := by
  have h := World.ownsRow_lit (base := base) (e := 3) (size := 1) w (madeCells #[.int .i64 0] n) n hb (by unfold maxLen; omega) (by rw [size_madeCells]; omega)
  rw [toList_madeCells_one] at h
  simpa using h
theorem gi_repl (n : Nat) (j : Int) : gi (List.replicate n 0) j = 0 := by
  unfold gi
  rw [List.getD_eq_getElem?_getD, List.getElem?_replicate]
  split <;> rfl

theorem rsolve_any (p : Int) (a : Option Addr) (n cap : Nat) (bs : List Bd) (w : World) (hb : BdsAt w a n cap bs) (hs : Sys p bs) (hpt : Pts p bs) :
    Calls Try.prog 66 #[.agg #[.int .i64 p, .slice a n cap]] w fun e w' => ∃ v, e = .returned (.tuple #[v, .bool (rsol p bs).2]) ∧ Below w.heap.size w w' ∧ w'.ownsRow w.heap.size 3 1 v (rsol p bs).1.length ((rsol p bs).1.map (.int .i64)) := by
  have hp1 := hs.p1
  have hp2 := hs.p2
  have hb0 : Below w.heap.size w (w.alloc (Obj.cells #[.int .i64 p, .slice a n cap] 24)) := (Below.refl _ _).alloc (Nat.le_refl _) _
  have hbx := hb.below hb0
  have hmk := fun w => run_make_ints w p hp1 hp2
  have hsum := fun (w : World) (a2 : Option Addr) (c2 : Nat) (h : BdsAt w a n cap bs) (hx : IntsAt w a2 p.toNat c2 (List.replicate p.toNat 0)) => rsums_any p a n cap bs a2 p.toNat c2 (List.replicate p.toNat 0) 1000000000 w h hs hpt hx (by simp) rfl (fun j _ _ => by rw [gi_repl]; omega)
  change ∀ (w : World) (a2 : Option Addr) (c2 : Nat) (_ : BdsAt w a n cap bs) (_ : IntsAt w a2 p.toNat c2 (List.replicate p.toNat 0)), Calls Try.prog 118 #[.agg #[.int .i64 p, .slice a n cap], .slice a2 p.toNat c2, .int .i64 1000000000] w fun e w' => ∃ v, e = .returned (.tuple #[v, .bool (rsol p bs).2]) ∧ Below w.heap.size w w' ∧ w'.ownsRow w.heap.size 3 1 v (rsol p bs).1.length ((rsol p bs).1.map (.int .i64)) at hsum
  generalize rsol p bs = R at *
  obtain ⟨Rl, Rf⟩ := R
  simp only at hsum ⊢
  go_enter Try.func66, Try.ntmps66
  go_wp2_with fail
  refine SL.rule (by kernel_rfl) [] [4, 5, 6, 7, 8, 9, 10, 2, 3] [SL.pu 4 [] (.agg #[.int .i64 p, .slice a n cap]), SL.pu 5 [] (.pointer (some ⟨w.heap.size, 0, none⟩)), SL.pu 6 [1] (.int .i64 p), SL.row 7 [2] [] (w.heap.size + 1) 3 1 p.toNat ((List.replicate p.toNat (0 : Int)).map (.int .i64)),
    SL.rowSee 8 [0, 3] [] (w.heap.size + 1) 3 1 Rl.length (Rl.map (.int .i64)) (fun u => .tuple #[u, .bool Rf]), SL.row 9 [4] [4] (w.heap.size + 1) 3 1 Rl.length (Rl.map (.int .i64)), SL.puSee 10 [] [4] (.bool Rf), SL.row 2 [5] [5] (w.heap.size + 1) 3 1 Rl.length (Rl.map (.int .i64)), SL.pu 3 [6] (.bool Rf)]
    [7, 8] (by kernel_rfl) (by kernel_rfl) (fun _ => []) (SL.none_held rfl) (by simp) ?_ ?_
  · refine ⟨?_, ?_, ?_, ?_, ?_, ?_, ?_, ?_, ?_, trivial⟩
    all_goals refine SL.ob fun us w' Fe hG hu hd hv K hK => ?_
    all_goals simp [SL.frame, SL.put', SL.Used, SL.Seen, SL.pu, SL.row, SL.box, SL.rowIn, SL.boxIn, SL.boxAt, SL.boxAtIn, Bd.v, Bd.cs, SL.rowSee, SL.puSee] at hu hv hK ⊢
    all_goals (have hbw := hbx.below hG.below')
    all_goals (have hsz := hG.size; simp only [World.size_drew, World.size_alloc] at hsz)
    all_goals (have g0 : w'.cell? ⟨w.heap.size, 0, none⟩ = some (.int .i64 p) := by rw [(bcell hG.below').1 _ _ (by simp)]; simp [go_sem])
    all_goals (have g1 : w'.cell? ⟨w.heap.size, 1, none⟩ = some (.slice a n cap) := by rw [(bcell hG.below').1 _ _ (by simp)]; simp [go_sem])
    all_goals try (go_step; refine hK _ _ _ _ (by simp [Act.put, *]; done) (SL.Chg.refl _ _) rfl rfl (by simp))
    · go_step
      have h := made_row w' p.toNat (w.heap.size + 1) (by omega) (by omega)
      exact hK _ (.slice (some ⟨w'.heap.size, 0, none⟩) p.toNat p.toNat) _ _ (by simp [Act.put, *]; done) (.alloc _ _ _) (by simpa using h) rfl (by simp [Value.ownBlock])
    · obtain ⟨⟨u1, _⟩, u2, _⟩ := hu
      obtain ⟨sa, c, hsl, _⟩ := owns_slice u2
      go_step
      refine (hsum w' sa c hbw (IntsAt.of_owns (by rw [← hsl]; simpa using u2) (by simp; omega))).mono ?_
      rintro e w2 ⟨v, rfl, hb2, ho2⟩
      exact hK _ (.tuple #[v, .bool Rf]) w2 _ (by simp [Act.put, *]; done) _ rfl (.of_below hb2) _ rfl (SL.row_base ho2 (by omega)) rfl (fun k hk => SL.row_bounds ho2 k (by simpa using hk))
    · obtain ⟨y, u1, u2, u3⟩ := hu
      go_step
      refine hK _ y _ _ (by simp [Act.put, *]; done) (.refl _ _) u2 rfl ?_
      rw [u3]; exact fun k h => .inl h
    · obtain ⟨y, u1⟩ := hv
      go_step
      exact hK _ _ _ _ (by simp [Act.put, *]; done) (.refl _ _) rfl rfl (by simp)
    · obtain ⟨u1, u2⟩ := hu
      go_step
      refine hK _ _ _ _ (by simp [Act.put, *]; done) (.refl _ _) u1 rfl ?_
      rw [u2]; exact fun k h => .inl h
  · intro us w' Fs hG hu hbd hd
    simp [SL.frame, SL.put', SL.Used, SL.Seen, SL.pu, SL.row, SL.box, SL.rowIn, SL.boxIn, SL.boxAt, SL.boxAtIn, Bd.v, Bd.cs, SL.rowSee, SL.puSee] at hu ⊢
    obtain ⟨⟨u1, _⟩, u2, _⟩ := hu
    simp only [u2]
    clear hbd hd
    go_wp2
    obtain ⟨sa, c, hsl, _⟩ := owns_slice u1
    refine bodyPost_ret (v := .tuple #[us 2, .bool Rf]) (by simp [results, Try.results66, go_sem, *]) rfl ⟨us 2, rfl, hb0.trans (hG.below'.mono (by simp)), SL.row_base u1 (by omega)⟩

theorem rSolve_any (p : Int) (a : Option Addr) (n cap : Nat) (bs : List Bd) (w : World) (hb : BdsAt w a n cap bs) :
    Calls Try.prog 23 #[.agg #[.int .i64 p, .slice a n cap]] w fun e w' => ∃ v, e = .returned (.tuple #[v, .bool (decide (chk p bs = 0) && (rsol p bs).2), .int .i64 (chk p bs)]) ∧ Below w.heap.size w w' ∧
      w'.ownsRow w.heap.size 3 1 v (if chk p bs = 0 then (rsol p bs).1 else []).length ((if chk p bs = 0 then (rsol p bs).1 else []).map (.int .i64)) := by
  have hbx := hb.below (w' := w.alloc (Obj.cells #[.int .i64 p, .slice a n cap] 24)) ((Below.refl _ _).alloc (Nat.le_refl _) _)
  have hC := rcheck_any p a n cap bs _ hbx
  by_cases h0 : chk p bs = 0
  · have hS := fun w1 (hb1 : BdsAt w1 a n cap bs) => rsolve_any p a n cap bs w1 hb1 (Sys.of_chk h0) (Pts.of_chk h0)
    simp only [h0, if_true, decide_true, Bool.true_and] at hC ⊢
    generalize rsol p bs = R at *
    obtain ⟨Rl, Rf⟩ := R
    simp only at hS ⊢
    go_enter Try.func23, Try.ntmps23
    go_wp2_with (first
      | (go_at_call 65; refine (hC).mono ?_; rintro e w1 ⟨rfl, hb1⟩; obtain ⟨hc1, hf1⟩ := bcell hb1; have hz1a := lt_size hb1 (b := w.heap.size) (by first | assumption | omega | (simp; done) | (simp; omega)))
      | (go_at_call 66; refine (hS _ (hbx.below hb1)).mono ?_; rintro e w2 ⟨v, rfl, hb2, ho⟩))
    refine bodyPost_ret (v := .tuple #[v, .bool Rf, .int .i64 0]) (by simp [results, Try.results23, go_sem, *]) rfl ⟨v, rfl, ?_, SL.row_base ho (by have := hb1.size; simp at this; omega)⟩
    exact (((Below.refl _ w).alloc (Nat.le_refl _) _).trans (hb1.mono (by simp))).trans (hb2.mono (by have := hb1.size; simp at this; omega))
  · have h0' : (chk p bs == 0) = false := by simpa using h0
    simp only [if_neg h0, decide_eq_false h0, Bool.false_and]
    generalize chk p bs = c at *
    go_enter Try.func23, Try.ntmps23
    go_wp2_with (go_at_call 65; refine (hC).mono ?_; rintro e w1 ⟨rfl, hb1⟩; obtain ⟨hc1, hf1⟩ := bcell hb1; have hz1a := lt_size hb1 (b := w.heap.size) (by first | assumption | omega | (simp; done) | (simp; omega)))
    refine bodyPost_ret (v := .tuple #[.slice none 0 0, .bool false, .int .i64 c]) (by simp [results, Try.results23, go_sem, *]) rfl ⟨_, rfl, ?_, World.ownsRow_nil _ _ _ _⟩
    exact ((Below.refl _ w).alloc (Nat.le_refl _) _).trans (hb1.mono (by simp))
end Go.Proofs.Ytlkcfohmoeadbaa

/-
  Plain laws: the reference's sums and the program's are the same, where what matters lies below what stands for nothing.
-/
namespace Go.Proofs.Ytlkcfohmoeadbaa

theorem gi_take {l : List Int} {P : Nat} {j : Int} (h0 : 0 ≤ j) (h1 : j.toNat < P) : gi (l.take P) j = gi l j := by
  unfold gi
  simp [List.getD_eq_getElem?_getD, List.getElem?_take, h1]
theorem take_set' {l : List Int} {P i : Nat} {v : Int} : (l.set i v).take P = (l.take P).set i v := by
  rw [List.take_set]

/-- k bounds of a pass, side by side: what is low is seen by both in the same way. -/
theorem rpass_pass {p far : Int} {bs : List Bd} {s : RL} (hl : s.r.length = 60) (hp : p ≤ 60) (hin : ∀ b ∈ bs, b.inr) (hpt : Pts p bs) (hfar : far ≤ FAR)
    (hsee : ∀ j : Int, 0 ≤ j → j < p → gi s.r j < far ∨ FAR ≤ gi s.r j) (hlow : ∀ k, k ≤ bs.length → ∀ j : Int, 0 ≤ j → j < p → gi (s.pass FAR bs k).r j < FAR → gi (s.pass FAR bs k).r j < far) :
    ∀ k, k ≤ bs.length → (rpass far bs (s.r.take p.toNat) k).1 = (s.pass FAR bs k).r.take p.toNat ∧ ((rpass far bs (s.r.take p.toNat) k).2 = true → (s.pass FAR bs k).r = s.r) ∧ ((rpass far bs (s.r.take p.toNat) k).2 = false → ∃ j : Int, 0 ≤ j ∧ j < 60 ∧ gi (s.pass FAR bs k).r j < gi s.r j)
  | 0, _ => ⟨rfl, fun _ => rfl, fun h => by simp [rpass] at h⟩
  | k + 1, hk => by
    obtain ⟨h1, h2, h3⟩ := rpass_pass hl hp hin hpt hfar hsee hlow k (by omega)
    have hm : bs.getD k default ∈ bs := by
      rw [List.getD_eq_getElem?_getD, List.getElem?_eq_getElem (by omega)]
      exact List.getElem_mem _
    have hb := hin _ hm
    have hq := hpt _ hm
    have hlen := (RL.pass_le hl hin k (by omega)).1
    have hstep := RL.step_le (k := k) hlen hb
    have hop : opens far (rpass far bs (s.r.take p.toNat) k).1 (bs.getD k default) = opens FAR (s.pass FAR bs k).r (bs.getD k default) := by
      rw [h1]
      unfold opens
      rw [gi_take hq.1 (by omega), gi_take hq.2.2.1 (by omega)]
      have hlw := hlow k (by omega) _ hq.1 hq.2.1
      congr 1
      rw [Bool.eq_iff_iff]
      simp only [decide_eq_true_eq]
      constructor <;> intro h
      · omega
      · exact hlw h
    simp only [rpass, RL.pass]
    rw [hop]
    cases ho : opens FAR (s.pass FAR bs k).r (bs.getD k default) with
    | true =>
      simp only [if_true]
      refine ⟨?_, fun h => by simp at h, fun _ => ?_⟩
      · simp only [RL.step, ho, if_true, RL.upd]
        rw [take_set', h1, gi_take hq.1 (by omega)]
      · refine ⟨(bs.getD k default).tow, hb.t0, hb.t1, ?_⟩
        have a1 := hstep.2.1 ho
        have a2 := (RL.pass_le hl hin k (by omega)).2 _ hb.t0 hb.t1
        omega
    | false =>
      simp only [Bool.false_eq_true, if_false]
      have e : ((s.pass FAR bs k).step FAR k (bs.getD k default)) = s.pass FAR bs k := by unfold RL.step; rw [if_neg (by rw [ho]; simp)]
      rw [e]
      exact ⟨h1, h2, h3⟩

theorem rsettle_settle {p far : Int} {bs : List Bd} (hp : p ≤ 60) (hin : ∀ b ∈ bs, b.inr) (hpt : Pts p bs) (hfar : far ≤ FAR) (I : RL → Prop)
    (hI : ∀ s, I s → s.r.length = 60 ∧ (∀ j : Int, 0 ≤ j → j < p → gi s.r j < far ∨ FAR ≤ gi s.r j) ∧ (∀ k, k ≤ bs.length → ∀ j : Int, 0 ≤ j → j < p → gi (s.pass FAR bs k).r j < FAR → gi (s.pass FAR bs k).r j < far) ∧ I (s.pass FAR bs bs.length)) :
    ∀ (n : Nat) (s : RL), I s → (rsettle far bs n (s.r.take p.toNat)).2 = (settle FAR bs n s).2 ∧ ((settle FAR bs n s).2 = true → (rsettle far bs n (s.r.take p.toNat)).1 = (settle FAR bs n s).1.r.take p.toNat) ∧ ((settle FAR bs n s).2 = false → (rsettle far bs n (s.r.take p.toNat)).1 = [])
  | 0, s, _ => ⟨rfl, fun h => by simp [settle] at h, fun _ => rfl⟩
  | n + 1, s, hs => by
    obtain ⟨h1, h2, h3, h4⟩ := hI s hs
    obtain ⟨a1, a2, a3⟩ := rpass_pass h1 hp hin hpt hfar h2 h3 bs.length (Nat.le_refl _)
    simp only [rsettle, settle]
    cases hf : (rpass far bs (s.r.take p.toNat) bs.length).2 with
    | true =>
      rw [if_pos rfl, if_pos (a2 hf)]
      exact ⟨rfl, fun _ => a1, fun h => by simp at h⟩
    | false =>
      have hne : ¬ (s.pass FAR bs bs.length).r = s.r := fun e => by
        obtain ⟨j, _, _, h⟩ := a3 hf
        rw [e] at h
        exact absurd h (Int.lt_irrefl _)
      rw [if_neg (by simp), if_neg hne, a1]
      exact rsettle_settle hp hin hpt hfar I hI n _ h4

theorem rsol_gsol {p : Int} {bs : List Bd} (hs : Sys p bs) (hpt : Pts p bs) : (rsol p bs).2 = okB p bs ∧ (okB p bs = true → (rsol p bs).1 = solR p bs) ∧ (okB p bs = false → (rsol p bs).1 = []) := by
  have hp := hs.p2
  have h := rsettle_settle (far := 1000000000) hp hs.inr hpt (by unfold FAR; omega) (fun s => s.r.length = 60 ∧ ∀ j : Int, 0 ≤ j → j < 60 → gi s.r j ≤ 0)
    (fun s ⟨h1, h2⟩ => ⟨h1, fun j j0 j1 => .inl (by have := h2 j j0 (by omega); omega), fun k hk j j0 j1 _ => by
      have a := (RL.pass_le h1 hs.inr k hk).2 j j0 (by omega)
      have b := h2 j j0 (by omega)
      omega, (RL.pass_le h1 hs.inr bs.length (Nat.le_refl _)).1, fun j j0 j1 => by
      have a := (RL.pass_le h1 hs.inr bs.length (Nat.le_refl _)).2 j j0 j1
      have b := h2 j j0 j1
      omega⟩) (p + 1).toNat ⟨List.replicate 60 0, List.replicate 60 (-1), 0⟩ ⟨by simp, fun j _ _ => by show gi (List.replicate 60 0) j ≤ 0; rw [gi_repl]; omega⟩
  have e : (List.replicate 60 (0 : Int)).take p.toNat = List.replicate p.toNat 0 := by rw [List.take_replicate, Nat.min_eq_left (by omega)]
  simp only [] at h
  rw [e] at h
  exact h
end Go.Proofs.Ytlkcfohmoeadbaa

/-
  Arguments opened: a System by value is a number of points and a slice of bounds that lies in the world.
-/
namespace Go.Proofs.Ytlkcfohmoeadbaa
open Go.ChangeShapes Go.WideShapes Go.ChangeAt Go.RowKit Go.Joins Go.Deep
set_option maxRecDepth 100000

theorem Try.own : ownKnob Try.prog.godebug = none := by kernel_rfl
theorem Try.laidOut : laidOutB Try.prog = true := by kernel_rfl
theorem Try.cellsSys : Try.prog.cellsOf 24 = 2 := by kernel_rfl
theorem Try.cellsBd : Try.prog.cellsOf 39 = 4 := by kernel_rfl
theorem Try.bytesBd : Try.prog.bytesOf 39 = 32 := by kernel_rfl
theorem Try.cellsInt : Try.prog.cellsOf 3 = 1 := by kernel_rfl
theorem Try.cellTypesSys : Try.prog.cellTypes Try.prog.depth 24 = some [3, 22] := by kernel_rfl

section
variable {H : Type} {enc : TypeId × Value → H} {P : Program} {w : World} {base : Nat} {spare : Nat → Bool} {held : Bool}
/-- A slice of structs of one-cell fields, opened (after the guides' block on structs). -/
theorem slice_fields {t e : TypeId} {fs : Array Field} {fuel : Nat} {cs : List Value} {x : DataW H × List MemPlace} (ht : P.underlying t = some (.slice e)) (he : P.underlying e = some (.struct fs))
    (hone : oneCellFields P fs = true) (hC : P.cellsOf e = fs.size) (h : DataW.trod enc P w base spare held fuel t cs = some x) :
    (cs = [.slice none 0 0] ∧ x = (.nil, [])) ∨
    ∃ (a : Addr) (len cap m : Nat) (D : Nat → DataW H) (Pl : Nat → List MemPlace), cs = [.slice (some a) len cap] ∧ len ≤ cap ∧ m = (if spare a.block then cap else len) ∧
      x = (.slice ((List.range len).map D) ((List.range (m - len)).map fun j => D (len + j)), MemPlace.row a (m * fs.size) ++ (List.range m).flatMap Pl) ∧
      ∀ i, i < m → ∀ (j : Nat) (f : Field), fs[j]? = some f → ∃ (v : Value) (y : DataW H × List MemPlace) (n : Nat), w.cell? (a.add (i * fs.size + j)) = some v ∧ DataW.trod enc P w base spare held n f.type [v] = some y := by
  rcases open_slice ht h with h0 | ⟨a, len, cap, m, n, D, Pl, hcs, _, hl, _, hmm, hx, hi⟩
  · exact .inl h0
  · refine .inr ⟨a, len, cap, m, D, Pl, hcs, hl, hmm, by rw [hC] at hx; exact hx, fun i him j f hj => ?_⟩
    obtain ⟨cs', hc, ht'⟩ := hi i him
    rw [hC] at hc
    obtain ⟨ys, n', _, _, _, hyl, hf⟩ := DataW.trod_struct he ht'
    obtain ⟨_, hcl, hat⟩ := World.cells?_some hc
    obtain ⟨ho, hk⟩ := hone_of hone j f hj
    have hjl : j < fs.size := (Array.getElem?_eq_some_iff.1 hj).1
    have hcell := hat j hjl
    have hv : cs'[j]? = some (cs'[j]'(by omega)) := List.getElem?_eq_getElem (by omega)
    have h1 := hf j f hj
    rw [ho, hk] at h1
    have hone' : (cs'.drop j).take 1 = [cs'[j]'(by omega)] := by
      rw [List.drop_eq_getElem_cons (by omega)]
      rfl
    rw [hone'] at h1
    have hys : ys[j]? = some (ys[j]'(by omega)) := List.getElem?_eq_getElem (by omega)
    exact ⟨_, _, _, by rw [← Go.Deep.add_add, hcell, hv], h1.trans hys⟩

/-- An integer's cell, read. -/
theorem int_cell {t : TypeId} {k : IntKind} {n : Nat} {v : Value} {y : DataW H × List MemPlace} (ht : P.underlying t = some (.int k)) (h : DataW.trod enc P w base spare held n t [v] = some y) : ∃ x, v = .int k x ∧ (Lit.int k x).wf = true := by
  obtain ⟨x, e0, _, wa⟩ := DataW.trod_int ht h
  simp at e0
  exact ⟨x, e0, wa⟩
end

theorem slice_block {r : Reach} {w : World} {base : Nat} {x : Value} {a : Addr} {n cap : Nat} (h : Value.okWide Try.prog w r base 24 (.agg #[x, .slice (some a) n cap])) : a.spot = none ∧ a.block < w.heap.size := by
  simp only [Value.okWide, Try.underlying24] at h
  obtain ⟨cs, he, _, ts, h1, _, h2⟩ := h
  rw [Try.cellTypesSys] at h1
  obtain rfl := Option.some.inj h1
  obtain rfl : #[x, .slice (some a) n cap] = cs := by simpa using he
  obtain ⟨u, hu, h3⟩ := h2 1 (.slice (some a) n cap) rfl
  obtain rfl : 22 = u := by simpa using hu
  simp only [Cell.okWide, Try.underlying22, Cell.ok] at h3
  obtain ⟨_, _, _, hsp, row, cells, hsh, _⟩ := h3
  refine ⟨hsp, ?_⟩
  simp only [World.shape?] at hsh
  by_cases hlt : a.block < w.heap.size
  · exact hlt
  · rw [Array.getElem?_eq_none (by omega)] at hsh
    simp at hsh

/-- A System by value. -/
theorem sys_open {H : Type} {enc : TypeId × Value → H} {W : World} {base : Nat} {v : Value} {d : DataW H} {p : List MemPlace} (hv : Value.okWide Try.prog W .any base 24 v)
    (h : DataW.Trod enc Try.prog W 0 (fun _ => true) true 24 v d p) (hs : ∀ n ∈ d.weights Try.prog 24, n ≤ reachBytes) :
    ∃ (pts : Int) (a : Option Addr) (n cap : Nat) (bs : List Bd), v = .agg #[.int .i64 pts, .slice a n cap] ∧ BdsAt W a n cap bs ∧ n ≤ 140737488351232 := by
  have hv0 := hv
  obtain ⟨c0, c1, y0, y1, m, rfl, rfl, rfl, h0, h1⟩ := open_agg2 Try.underlying24 (by kernel_rfl) Try.cellsSys hv h
  obtain ⟨pts, rfl, _⟩ := int_cell Try.underlying3 h0
  rcases slice_fields Try.underlying22 Try.underlying39 (by kernel_rfl) Try.cellsBd h1 with ⟨hcs, hx⟩ | ⟨a, len, cap, m', D, Pl, hcs, hl, hm, hx, hat⟩
  · simp at hcs
    subst hcs
    exact ⟨pts, none, 0, 0, [], rfl, ⟨rfl, by simp, fun _ => ⟨rfl, rfl⟩, fun x hx => by simp at hx⟩, by omega⟩
  · simp at hcs
    subst hcs
    simp only [if_true] at hm
    subst hm
    subst hx
    have hbytes : m' * 32 ≤ reachBytes := by
      have := hs ((((List.range len).map D).length + ((List.range (m' - len)).map fun j => D (len + j)).length) * Try.prog.bytesOf 39) (by
        simp [DataW.weights, Try.underlying24, DataW.weightsEach, Try.underlying22])
      rw [Try.bytesBd] at this
      simp only [List.length_map, List.length_range] at this
      omega
    unfold reachBytes at hbytes
    obtain ⟨hsp, hblk⟩ := slice_block hv0
    have hk : ∀ i, i < m' → ∀ j, j < 4 → ∃ z, W.cell? (a.add (i * 4 + j)) = some (.int .i64 z) := fun i hi j hj => by
      have key := fun (f : Field) (hf : _) (ht : f.type = 3) => hat i hi j f hf
      match j, hj with
      | 0, _ => obtain ⟨v, y, n, e1, e2⟩ := hat i hi 0 _ rfl; obtain ⟨x, rfl, _⟩ := int_cell Try.underlying3 e2; exact ⟨x, e1⟩
      | 1, _ => obtain ⟨v, y, n, e1, e2⟩ := hat i hi 1 _ rfl; obtain ⟨x, rfl, _⟩ := int_cell Try.underlying3 e2; exact ⟨x, e1⟩
      | 2, _ => obtain ⟨v, y, n, e1, e2⟩ := hat i hi 2 _ rfl; obtain ⟨x, rfl, _⟩ := int_cell Try.underlying3 e2; exact ⟨x, e1⟩
      | 3, _ => obtain ⟨v, y, n, e1, e2⟩ := hat i hi 3 _ rfl; obtain ⟨x, rfl, _⟩ := int_cell Try.underlying3 e2; exact ⟨x, e1⟩
    obtain ⟨ab, ao, sp0⟩ := a
    simp only at hsp hblk
    subst hsp
    let Z : Nat → Int := fun k => match W.cell? ⟨ab, ao + k, none⟩ with | some (.int .i64 z) => z | _ => 0
    have hZ : ∀ i, i < m' → ∀ j, j < 4 → W.cell? ⟨ab, ao + (i * 4 + j), none⟩ = some (.int .i64 (Z (i * 4 + j))) := fun i hi j hj => by
      obtain ⟨z, hz⟩ := hk i hi j hj
      have hz' : W.cell? ⟨ab, ao + (i * 4 + j), none⟩ = some (.int .i64 z) := by
        by_cases h0 : i * 4 + j = 0
        · obtain ⟨rfl, rfl⟩ : i = 0 ∧ j = 0 := by omega
          simpa [Addr.add] using hz
        · have h0' : ¬ (i * 4 = 0 ∧ j = 0) := by omega
          simpa [Addr.add, h0, h0'] using hz
      simp only [Z, hz']
    refine ⟨pts, some ⟨ab, ao, none⟩, len, m', (List.range len).map fun i => ⟨Z (i * 4 + 0), Z (i * 4 + 1), Z (i * 4 + 2), Z (i * 4 + 3)⟩, rfl, ⟨by simp, by simp; omega, fun h => by simp at h, fun x hx => ?_⟩, by omega⟩
    obtain rfl := Option.some.inj hx
    refine ⟨rfl, hblk, fun i hi => ?_⟩
    simp only [List.length_map, List.length_range] at hi
    have e : ((List.range len).map fun i => (⟨Z (i * 4 + 0), Z (i * 4 + 1), Z (i * 4 + 2), Z (i * 4 + 3)⟩ : Bd)).getD i default = ⟨Z (i * 4 + 0), Z (i * 4 + 1), Z (i * 4 + 2), Z (i * 4 + 3)⟩ := by
      simp [List.getD, hi]
    rw [e]
    have c0 := hZ i (by omega) 0 (by omega)
    have c1 := hZ i (by omega) 1 (by omega)
    have c2 := hZ i (by omega) 2 (by omega)
    have c3 := hZ i (by omega) 3 (by omega)
    simp only [← Nat.add_assoc] at c0 c1 c2 c3
    exact ⟨by simpa using c0, c1, c2, c3⟩
end Go.Proofs.Ytlkcfohmoeadbaa

/-
  The law GaugeSolves, walked: it returns true.
-/
namespace Go.Proofs.Ytlkcfohmoeadbaa
open Go.RowKit Go.Shelf
set_option maxHeartbeats 2000000
set_option maxRecDepth 100000

theorem solR_small {p : Int} {bs : List Bd} (h : Sys p bs) : (solR p bs).length ≤ 100 := by
  have := h.p2
  unfold solR
  simp
  omega

theorem law_solves (p : Int) (a : Option Addr) (n cap : Nat) (bs : List Bd) (w : World) (hb : BdsAt w a n cap bs) (hn : n ≤ 140737488351232) :
    Calls Try.prog 3 #[.agg #[.int .i64 p, .slice a n cap]] w fun e w' => e = .returned (.bool true) ∧ Below w.heap.size w w' := by
  have hbx := hb.below (w' := w.alloc (Obj.cells #[.int .i64 p, .slice a n cap] 24)) ((Below.refl _ _).alloc (Nat.le_refl _) _)
  have hW := fun w1 => lwide_any p a n cap w1 hn
  by_cases hn4 : n ≤ 403
  · have h1 : decide (n ≤ 403) = true := by simpa using hn4
    simp only [h1] at hW
    have hS := fun w1 (hb1 : BdsAt w1 a n cap bs) => gSolve_any p a n cap bs w1 hb1
    have hR := fun w1 (hb1 : BdsAt w1 a n cap bs) => rSolve_any p a n cap bs w1 hb1
    have hE : (rsol p bs).2 = okB p bs ∨ chk p bs ≠ 0 := by
      by_cases h0 : chk p bs = 0
      · exact .inl (rsol_gsol (Sys.of_chk h0) (Pts.of_chk h0)).1
      · exact .inr h0
    have hE2 : (decide (chk p bs = 0) && (rsol p bs).2) = (decide (chk p bs = 0) && okB p bs) := by
      rcases hE with h | h
      · rw [h]
      · simp [h]
    simp only [hE2] at hR
    obtain ⟨X, hX, hSX, hRX⟩ : ∃ X : List Int, X.length ≤ 100 ∧
        (∀ w1, BdsAt w1 a n cap bs → Calls Try.prog 22 #[.agg #[.int .i64 p, .slice a n cap]] w1 fun e w' => ∃ v, e = .returned (.tuple #[v, .bool (decide (chk p bs = 0) && okB p bs), .int .i64 (chk p bs)]) ∧ Below w1.heap.size w1 w' ∧ w'.ownsRow w1.heap.size 3 1 v X.length (X.map (.int .i64))) ∧
        (∀ w1, BdsAt w1 a n cap bs → Calls Try.prog 23 #[.agg #[.int .i64 p, .slice a n cap]] w1 fun e w' => ∃ v, e = .returned (.tuple #[v, .bool (decide (chk p bs = 0) && okB p bs), .int .i64 (chk p bs)]) ∧ Below w1.heap.size w1 w' ∧ w'.ownsRow w1.heap.size 3 1 v X.length (X.map (.int .i64))) := by
      by_cases h0 : chk p bs = 0
      · have hG := rsol_gsol (Sys.of_chk h0) (Pts.of_chk h0)
        by_cases h2 : okB p bs = true
        · refine ⟨solR p bs, solR_small (Sys.of_chk h0), fun w1 hb1 => (hS w1 hb1).mono ?_, fun w1 hb1 => (hR w1 hb1).mono ?_⟩
          · rintro e w' ⟨v, rfl, hb2, _, ho⟩
            refine ⟨v, rfl, hb2, ?_⟩
            have := ho h0 h2
            rwa [show p.toNat = (solR p bs).length from (solR_len bs ⟨(Sys.of_chk h0).p1, (Sys.of_chk h0).p2⟩).symm] at this
          · rintro e w' ⟨v, rfl, hb2, ho⟩
            refine ⟨v, rfl, hb2, ?_⟩
            simpa [h0, hG.2.1 h2] using ho
        · have h2' : okB p bs = false := by simpa using h2
          refine ⟨[], by simp, fun w1 hb1 => (hS w1 hb1).mono ?_, fun w1 hb1 => (hR w1 hb1).mono ?_⟩
          · rintro e w' ⟨v, rfl, hb2, ho, _⟩
            refine ⟨v, rfl, hb2, ?_⟩
            rw [ho (fun h => h2 h.2)]
            exact World.ownsRow_nil _ _ _ _
          · rintro e w' ⟨v, rfl, hb2, ho⟩
            refine ⟨v, rfl, hb2, ?_⟩
            simpa [h0, hG.2.2 h2'] using ho
      · refine ⟨[], by simp, fun w1 hb1 => (hS w1 hb1).mono ?_, fun w1 hb1 => (hR w1 hb1).mono ?_⟩
        · rintro e w' ⟨v, rfl, hb2, ho, _⟩
          refine ⟨v, rfl, hb2, ?_⟩
          rw [ho (fun h => h0 h.1)]
          exact World.ownsRow_nil _ _ _ _
        · rintro e w' ⟨v, rfl, hb2, ho⟩
          refine ⟨v, rfl, hb2, ?_⟩
          simpa [h0] using ho
    clear hS hR hE hE2
    generalize (decide (chk p bs = 0) && okB p bs) = ok at *
    generalize chk p bs = c at *
    have o1 : (ok == ok) = true := by simp
    have c1 : (c == c) = true := by simp
    clear hn4 hn
    go_enter Try.func3, Try.ntmps3
    go_wp2_with (first
      | (go_at_call 20; refine (hW _).mono ?_; rintro e w0 ⟨rfl, hb0⟩; obtain ⟨hc0, hf0⟩ := bcell hb0; have hz0a := lt_size hb0 (b := w.heap.size) (by first | assumption | omega | (simp; done) | (simp; omega)))
      | (go_at_call 22; refine (hSX _ (hbx.below hb0)).mono ?_; rintro e w1 ⟨v1, rfl, hb1, ho1⟩; obtain ⟨hc1, hf1⟩ := bcell hb1; have hz1a := lt_size hb1 (b := w.heap.size) (by first | assumption | omega | (simp; done) | (simp; omega)); obtain ⟨sa, sc, rfl, hsa⟩ := owns_slice ho1)
      | (go_at_call 23; refine (hRX _ ((hbx.below hb0).below hb1)).mono ?_; rintro e w2 ⟨v2, rfl, hb2, ho2⟩; obtain ⟨hc2, hf2⟩ := bcell hb2; have hz2a := lt_size hb2 (b := w.heap.size) (by first | assumption | omega | (simp; done) | (simp; omega)); obtain ⟨ta, tc, rfl, hta⟩ := owns_slice ho2)
      | (go_at_call 21; refine (lalive_any _).mono ?_; rintro e w3 ⟨rfl, hb3⟩; obtain ⟨hc3, hf3⟩ := bcell hb3; have hz3a := lt_size hb3 (b := w.heap.size) (by first | assumption | omega | (simp; done) | (simp; omega)))
      | (go_at_call 24; refine (rsame_yes _ _ _ _ _ _ X _ (own_ints ho1 ((hb2.mono (Nat.le_refl _)).trans (hb3.mono hb2.size)) (by simpa using hX)) (own_ints ho2 hb3 hX)).mono ?_; rintro e w4 ⟨rfl, hb4⟩)
      | (trace_state; fail))
    go_ret
    have z0 := hb0.size
    have z1 := hb1.size
    have z2 := hb2.size
    have z3 := hb3.size
    simp at z0
    exact ⟨rfl, ((((((Below.refl _ w).alloc (Nat.le_refl _) _).trans (hb0.mono (by simp))).trans (hb1.mono (by omega))).trans (hb2.mono (by omega))).trans (hb3.mono (by omega))).trans (hb4.mono (by omega))⟩
  · have h1 : decide (n ≤ 403) = false := by simpa using hn4
    simp only [h1] at hW
    go_enter Try.func3, Try.ntmps3
    go_wp2_with (first
      | (go_at_call 20; refine (hW _).mono ?_; rintro e w0 ⟨rfl, hb0⟩; obtain ⟨hc0, hf0⟩ := bcell hb0; have hz0a := lt_size hb0 (b := w.heap.size) (by first | assumption | omega | (simp; done) | (simp; omega)))
      | (go_at_call 21; refine (lalive_any _).mono ?_; rintro e w3 ⟨rfl, hb3⟩; obtain ⟨hc3, hf3⟩ := bcell hb3; have hz3a := lt_size hb3 (b := w.heap.size) (by first | assumption | omega | (simp; done) | (simp; omega))))
    go_ret
    have z0 := hb0.size
    simp at z0
    exact ⟨rfl, (((Below.refl _ w).alloc (Nat.le_refl _) _).trans (hb0.mono (by simp))).trans (hb3.mono (by omega))⟩
end Go.Proofs.Ytlkcfohmoeadbaa
