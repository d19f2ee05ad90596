/-
  Lemmas and walks for the laws on bounds and their sums; the parts' own heads say what each proves, for every input.
-/
import Derived.Test.YtlkcfohmoeadbaaPk25
import Derived.Test.YtlkcfohmoeadbaaPk15
import Derived.Test.YtlkcfohmoeadbaaPk36
import Derived.Test.YtlkcfohmoeadbaaPk10
import Derived.Test.YtlkcfohmoeadbaaPk34
set_option linter.unusedSimpArgs false
set_option linter.unusedVariables false
set_option linter.unnecessarySimpa false
/-
  Plain laws: what is left when records are left out one after the other stays, and not without any one of them.
-/
namespace Go.Proofs.Ytlkcfohmoeadbaa

/-- A part of a list of bounds. -/
def Sub (cs bs : List Bd) : Prop := (∀ b ∈ cs, b ∈ bs) ∧ cs.length ≤ bs.length
theorem Sub.filter {bs : List Bd} (f : Bd → Bool) : Sub (bs.filter f) bs := ⟨fun _ h => (List.mem_filter.1 h).1, List.length_filter_le _ _⟩
theorem Sub.refl (bs : List Bd) : Sub bs bs := ⟨fun _ h => h, Nat.le_refl _⟩
theorem Sub.trans {a b c : List Bd} (h : Sub a b) (k : Sub b c) : Sub a c := ⟨fun x hx => k.1 x (h.1 x hx), Nat.le_trans h.2 k.2⟩

theorem loAt_stay {st : List Bd → Bool} {bs : List Bd} (h0 : st bs = true) : ∀ (d k : Nat), k + d = (idsL bs).length → st (loAt st bs k).1 = true
  | 0, k, h => by
    have : k = (idsL bs).length := by omega
    subst this
    rw [loAt_top]; exact h0
  | d + 1, k, h => by
    have ih := loAt_stay h0 d (k + 1) (by omega)
    rw [loAt_step (by omega)]
    split
    · assumption
    · exact ih
theorem loAt_down {st : List Bd → Bool} {bs : List Bd} : ∀ (d k : Nat), k + d = (idsL bs).length → ∀ id ∈ (loAt st bs k).2, ∃ T, Sub (loAt st bs k).1 T ∧ Sub T bs ∧ st (T.filter fun b => b.bid != id) = false ∧ Sub ((loAt st bs k).1.filter fun b => b.bid != id) (T.filter fun b => b.bid != id)
  | 0, k, h, id, hid => by
    have : k = (idsL bs).length := by omega
    subst this
    rw [loAt_top] at hid
    simp at hid
  | d + 1, k, h, id, hid => by
    have ih := loAt_down (st := st) (bs := bs) d (k + 1) (by omega)
    have hsub := loAt_sub (st := st) (bs := bs) (k + 1)
    rw [loAt_step (by omega)] at hid ⊢
    generalize loAt st bs (k + 1) = s at *
    generalize (idsL bs).getD k 0 = i at *
    split at hid
    · rename_i hs
      rw [if_pos hs]
      obtain ⟨T, t1, t2, t3, t4⟩ := ih id hid
      refine ⟨T, (Sub.filter _).trans t1, t2, t3, ?_⟩
      refine Sub.trans ?_ t4
      simp only
      rw [List.filter_filter]
      refine ⟨fun b hb => ?_, ?_⟩
      · obtain ⟨h1, h2⟩ := List.mem_filter.1 hb
        simp only [Bool.and_eq_true] at h2
        exact List.mem_filter.2 ⟨h1, h2.1⟩
      · have : s.1.filter (fun a => (a.bid != id && a.bid != i)) = (s.1.filter fun b => b.bid != id).filter fun b => b.bid != i := by
          rw [List.filter_filter]
          congr 1
          funext b
          exact Bool.and_comm _ _
        rw [this]
        exact List.length_filter_le _ _
    · rename_i hs
      rw [if_neg hs]
      rcases List.mem_append.1 hid with hid | hid
      · exact ih id hid
      · have e : id = i := by simpa using hid
        subst e
        exact ⟨s.1, Sub.refl _, ⟨hsub.1, hsub.2⟩, by simpa using hs, Sub.refl _⟩

/-- What is left stays; without one of its records it does not. -/
theorem lo_minimal {st : List Bd → Bool} {bs : List Bd} (h0 : st bs = true) (hm : ∀ S T, Sub S T → Sub T bs → st S = true → st T = true) :
    st (bs.filter (onlyB (loL st bs))) = true ∧ ∀ id ∈ loL st bs, st ((bs.filter (onlyB (loL st bs))).filter fun b => b.bid != id) = false := by
  have hF : (loAt st bs 0).1 = bs.filter (onlyB (loL st bs)) := by
    rw [← rkeep_zero]
    exact (loAt_filter (idsL bs).length 0 (by omega)).1
  rw [← hF]
  refine ⟨loAt_stay h0 (idsL bs).length 0 (by omega), fun id hid => ?_⟩
  have hid' : id ∈ (loAt st bs 0).2 := by unfold loL at hid; simpa using hid
  obtain ⟨T, t1, t2, t3, t4⟩ := loAt_down (idsL bs).length 0 (by omega) id hid'
  rw [Bool.eq_false_iff]
  intro h
  rw [hm _ _ t4 ((Sub.filter _).trans t2) h] at t3
  cases t3

theorem Sub.chk {p : Int} {bs cs : List Bd} (h : Sub cs bs) (hc : chk p bs = 0) : chk p cs = 0 := chk_sub hc h.1 h.2
theorem dbt_minimal {p : Int} {bs : List Bd} (hc : chk p bs = 0) (hok : okB p bs = false) : okB p (bs.filter (onlyB (dbtL p bs))) = false ∧ ∀ id ∈ dbtL p bs, okB p ((bs.filter (onlyB (dbtL p bs))).filter fun b => b.bid != id) = true := by
  have hd : dbtL p bs = loL (fun t => !okB p t) bs := by unfold dbtL dbtB; simp [hc, hok]
  rw [hd]
  obtain ⟨h1, h2⟩ := lo_minimal (st := fun t => !okB p t) (bs := bs) (by simp [hok]) (fun S T hST hTb hS => by
    simp only [Bool.not_eq_true', Bool.eq_false_iff, ne_eq] at hS ⊢
    exact fun hT => hS (okB_sub (hTb.chk hc) hT hST.1 hST.2))
  exact ⟨by simpa using h1, fun id hid => by simpa using h2 id hid⟩

theorem gD_sub {p : Int} {S T : List Bd} (h : Sub S T) (hc : chk p T = 0) (hok : okB p T = true) {x y : Int} (x0 : 0 ≤ x) (x1 : x < p) (y0 : 0 ≤ y) (y1 : y < p) : gD p T x y ≤ gD p S x y := by
  by_cases hf : gD p S x y < FAR
  · exact (gD_mono (Sys.of_chk (h.chk hc)) hc hok h.1 x0 x1 y0 y1 hf).2
  · have := (gD_range (Sys.of_chk hc) x0 x1 y0 y1).2
    omega
theorem rst_minimal {p : Int} {bs : List Bd} {x y : Int} {up : Bool} (hE : askE p bs x y = 0) (hf : gD p bs (rstX x y up) (rstX y x up) ≠ FAR) :
    gD p (bs.filter (onlyB (restsL p bs x y up))) (rstX x y up) (rstX y x up) = gD p bs (rstX x y up) (rstX y x up) ∧ ∀ id ∈ restsL p bs x y up, gD p ((bs.filter (onlyB (restsL p bs x y up))).filter fun b => b.bid != id) (rstX x y up) (rstX y x up) ≠ gD p bs (rstX x y up) (rstX y x up) := by
  obtain ⟨hc, hxy, hok⟩ := askE_zero hE
  obtain ⟨⟨x0, x1⟩, y0, y1⟩ := both_in hxy
  have hX : 0 ≤ rstX x y up ∧ rstX x y up < p ∧ 0 ≤ rstX y x up ∧ rstX y x up < p := by unfold rstX; cases up <;> simp <;> omega
  have hr : restsL p bs x y up = loL (fun t => gD p t (rstX x y up) (rstX y x up) == gD p bs (rstX x y up) (rstX y x up)) bs := by
    unfold restsL rstL; rw [if_pos hE, if_neg hf]
  rw [hr]
  generalize rstX x y up = X at *
  generalize rstX y x up = Y at *
  obtain ⟨u1, u2, u3, u4⟩ := hX
  obtain ⟨h1, h2⟩ := lo_minimal (st := fun t => gD p t X Y == gD p bs X Y) (bs := bs) (by simp) (fun S T hST hTb hS => by
    simp only [beq_iff_eq] at hS ⊢
    have k1 := gD_sub hST (hTb.chk hc) (okB_sub hc hok hTb.1 hTb.2) u1 u2 u3 u4
    have k2 := gD_sub hTb hc hok u1 u2 u3 u4
    omega)
  exact ⟨by simpa using h1, fun id hid => by simpa using h2 id hid⟩
theorem loL_le (st : List Bd → Bool) (bs : List Bd) : (loL st bs).length ≤ bs.length := by
  unfold loL
  rw [List.length_reverse]
  exact Nat.le_trans (loAt_len 0) (idsL_len bs)
theorem chk_len {p : Int} {bs : List Bd} (h : chk p bs = 0) : bs.length ≤ 400 := by unfold chk at h; split at h <;> omega
theorem dbtL_small (p : Int) (bs : List Bd) : (dbtL p bs).length ≤ 400 := by
  unfold dbtL
  split
  · rename_i h
    unfold dbtB at h
    simp only [Bool.and_eq_true, decide_eq_true_eq] at h
    exact Nat.le_trans (loL_le _ _) (chk_len h.1)
  · simp
theorem restsL_small (p : Int) (bs : List Bd) (x y : Int) (up : Bool) : (restsL p bs x y up).length ≤ 400 := by
  unfold restsL
  split
  · rename_i h
    unfold rstL
    split
    · simp
    · exact Nat.le_trans (loL_le _ _) (chk_len (askE_zero h).1)
  · simp
theorem askE_rst {p : Int} {bs : List Bd} {x y : Int} {up : Bool} : askE p bs (rstX x y up) (rstX y x up) = askE p bs x y := by
  unfold rstX
  cases up with
  | true => rfl
  | false =>
    have : both p y x = both p x y := by unfold both; simp [Bool.and_comm]
    simp only [Bool.false_eq_true, if_false]
    unfold askE
    rw [this]
/-- The law's end of what is left, and of what is left without a record. -/
theorem rest_ends {p : Int} {bs : List Bd} {x y : Int} {up : Bool} (hE : askE p bs x y = 0) (hB : grB p bs (rstX x y up) (rstX y x up) = true) :
    (askE p (bs.filter (onlyB (restsL p bs x y up))) (rstX x y up) (rstX y x up) = 0 ∧ grB p (bs.filter (onlyB (restsL p bs x y up))) (rstX x y up) (rstX y x up) = true ∧ grN p (bs.filter (onlyB (restsL p bs x y up))) (rstX x y up) (rstX y x up) = grN p bs (rstX x y up) (rstX y x up)) ∧
    ∀ id ∈ restsL p bs x y up, askE p ((bs.filter (onlyB (restsL p bs x y up))).filter fun b => b.bid != id) (rstX x y up) (rstX y x up) = 0 ∧ (grB p ((bs.filter (onlyB (restsL p bs x y up))).filter fun b => b.bid != id) (rstX x y up) (rstX y x up) = true → grN p ((bs.filter (onlyB (restsL p bs x y up))).filter fun b => b.bid != id) (rstX x y up) (rstX y x up) ≠ grN p bs (rstX x y up) (rstX y x up)) := by
  have hE2 : askE p bs (rstX x y up) (rstX y x up) = 0 := by rw [askE_rst]; exact hE
  have hf : gD p bs (rstX x y up) (rstX y x up) ≠ FAR := by
    unfold grB at hB
    simp only [decide_eq_true_eq] at hB
    exact hB.2
  obtain ⟨m1, m2⟩ := rst_minimal hE hf
  have s1 := Sub.filter (bs := bs) (onlyB (restsL p bs x y up))
  generalize bs.filter (onlyB (restsL p bs x y up)) = F at *
  have e1 := askE_sub hE2 s1.1 s1.2
  generalize rstX x y up = X at *
  generalize rstX y x up = Y at *
  have hN : grN p bs X Y = gD p bs X Y := by unfold grN; rw [if_pos ⟨hE2, hf⟩]
  refine ⟨⟨e1, ?_, ?_⟩, fun id hid => ?_⟩
  · unfold grB; rw [e1, m1]; simp [hf]
  · rw [hN]; unfold grN; rw [e1, m1, if_pos ⟨rfl, hf⟩]
  · have s2 := (Sub.filter (bs := F) (fun b => b.bid != id)).trans s1
    have e2 := askE_sub hE2 s2.1 s2.2
    refine ⟨e2, fun h => ?_⟩
    have h2 := m2 id hid
    rw [hN]
    unfold grN
    unfold grB at h
    simp only [decide_eq_true_eq] at h
    rw [if_pos h]
    exact h2
theorem rests_nil {p : Int} {bs : List Bd} {x y : Int} {up : Bool} (h : grB p bs (rstX x y up) (rstX y x up) = false) (hT : askE p bs (rstX x y up) (rstX y x up) = askE p bs x y) : restsL p bs x y up = [] := by
  unfold restsL
  split
  · rename_i hE
    unfold rstL
    rw [if_pos]
    unfold grB at h
    rw [hT, hE] at h
    simpa using h
  · rfl
end Go.Proofs.Ytlkcfohmoeadbaa

/-
  The law GaugeMinimal, walked: it returns true.
-/
namespace Go.Proofs.Ytlkcfohmoeadbaa
open Go.RowKit Go.Shelf
set_option maxHeartbeats 8000000
set_option maxRecDepth 100000

def enV (up : Bool) (n : Int) : Int := if up then n else -n
theorem lend_any (p : Int) (a : Option Addr) (n cap : Nat) (bs : List Bd) (x y : Int) (up : Bool) (UB AB BB : Nat) (w : World) (hb : BdsAt w a n cap bs) (cu : w.cell? ⟨UB, 0, none⟩ = some (.bool up)) (ca : w.cell? ⟨AB, 0, none⟩ = some (.int .i64 x)) (cb : w.cell? ⟨BB, 0, none⟩ = some (.int .i64 y)) :
    Calls Try.prog 52 #[.agg #[.int .i64 p, .slice a n cap], .pointer (some ⟨UB, 0, none⟩), .pointer (some ⟨AB, 0, none⟩), .pointer (some ⟨BB, 0, none⟩)] w fun e w' =>
      e = .returned (.tuple #[.int .i64 (enV up (grN p bs (rstX x y up) (rstX y x up))), .bool (grB p bs (rstX x y up) (rstX y x up)), .int .i64 (askE p bs (rstX x y up) (rstX y x up))]) ∧ Below w.heap.size w w' := by
  have zu := World.block_lt_of_cell? w _ cu
  have za := World.block_lt_of_cell? w _ ca
  have zb := World.block_lt_of_cell? w _ cb
  simp only at zu za zb
  have hbx := hb.below (w' := w.alloc (Obj.cells #[.int .i64 p, .slice a n cap] 24)) ((Below.refl _ _).alloc (Nat.le_refl _) _)
  have hG := gGreatest_any p a n cap bs x y _ hbx
  have hL := gLeast_any p a n cap bs x y _ hbx
  cases up with
  | true =>
    unfold enV rstX
    simp only [if_true]
    generalize grN p bs x y = N at *
    generalize grB p bs x y = B at *
    generalize askE p bs x y = E at *
    go_enter Try.func52, Try.ntmps52
    go_wp2_with (go_at_call 36; refine hG.mono ?_; rintro e w1 ⟨rfl, hb1⟩)
    refine bodyPost_ret (v := .tuple #[.int .i64 N, .bool B, .int .i64 E]) (by simp [results, Try.results52, go_sem, *]) rfl ⟨rfl, ?_⟩
    ((repeat (first | exact Below.refl _ _ | assumption | refine Below.al ?_ _ | refine Below.ch ?_ (by assumption) | refine belowN ?_)))
  | false =>
    unfold enV rstX
    simp only [Bool.false_eq_true, if_false]
    generalize grN p bs y x = N at *
    generalize grB p bs y x = B at *
    generalize askE p bs y x = E at *
    go_enter Try.func52, Try.ntmps52
    go_wp2_with (go_at_call 37; refine hL.mono ?_; rintro e w1 ⟨rfl, hb1⟩)
    refine bodyPost_ret (v := .tuple #[.int .i64 (-N), .bool B, .int .i64 E]) (by simp [results, Try.results52, go_sem, *]) rfl ⟨rfl, ?_⟩
    ((repeat (first | exact Below.refl _ _ | assumption | refine Below.al ?_ _ | refine Below.ch ?_ (by assumption) | refine belowN ?_)))

theorem lOnly_ok (p : Int) (a : Option Addr) (n cap : Nat) (bs : List Bd) (al : Option Addr) (m c : Nat) (xs : List Int) (w : World) (hb : BdsAt w a n cap bs) (hx : IntsAt w al m c xs) (h0 : chk p bs = 0) :
    Calls Try.prog 54 #[.agg #[.int .i64 p, .slice a n cap], .slice al m c] w fun e w' => ∃ fa fc, e = .returned (.tuple #[.agg #[.int .i64 p, .slice fa (bs.filter (onlyB xs)).length fc], .int .i64 0]) ∧ Below w.heap.size w w' ∧ BdsAt w' fa (bs.filter (onlyB xs)).length fc (bs.filter (onlyB xs)) := by
  refine (gOnly_any p a n cap bs al m c xs w hb hx).mono ?_
  rintro e w' ⟨v, rfl, hB, ho⟩
  simp only [h0, if_true] at ho ⊢
  obtain ⟨fa, fc, rfl, _⟩ := owns_slice ho
  have := chk_400' h0
  have := List.length_filter_le (onlyB xs) bs
  exact ⟨fa, fc, rfl, hB, BdsAt.of_owns ho (by omega)⟩
theorem lWithout_ok (p : Int) (a : Option Addr) (n cap : Nat) (bs : List Bd) (id : Int) (w : World) (hb : BdsAt w a n cap bs) (h0 : chk p bs = 0) :
    Calls Try.prog 43 #[.agg #[.int .i64 p, .slice a n cap], .int .i64 id] w fun e w' => ∃ fa fc, e = .returned (.tuple #[.agg #[.int .i64 p, .slice fa (bs.filter (fun b => b.bid != id)).length fc], .int .i64 0]) ∧ Below w.heap.size w w' ∧ BdsAt w' fa (bs.filter (fun b => b.bid != id)).length fc (bs.filter (fun b => b.bid != id)) := by
  refine (gWithout_any p a n cap bs id w hb).mono ?_
  rintro e w' ⟨v, rfl, hB, ho⟩
  simp only [h0, if_true] at ho ⊢
  obtain ⟨fa, fc, rfl, _⟩ := owns_slice ho
  have := chk_400' h0
  have := List.length_filter_le (fun b : Bd => b.bid != id) bs
  exact ⟨fa, fc, rfl, hB, BdsAt.of_owns ho (by omega)⟩
theorem lSolve_is (p : Int) (a : Option Addr) (n cap : Nat) (bs : List Bd) (w : World) (hb : BdsAt w a n cap bs) (h0 : chk p bs = 0) {ok : Bool} (hk : okB p bs = ok) :
    Calls Try.prog 22 #[.agg #[.int .i64 p, .slice a n cap]] w fun e w' => ∃ v, e = .returned (.tuple #[v, .bool ok, .int .i64 0]) ∧ Below w.heap.size w w' := by
  refine (gSolve_any p a n cap bs w hb).mono ?_
  rintro e w' ⟨v, rfl, hB, _⟩
  exact ⟨v, by rw [h0, hk]; rfl, hB⟩

theorem ldoubted_any (p : Int) (a : Option Addr) (n cap : Nat) (bs : List Bd) (al : Option Addr) (m c : Nat) (ids : List Int) (w : World) (hb : BdsAt w a n cap bs) (hx : IntsAt w al m c ids) (h0 : chk p bs = 0) (hF : okB p (bs.filter (onlyB ids)) = false) (hI : ∀ id ∈ ids, okB p ((bs.filter (onlyB ids)).filter fun b => b.bid != id) = true) :
    Calls Try.prog 53 #[.agg #[.int .i64 p, .slice a n cap], .slice al m c] w fun e w' => e = .returned (.bool true) ∧ Below w.heap.size w w' := by
  have hcF := (Sub.filter (bs := bs) (onlyB ids)).chk h0
  have hO := fun w1 (h : Below w.heap.size w w1) => lOnly_ok p a n cap bs al m c ids w1 (hb.below h) (hx.below h) h0
  generalize bs.filter (onlyB ids) = F at *
  have hSol := fun w1 b d (h : BdsAt w1 b F.length d F) => lSolve_is p b _ d F w1 h hcF hF
  have hWi := fun id w1 b d (h : BdsAt w1 b F.length d F) => lWithout_ok p b _ d F id w1 h hcF
  have hSu := fun id (hid : id ∈ ids) w1 b d (h : BdsAt w1 b (F.filter fun b => b.bid != id).length d (F.filter fun b => b.bid != id)) => lSolve_is p b _ d _ w1 h ((Sub.filter (bs := F) _).chk hcF) (hI id hid)
  have hsm := hx.small
  obtain rfl := hx.len
  have HI := Lib.hid hI
  clear hI hF h0 hcF
  go_enter Try.func53, Try.ntmps53
  go_wp2_with (first
    | (go_at_call 54; refine (hO _ (by ((repeat (first | exact Below.refl _ _ | assumption | refine Below.al ?_ _ | refine Below.ch ?_ (by assumption) | refine belowN ?_))))).mono ?_; rintro e w2 ⟨fa, fc, rfl, hb2, hf2⟩)
    | (go_at_call 22; refine (hSol _ fa fc (hf2.below (by ((repeat (first | exact Below.refl _ _ | assumption | refine Below.al ?_ _ | refine Below.ch ?_ (by assumption) | refine belowN ?_)))))).mono ?_; rintro e w3 ⟨v3, rfl, hb3⟩))
  have q0 : w3.cell? ⟨w2.heap.size, 0, none⟩ = some (.int .i64 p) := by rw [(bcell hb3).1 _ _ (by simp)]; simp [go_sem]
  have q1 : w3.cell? ⟨w2.heap.size, 1, none⟩ = some (.slice fa F.length fc) := by rw [(bcell hb3).1 _ _ (by simp)]; simp [go_sem]
  have zq : w2.heap.size < w3.heap.size := by have := hb3.size; simp at this; omega
  have hB3 : Below w.heap.size w w3 := by ((repeat (first | exact Below.refl _ _ | assumption | refine Below.al ?_ _ | refine Below.ch ?_ (by assumption) | refine belowN ?_)))
  have hf3 := hf2.below (((Below.refl _ _).al _).ch hb3)
  have hx3 := hx.below hB3
  clear hf2 hb3
  go_loopw [40] (fun i wr => ∃ k : Nat, k ≤ ids.length ∧ i = .int .i64 k ∧ Below w3.heap.size w3 wr) (fun i _ => ids.length - (intOf i).toNat)
  case atStart => exact ⟨0, Nat.zero_le _, rfl, Below.refl _ _⟩
  case round =>
    obtain ⟨k, hk, rfl, hBr⟩ := hrel
    rename World => w4
    have r0 := ((bcell hBr).1 _ 0 zq).trans q0
    have r1 := ((bcell hBr).1 _ 1 zq).trans q1
    have zr : w2.heap.size < w4.heap.size := lt_size hBr zq
    have hf4 := hf3.below hBr
    by_cases hlt : k < ids.length
    · obtain ⟨xb, xo, rfl, xl, g1⟩ := (hx3.below hBr).get hlt
      have hmem := getD_mem_int hlt
      generalize ids.getD k 0 = id at *
      have hSu' := hSu id hmem
      have hWi' := hWi id
      clear hmem
      generalize (F.filter fun b => b.bid != id) = U at *
      clear q0 q1
      go_wp2_with (first
        | (go_at_call 43; refine (hWi' _ fa fc hf4).mono ?_; rintro e w5 ⟨ua, uc, rfl, hb5, hu5⟩)
        | (go_at_call 22; refine (hSu' _ ua uc (hu5.below (by ((repeat (first | exact Below.refl _ _ | assumption | refine Below.al ?_ _ | refine Below.ch ?_ (by assumption) | refine belowN ?_)))))).mono ?_; rintro e w6 ⟨v6, rfl, hb6⟩))
      go_roundw
      case rel => exact ⟨k + 1, by omega, by go_num, hBr.ch (hb5.ch (((Below.refl _ _).al _).ch hb6))⟩
      case measure => simp [intOf]; omega
    · go_wp2_with fail
      go_ret
      exact ⟨rfl, hB3.ch hBr⟩

theorem law_minimal (p : Int) (a : Option Addr) (n cap : Nat) (bs : List Bd) (x y : Int) (up : Bool) (w : World) (hb : BdsAt w a n cap bs) (hn : n ≤ 140737488351232) :
    Calls Try.prog 14 #[.agg #[.int .i64 p, .slice a n cap], .int .i64 x, .int .i64 y, .bool up] w fun e w' => e = .returned (.bool true) ∧ Below w.heap.size w w' := by
  have hmf := makeFunc_run
  have hent := enters_of Try.func52 (by kernel_rfl) rfl
  have hW := fun w1 => lsmall_any p a n cap w1 hn
  have hD := fun w1 (h : Below w.heap.size w w1) => gDoubt_any p a n cap bs w1 (hb.below h)
  generalize hq : (decide (p ≤ 9) && decide (n ≤ 20)) = q at *
  cases q with
  | false =>
    clear hq hn
    go_enter Try.func14, Try.ntmps14
    go_wp2_with (first
      | (go_at_call 27; refine (hW _).mono ?_; rintro e w0 ⟨rfl, hb0⟩; obtain ⟨hc0, hf0⟩ := bcell hb0; have hz0a := lt_size hb0 (b := w.heap.size) (by first | assumption | omega | (simp; done) | (simp; omega)))
      | (go_at_call 21; refine (lalive_any _).mono ?_; rintro e w9 ⟨rfl, hb9⟩; obtain ⟨hc9, hf9⟩ := bcell hb9))
    go_ret
    exact ⟨rfl, by ((repeat (first | exact Below.refl _ _ | assumption | refine Below.al ?_ _ | refine Below.ch ?_ (by assumption) | refine belowN ?_)))⟩
  | true =>
    clear hq hn
    by_cases hc : chk p bs = 0
    · cases hok : okB p bs with
      | false =>
        have hdB : dbtB p bs = true := by unfold dbtB; simp [hc, hok]
        obtain ⟨m1, m2⟩ := dbt_minimal hc hok
        simp only [hdB, hc] at hD
        have hDb := fun w1 b d (h : Below w.heap.size w w1) (h2 : IntsAt w1 b (dbtL p bs).length d (dbtL p bs)) => ldoubted_any p a n cap bs b _ d (dbtL p bs) w1 (hb.below h) h2 hc m1 m2
        have hdl := dbtL_small p bs
        generalize dbtL p bs = I at *
        clear hc hok hdB m1 m2
        go_enter Try.func14, Try.ntmps14
        go_wp2_with (first
          | (go_at_call 27; refine (hW _).mono ?_; rintro e w0 ⟨rfl, hb0⟩; obtain ⟨hc0, hf0⟩ := bcell hb0; have hz0a := lt_size hb0 (b := w.heap.size) (by first | assumption | omega | (simp; done) | (simp; omega)))
          | (go_at_call 30; refine (hD _ (by ((repeat (first | exact Below.refl _ _ | assumption | refine Below.al ?_ _ | refine Below.ch ?_ (by assumption) | refine belowN ?_))))).mono ?_; rintro e w1 ⟨v1, rfl, hb1, ho1⟩; obtain ⟨hc1, hf1⟩ := bcell hb1; have s1 := lt_size hb1 (b := w.heap.size) (by first | assumption | omega | (simp; done) | (simp; omega)); obtain ⟨ia, ic, rfl, _⟩ := owns_slice ho1)
          | (go_at_call 53; refine (hDb _ _ _ (by ((repeat (first | exact Below.refl _ _ | assumption | refine Below.al ?_ _ | refine Below.ch ?_ (by assumption) | refine belowN ?_)))) (IntsAt.of_owns ho1 (by omega))).mono ?_; rintro e w2 ⟨rfl, hb2⟩)
          | (go_at_call 21; refine (lalive_any _).mono ?_; rintro e w9 ⟨rfl, hb9⟩; obtain ⟨hc9, hf9⟩ := bcell hb9))
        go_ret
        exact ⟨rfl, by ((repeat (first | exact Below.refl _ _ | assumption | refine Below.al ?_ _ | refine Below.ch ?_ (by assumption) | refine belowN ?_)))⟩
      | true =>
        have hdB : dbtB p bs = false := by unfold dbtB; simp [hok]
        have hdL : dbtL p bs = [] := by unfold dbtL; rw [hdB]; rfl
        simp only [hdB, hdL, hc] at hD
        have hR := fun w1 (h : Below w.heap.size w w1) => gRests_any p a n cap bs x y up w1 (hb.below h)
        obtain ⟨w4, hw4⟩ : ∃ w4, w4 = (((w.alloc (Obj.cells #[.int .i64 p, .slice a n cap] 24)).alloc (Obj.cells #[.int .i64 x] 3)).alloc (Obj.cells #[.int .i64 y] 3)).alloc (Obj.cells #[.bool up] 4) := ⟨_, rfl⟩
        have hB4 : Below w.heap.size w w4 := by rw [hw4]; ((repeat (first | assumption | exact Below.refl _ _ | refine Below.alloc ?_ ?_ _ | refine Below.setCell ?_ ?_ _ | refine Below.drew ?_ | refine belowN ?_ | refine Below.up ?_ (by assumption) ?_)) <;> (first | assumption | omega | (simp; done) | (simp; omega)))
        have z4 : w4.heap.size = w.heap.size + 4 := by rw [hw4]; simp
        have c2 : w4.cell? ⟨w.heap.size + 1, 0, none⟩ = some (.int .i64 x) := by rw [hw4]; simp [go_sem]
        have c3 : w4.cell? ⟨w.heap.size + 1 + 1, 0, none⟩ = some (.int .i64 y) := by rw [hw4]; simp [go_sem]
        have c4 : w4.cell? ⟨w.heap.size + 1 + 1 + 1, 0, none⟩ = some (.bool up) := by rw [hw4]; simp [go_sem]
        have hEnd := fun w1 (h : Below w4.heap.size w4 w1) T b m d (hT : BdsAt w1 b m d T) => lend_any p b m d T x y up (w.heap.size + 1 + 1 + 1) (w.heap.size + 1) (w.heap.size + 1 + 1) w1 hT (((bcell h).1 _ _ (by omega)).trans c4) (((bcell h).1 _ _ (by omega)).trans c2) (((bcell h).1 _ _ (by omega)).trans c3)
        have HEnd := Lib.hid hEnd
        have hrl := restsL_small p bs x y up
        have HW4 := Lib.hid hw4
        clear hEnd c2 c3 c4 z4
        by_cases hE : askE p bs x y = 0
        · cases hB : grB p bs (rstX x y up) (rstX y x up) with
          | true =>
            obtain ⟨⟨m1, m2, m3⟩, m4⟩ := rest_ends hE hB
            have hcF := (Sub.filter (bs := bs) (onlyB (restsL p bs x y up))).chk hc
            have hO := fun w1 b d (h : Below w.heap.size w w1) (h2 : IntsAt w1 b (restsL p bs x y up).length d (restsL p bs x y up)) => lOnly_ok p a n cap bs b _ d (restsL p bs x y up) w1 (hb.below h) h2 hc
            generalize bs.filter (onlyB (restsL p bs x y up)) = F at *
            have hE2 : askE p bs (rstX x y up) (rstX y x up) = 0 := by rw [askE_rst]; exact hE
            have hE0 : ∀ w1 (h : Below w4.heap.size w4 w1), Calls Try.prog 52 #[.agg #[.int .i64 p, .slice a n cap], .pointer (some ⟨w.heap.size + 1 + 1 + 1, 0, none⟩), .pointer (some ⟨w.heap.size + 1, 0, none⟩), .pointer (some ⟨w.heap.size + 1 + 1, 0, none⟩)] w1 fun e w' =>
                e = .returned (.tuple #[.int .i64 (enV up (grN p bs (rstX x y up) (rstX y x up))), .bool true, .int .i64 0]) ∧ Below w1.heap.size w1 w' := fun w1 h => by
              have := HEnd.out w1 h bs a n cap (hb.below (hB4.ch h))
              rw [hB, hE2] at this
              exact this
            have hE1 : ∀ w1 b d (h : Below w4.heap.size w4 w1) (hT : BdsAt w1 b F.length d F), Calls Try.prog 52 #[.agg #[.int .i64 p, .slice b F.length d], .pointer (some ⟨w.heap.size + 1 + 1 + 1, 0, none⟩), .pointer (some ⟨w.heap.size + 1, 0, none⟩), .pointer (some ⟨w.heap.size + 1 + 1, 0, none⟩)] w1 fun e w' =>
                e = .returned (.tuple #[.int .i64 (enV up (grN p bs (rstX x y up) (rstX y x up))), .bool true, .int .i64 0]) ∧ Below w1.heap.size w1 w' := fun w1 b d h hT => by
              have := HEnd.out w1 h F b _ d hT
              rw [m1, m2, m3] at this
              exact this
            have hWi := fun id w1 b d (h : BdsAt w1 b F.length d F) => lWithout_ok p b _ d F id w1 h hcF
            have hE3 : ∀ id (hid : id ∈ restsL p bs x y up) w1 b d (h : Below w4.heap.size w4 w1) (hT : BdsAt w1 b (F.filter fun b => b.bid != id).length d (F.filter fun b => b.bid != id)), Calls Try.prog 52 #[.agg #[.int .i64 p, .slice b (F.filter fun b => b.bid != id).length d], .pointer (some ⟨w.heap.size + 1 + 1 + 1, 0, none⟩), .pointer (some ⟨w.heap.size + 1, 0, none⟩), .pointer (some ⟨w.heap.size + 1 + 1, 0, none⟩)] w1 fun e w' =>
                e = .returned (.tuple #[.int .i64 (enV up (grN p (F.filter fun b => b.bid != id) (rstX x y up) (rstX y x up))), .bool (grB p (F.filter fun b => b.bid != id) (rstX x y up) (rstX y x up)), .int .i64 0]) ∧ Below w1.heap.size w1 w' := fun id hid w1 b d h hT => by
              have := HEnd.out w1 h _ b _ d hT
              rw [(m4 id hid).1] at this
              exact this
            have M4 := Lib.hid (show ∀ id ∈ restsL p bs x y up, ∀ V, V = enV up (grN p bs (rstX x y up) (rstX y x up)) → grB p (F.filter fun b => b.bid != id) (rstX x y up) (rstX y x up) = true → (enV up (grN p (F.filter fun b => b.bid != id) (rstX x y up) (rstX y x up)) == V) = false from fun id hid V hV h => by
              have := (m4 id hid).2 h
              subst hV
              rw [beq_eq_false_iff_ne]
              intro e
              apply this
              unfold enV at e
              cases up <;> simp at e <;> omega)
            simp only [hE] at hR
            generalize hVV0 : enV up (grN p bs (rstX x y up) (rstX y x up)) = V at *
            have HVV := Lib.hid hVV0.symm
            clear hVV0
            generalize restsL p bs x y up = I at *
            have nV : (V != V) = false := by simp
            clear m1 m2 m3 m4 hB hE hE2 hok hc hcF HEnd hdB hdL hw4
            go_enter Try.func14, Try.ntmps14
            go_wp2_with (first
              | (go_at_call 27; refine (hW _).mono ?_; rintro e w5 ⟨rfl, hb5⟩; obtain ⟨hc5, hf5⟩ := bcell hb5; have hz5a := lt_size hb5 (b := w.heap.size) (by first | assumption | omega | (simp; done) | (simp; omega)); have hz5b := lt_size hb5 (b := w.heap.size+1) (by first | assumption | omega | (simp; done) | (simp; omega)); have hz5c := lt_size hb5 (b := w.heap.size+1+1) (by first | assumption | omega | (simp; done) | (simp; omega)); have hz5d := lt_size hb5 (b := w.heap.size+1+1+1) (by first | assumption | omega | (simp; done) | (simp; omega)))
              | (go_at_call 30; refine (hD _ (by ((repeat (first | exact Below.refl _ _ | assumption | refine Below.al ?_ _ | refine Below.ch ?_ (by assumption) | refine belowN ?_))))).mono ?_; rintro e w6 ⟨v6, rfl, hb6, _⟩; obtain ⟨hc6, hf6⟩ := bcell hb6; have s6a := lt_size hb6 (b := w.heap.size) (by first | assumption | omega | (simp; done) | (simp; omega)); have s6b := lt_size hb6 (b := w.heap.size + 1) (by first | assumption | omega | (simp; done) | (simp; omega)); have s6c := lt_size hb6 (b := w.heap.size + 1 + 1) (by first | assumption | omega | (simp; done) | (simp; omega)); have s6d := lt_size hb6 (b := w.heap.size + 1 + 1 + 1) (by first | assumption | omega | (simp; done) | (simp; omega))))
            refine (hE0 _ (by rw [HW4.out]; ((repeat (first | exact Below.refl _ _ | assumption | refine Below.al ?_ _ | refine Below.ch ?_ (by assumption) | refine belowN ?_))))).mono ?_
            rintro e w7 ⟨rfl, hb7⟩
            obtain ⟨hc7, hf7⟩ := bcell hb7
            have s7a := lt_size hb7 (b := w.heap.size) (by first | assumption | omega | (simp; done) | (simp; omega))
            have s7b := lt_size hb7 (b := w.heap.size + 1) (by first | assumption | omega | (simp; done) | (simp; omega))
            have s7c := lt_size hb7 (b := w.heap.size + 1 + 1) (by first | assumption | omega | (simp; done) | (simp; omega))
            have s7d := lt_size hb7 (b := w.heap.size + 1 + 1 + 1) (by first | assumption | omega | (simp; done) | (simp; omega))
            go_wp2_with (first
              | (go_at_call 28; refine (hR _ (by ((repeat (first | exact Below.refl _ _ | assumption | refine Below.al ?_ _ | refine Below.ch ?_ (by assumption) | refine belowN ?_))))).mono ?_; rintro e w8 ⟨v8, rfl, hb8, ho8⟩; obtain ⟨hc8, hf8⟩ := bcell hb8; have s8a := lt_size hb8 (b := w.heap.size) (by first | assumption | omega | (simp; done) | (simp; omega)); obtain ⟨ia, ic, rfl, _⟩ := owns_slice ho8)
              | (go_at_call 54; refine (hO _ _ _ (by ((repeat (first | exact Below.refl _ _ | assumption | refine Below.al ?_ _ | refine Below.ch ?_ (by assumption) | refine belowN ?_)))) (IntsAt.of_owns ho8 (by omega))).mono ?_; rintro e w9 ⟨fa, fc, rfl, hb9, hf9⟩))
            refine (hE1 _ fa fc (by rw [HW4.out]; ((repeat (first | exact Below.refl _ _ | assumption | refine Below.al ?_ _ | refine Below.ch ?_ (by assumption) | refine belowN ?_)))) (hf9.below (by ((repeat (first | exact Below.refl _ _ | assumption | refine Below.al ?_ _ | refine Below.ch ?_ (by assumption) | refine belowN ?_)))))).mono ?_
            rintro e w10 ⟨rfl, hb10⟩
            go_wp2_with fail
            have q0 : w10.cell? ⟨w9.heap.size, 0, none⟩ = some (.int .i64 p) := by rw [(bcell hb10).1 _ _ (by simp)]; simp [go_sem]
            have q1 : w10.cell? ⟨w9.heap.size, 1, none⟩ = some (.slice fa F.length fc) := by rw [(bcell hb10).1 _ _ (by simp)]; simp [go_sem]
            have zq : w9.heap.size < w10.heap.size := by have := hb10.size; simp at this; omega
            have hBw4 : Below w4.heap.size w4 w10 := by rw [HW4.out]; ((repeat (first | exact Below.refl _ _ | assumption | refine Below.al ?_ _ | refine Below.ch ?_ (by assumption) | refine belowN ?_)))
            have hBw : Below w.heap.size w w10 := by ((repeat (first | exact Below.refl _ _ | assumption | refine Below.al ?_ _ | refine Below.ch ?_ (by assumption) | refine belowN ?_)))
            have hf10 := hf9.below (((Below.refl _ _).al _).ch hb10)
            have hx10 := (IntsAt.of_owns ho8 (by omega)).below (hb9.ch (((Below.refl _ _).al _).ch hb10))
            clear hc5 hf5 hc6 hf6 hc7 hf7 hc8 hf8 hf9 hb10 hb9 hb8 hb7 hb6 hb5 ho8 hE0 hE1 hO hR hD hW HW4
            go_loopw [116] (fun i wr => ∃ k : Nat, k ≤ I.length ∧ i = .int .i64 k ∧ Below w10.heap.size w10 wr) (fun i _ => I.length - (intOf i).toNat)
            case atStart => exact ⟨0, Nat.zero_le _, rfl, Below.refl _ _⟩
            case round =>
              obtain ⟨k, hk, rfl, hBr⟩ := hrel
              rename World => w11
              have r0 := ((bcell hBr).1 _ 0 zq).trans q0
              have r1 := ((bcell hBr).1 _ 1 zq).trans q1
              have zr : w9.heap.size < w11.heap.size := lt_size hBr zq
              have hf11 := hf10.below hBr
              by_cases hlt : k < I.length
              · obtain ⟨xb, xo, rfl, xl, g1⟩ := (hx10.below hBr).get hlt
                have hmem := getD_mem_int hlt
                generalize I.getD k 0 = id at *
                have hE3' := hE3 id hmem
                have hWi' := hWi id
                have M4' := M4.out id hmem V
                have M5 := Lib.hid M4'
                clear hmem q0 q1 M4'
                go_wp2_with (go_at_call 43; refine (hWi' _ fa fc hf11).mono ?_; rintro e w12 ⟨ua, uc, rfl, hb12, hu12⟩)
                refine (hE3' _ ua uc (hBw4.ch (hBr.ch (hb12.al _))) (hu12.below (by ((repeat (first | exact Below.refl _ _ | assumption | refine Below.al ?_ _ | refine Below.ch ?_ (by assumption) | refine belowN ?_)))))).mono ?_
                rintro e w13 ⟨rfl, hb13⟩
                have hBn : Below w10.heap.size w10 w13 := hBr.ch ((hb12.al _).ch hb13)
                clear hE3 hE3' M4 r0 r1
                generalize grB p (F.filter fun b => b.bid != id) (rstX x y up) (rstX y x up) = BU at *
                generalize enV up (grN p (F.filter fun b => b.bid != id) (rstX x y up) (rstX y x up)) = VU at *
                cases BU with
                | false =>
                  go_wp2_with fail
                  go_roundw
                  case rel => exact ⟨k + 1, by omega, by go_num, hBn⟩
                  case measure => simp [intOf]; omega
                | true =>
                  have hv := M5.out (by first | trivial | rfl) (by first | trivial | rfl)
                  go_wp2_with fail
                  go_roundw
                  case rel => exact ⟨k + 1, by omega, by go_num, hBn⟩
                  case measure => simp [intOf]; omega
              · go_wp2_with (go_at_call 21; refine (lalive_any _).mono ?_; rintro e w9 ⟨rfl, hb9⟩; obtain ⟨hc9, hf9⟩ := bcell hb9)
                go_ret
                exact ⟨rfl, (hBw.ch hBr).ch hb9⟩
          | false =>
            have hnil : restsL p bs x y up = [] := rests_nil hB askE_rst
            have hE2 : askE p bs (rstX x y up) (rstX y x up) = 0 := by rw [askE_rst]; exact hE
            simp only [hE, hnil] at hR
            have hE0 : ∀ w1 (h : Below w4.heap.size w4 w1), Calls Try.prog 52 #[.agg #[.int .i64 p, .slice a n cap], .pointer (some ⟨w.heap.size + 1 + 1 + 1, 0, none⟩), .pointer (some ⟨w.heap.size + 1, 0, none⟩), .pointer (some ⟨w.heap.size + 1 + 1, 0, none⟩)] w1 fun e w' =>
                e = .returned (.tuple #[.int .i64 (enV up (grN p bs (rstX x y up) (rstX y x up))), .bool false, .int .i64 0]) ∧ Below w1.heap.size w1 w' := fun w1 h => by
              have := HEnd.out w1 h bs a n cap (hb.below (hB4.ch h))
              rw [hB, hE2] at this
              exact this
            generalize enV up (grN p bs (rstX x y up) (rstX y x up)) = V at *
            clear hB hE hE2 hok hc HEnd hdB hdL hw4 hnil
            go_enter Try.func14, Try.ntmps14
            go_wp2_with (first
              | (go_at_call 27; refine (hW _).mono ?_; rintro e w5 ⟨rfl, hb5⟩; obtain ⟨hc5, hf5⟩ := bcell hb5; have hz5a := lt_size hb5 (b := w.heap.size) (by first | assumption | omega | (simp; done) | (simp; omega)); have hz5b := lt_size hb5 (b := w.heap.size+1) (by first | assumption | omega | (simp; done) | (simp; omega)); have hz5c := lt_size hb5 (b := w.heap.size+1+1) (by first | assumption | omega | (simp; done) | (simp; omega)); have hz5d := lt_size hb5 (b := w.heap.size+1+1+1) (by first | assumption | omega | (simp; done) | (simp; omega)))
              | (go_at_call 30; refine (hD _ (by ((repeat (first | exact Below.refl _ _ | assumption | refine Below.al ?_ _ | refine Below.ch ?_ (by assumption) | refine belowN ?_))))).mono ?_; rintro e w6 ⟨v6, rfl, hb6, _⟩; obtain ⟨hc6, hf6⟩ := bcell hb6; have s6a := lt_size hb6 (b := w.heap.size) (by first | assumption | omega | (simp; done) | (simp; omega)); have s6b := lt_size hb6 (b := w.heap.size + 1) (by first | assumption | omega | (simp; done) | (simp; omega)); have s6c := lt_size hb6 (b := w.heap.size + 1 + 1) (by first | assumption | omega | (simp; done) | (simp; omega)); have s6d := lt_size hb6 (b := w.heap.size + 1 + 1 + 1) (by first | assumption | omega | (simp; done) | (simp; omega))))
            refine (hE0 _ (by rw [HW4.out]; ((repeat (first | exact Below.refl _ _ | assumption | refine Below.al ?_ _ | refine Below.ch ?_ (by assumption) | refine belowN ?_))))).mono ?_
            rintro e w7 ⟨rfl, hb7⟩
            obtain ⟨hc7, hf7⟩ := bcell hb7
            have s7a := lt_size hb7 (b := w.heap.size) (by first | assumption | omega | (simp; done) | (simp; omega))
            have s7b := lt_size hb7 (b := w.heap.size + 1) (by first | assumption | omega | (simp; done) | (simp; omega))
            have s7c := lt_size hb7 (b := w.heap.size + 1 + 1) (by first | assumption | omega | (simp; done) | (simp; omega))
            have s7d := lt_size hb7 (b := w.heap.size + 1 + 1 + 1) (by first | assumption | omega | (simp; done) | (simp; omega))
            go_wp2_with (first
              | (go_at_call 28; refine (hR _ (by ((repeat (first | exact Below.refl _ _ | assumption | refine Below.al ?_ _ | refine Below.ch ?_ (by assumption) | refine belowN ?_))))).mono ?_; rintro e w8 ⟨v8, rfl, hb8, ho8⟩; obtain ⟨ia, ic, rfl, _⟩ := owns_slice ho8)
              | (go_at_call 21; refine (lalive_any _).mono ?_; rintro e w9 ⟨rfl, hb9⟩; obtain ⟨hc9, hf9⟩ := bcell hb9))
            go_ret
            exact ⟨rfl, by ((repeat (first | exact Below.refl _ _ | assumption | refine Below.al ?_ _ | refine Below.ch ?_ (by assumption) | refine belowN ?_)))⟩
        · have hB : grB p bs (rstX x y up) (rstX y x up) = false := by unfold grB; rw [askE_rst]; simp [hE]
          have hnil : restsL p bs x y up = [] := rests_nil hB askE_rst
          have hE2 : askE p bs (rstX x y up) (rstX y x up) = askE p bs x y := askE_rst
          have hcn : (askE p bs x y != 0) = true := by simpa using hE
          have hce : (askE p bs x y == askE p bs x y) = true := by simp
          simp only [hnil] at hR
          have hE0 : ∀ w1 (h : Below w4.heap.size w4 w1), Calls Try.prog 52 #[.agg #[.int .i64 p, .slice a n cap], .pointer (some ⟨w.heap.size + 1 + 1 + 1, 0, none⟩), .pointer (some ⟨w.heap.size + 1, 0, none⟩), .pointer (some ⟨w.heap.size + 1 + 1, 0, none⟩)] w1 fun e w' =>
              e = .returned (.tuple #[.int .i64 (enV up (grN p bs (rstX x y up) (rstX y x up))), .bool false, .int .i64 (askE p bs x y)]) ∧ Below w1.heap.size w1 w' := fun w1 h => by
            have := HEnd.out w1 h bs a n cap (hb.below (hB4.ch h))
            rw [hB, hE2] at this
            exact this
          generalize enV up (grN p bs (rstX x y up) (rstX y x up)) = V at *
          generalize askE p bs x y = EE at *
          clear hB hE hE2 hok hc HEnd hdB hdL hw4 hnil
          go_enter Try.func14, Try.ntmps14
          go_wp2_with (first
            | (go_at_call 27; refine (hW _).mono ?_; rintro e w5 ⟨rfl, hb5⟩; obtain ⟨hc5, hf5⟩ := bcell hb5; have hz5a := lt_size hb5 (b := w.heap.size) (by first | assumption | omega | (simp; done) | (simp; omega)); have hz5b := lt_size hb5 (b := w.heap.size+1) (by first | assumption | omega | (simp; done) | (simp; omega)); have hz5c := lt_size hb5 (b := w.heap.size+1+1) (by first | assumption | omega | (simp; done) | (simp; omega)); have hz5d := lt_size hb5 (b := w.heap.size+1+1+1) (by first | assumption | omega | (simp; done) | (simp; omega)))
            | (go_at_call 30; refine (hD _ (by ((repeat (first | exact Below.refl _ _ | assumption | refine Below.al ?_ _ | refine Below.ch ?_ (by assumption) | refine belowN ?_))))).mono ?_; rintro e w6 ⟨v6, rfl, hb6, _⟩; obtain ⟨hc6, hf6⟩ := bcell hb6; have s6a := lt_size hb6 (b := w.heap.size) (by first | assumption | omega | (simp; done) | (simp; omega)); have s6b := lt_size hb6 (b := w.heap.size + 1) (by first | assumption | omega | (simp; done) | (simp; omega)); have s6c := lt_size hb6 (b := w.heap.size + 1 + 1) (by first | assumption | omega | (simp; done) | (simp; omega)); have s6d := lt_size hb6 (b := w.heap.size + 1 + 1 + 1) (by first | assumption | omega | (simp; done) | (simp; omega))))
          refine (hE0 _ (by rw [HW4.out]; ((repeat (first | exact Below.refl _ _ | assumption | refine Below.al ?_ _ | refine Below.ch ?_ (by assumption) | refine belowN ?_))))).mono ?_
          rintro e w7 ⟨rfl, hb7⟩
          obtain ⟨hc7, hf7⟩ := bcell hb7
          have s7a := lt_size hb7 (b := w.heap.size) (by first | assumption | omega | (simp; done) | (simp; omega))
          have s7b := lt_size hb7 (b := w.heap.size + 1) (by first | assumption | omega | (simp; done) | (simp; omega))
          have s7c := lt_size hb7 (b := w.heap.size + 1 + 1) (by first | assumption | omega | (simp; done) | (simp; omega))
          have s7d := lt_size hb7 (b := w.heap.size + 1 + 1 + 1) (by first | assumption | omega | (simp; done) | (simp; omega))
          go_wp2_with (first
            | (go_at_call 28; refine (hR _ (by ((repeat (first | exact Below.refl _ _ | assumption | refine Below.al ?_ _ | refine Below.ch ?_ (by assumption) | refine belowN ?_))))).mono ?_; rintro e w8 ⟨v8, rfl, hb8, ho8⟩; obtain ⟨ia, ic, rfl, _⟩ := owns_slice ho8)
            | (go_at_call 21; refine (lalive_any _).mono ?_; rintro e w9 ⟨rfl, hb9⟩; obtain ⟨hc9, hf9⟩ := bcell hb9))
          go_ret
          exact ⟨rfl, by ((repeat (first | exact Below.refl _ _ | assumption | refine Below.al ?_ _ | refine Below.ch ?_ (by assumption) | refine belowN ?_)))⟩
    · have hcn : (chk p bs != 0) = true := by simpa using hc
      generalize dbtL p bs = I at *
      generalize dbtB p bs = B at *
      generalize chk p bs = E at *
      clear hc
      go_enter Try.func14, Try.ntmps14
      go_wp2_with (first
        | (go_at_call 27; refine (hW _).mono ?_; rintro e w0 ⟨rfl, hb0⟩; obtain ⟨hc0, hf0⟩ := bcell hb0; have hz0a := lt_size hb0 (b := w.heap.size) (by first | assumption | omega | (simp; done) | (simp; omega)))
        | (go_at_call 30; refine (hD _ (by ((repeat (first | exact Below.refl _ _ | assumption | refine Below.al ?_ _ | refine Below.ch ?_ (by assumption) | refine belowN ?_))))).mono ?_; rintro e w1 ⟨v1, rfl, hb1, ho1⟩; obtain ⟨hc1, hf1⟩ := bcell hb1; have s1 := lt_size hb1 (b := w.heap.size) (by first | assumption | omega | (simp; done) | (simp; omega)); obtain ⟨ia, ic, rfl, _⟩ := owns_slice ho1)
        | (go_at_call 21; refine (lalive_any _).mono ?_; rintro e w9 ⟨rfl, hb9⟩; obtain ⟨hc9, hf9⟩ := bcell hb9))
      go_ret
      exact ⟨rfl, by ((repeat (first | exact Below.refl _ _ | assumption | refine Below.al ?_ _ | refine Below.ch ?_ (by assumption) | refine belowN ?_)))⟩
end Go.Proofs.Ytlkcfohmoeadbaa
