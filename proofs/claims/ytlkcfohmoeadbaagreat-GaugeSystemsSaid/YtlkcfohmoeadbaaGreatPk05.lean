/-
  Lemmas and walks for the laws on bounds and their sums; the parts' own heads say what each proves, for every input.
-/
import Derived.Test.YtlkcfohmoeadbaaGreatPk04
import Derived.Laws.Externs
import Derived.Shelf.Abstract
import Derived.BigRegionIn
set_option linter.unusedSimpArgs false
set_option linter.unusedVariables false
set_option linter.unnecessarySimpa false
/-
  Gauge, walked: within, need, points, CheckSystem with the library's ContainsFunc.
-/
namespace Go.Proofs.YtlkcfohmoeadbaaGreat
open Go.RowKit Go.Shelf
set_option maxHeartbeats 1000000

theorem makeFunc_run (fn : Fn) (first cap : Array Value) (w : World) : (Instr.makeFunc fn first cap).run Tryz.prog w = .ok (.func fn first cap) w := rfl

theorem gwithin_any (n lo hi : Int) (w : World) :
    Calls Tryz.prog 35 #[.int .i64 n, .int .i64 lo, .int .i64 hi] w fun e w' => e = .returned (.bool (withinB n lo hi)) ∧ w = w' := by
  by_cases h1 : lo ≤ n <;>
  · go_enter Tryz.func35, Tryz.ntmps35
    go_wp2
    go_ret
    exact ⟨by simp [withinB, *] <;> omega, rfl⟩

theorem gneed_yes (w : World) : Calls Tryz.prog 34 #[.bool true] w fun e w' => e = .returned (.tuple #[]) ∧ w = w' := by
  go_enter Tryz.func34, Tryz.ntmps34
  go_wp2
  go_end0
  exact ⟨rfl, rfl⟩

/-- What is given up with. -/
def foreign : Value := .iface 93 (.agg #[])
def gaveUp : List PanicEntry := [{ v := foreign, recovered := false }]

theorem gneed_no (w : World) : Calls Tryz.prog 34 #[.bool false] w fun e w' => e = .panicked gaveUp ∧ w = w' := by
  go_enter Tryz.func34, Tryz.ntmps34
  go_wp2
  exact ⟨rfl, rfl, rfl⟩

/-- A closure that tells something of a bound, in whatever world behind w0. -/
structure Tells (w0 : World) (k : Nat) (caps : Array Value) (p : Bd → Bool) : Prop where
  ent : ∀ args w, (callFunc k args).run Tryz.prog w = .ok (.enter k args) w
  tell : ∀ (w : World) (b : Bd), Below w0.heap.size w0 w → Calls Tryz.prog k (#[.agg #[.int .i64 b.frm, .int .i64 b.tow, .int .i64 b.most, .int .i64 b.bid]] ++ caps) w fun e w' => e = .returned (.bool (p b)) ∧ Below w.heap.size w w'

theorem Tells.later {w0 w1 : World} {k : Nat} {caps : Array Value} {p : Bd → Bool} (h : Tells w0 k caps p) (hb : Below w0.heap.size w0 w1) : Tells w1 k caps p :=
  ⟨h.ent, fun w b hw => h.tell w b (hb.trans (hw.mono hb.size))⟩

def idxB (p : Bd → Bool) (bs : List Bd) : Int := match bs.findIdx? p with | some i => i | none => -1

theorem take_succ_any {α : Type} [Inhabited α] {f : α → Bool} {l : List α} {k : Nat} (hk : k < l.length) (h : (l.take k).any f = false) (hx : f (l.getD k default) = false) : (l.take (k + 1)).any f = false := by
  rw [List.take_succ_eq_append_getElem hk, List.any_append, h]
  simpa [List.getD_eq_getElem?_getD, List.getElem?_eq_getElem hk] using hx

theorem idxB_hit {p : Bd → Bool} {bs : List Bd} {j : Nat} (hj : j < bs.length) (h : (bs.take j).any p = false) (hx : p (bs.getD j default) = true) : idxB p bs = j := by
  have : bs.findIdx? p = some j := by
    rw [List.findIdx?_eq_some_iff_getElem]
    refine ⟨hj, by simpa [List.getD_eq_getElem?_getD, List.getElem?_eq_getElem hj] using hx, fun i hi => ?_⟩
    rw [List.any_eq_false] at h
    have := h bs[i] (by rw [List.mem_take_iff_getElem]; exact ⟨i, by omega, rfl⟩)
    simpa using this
  simp [idxB, this]
theorem idxB_miss {p : Bd → Bool} {bs : List Bd} (h : bs.any p = false) : idxB p bs = -1 := by
  have : bs.findIdx? p = none := by
    rw [List.findIdx?_eq_none_iff]
    intro x hx
    rw [List.any_eq_false] at h
    simpa using h x hx
  simp [idxB, this]
theorem idxB_any (p : Bd → Bool) (bs : List Bd) : decide (0 ≤ idxB p bs) = bs.any p := by
  cases h : bs.any p with
  | false => rw [idxB_miss h]; rfl
  | true =>
    unfold idxB
    cases hf : bs.findIdx? p with
    | none =>
      rw [List.findIdx?_eq_none_iff] at hf
      rw [List.any_eq_true] at h
      obtain ⟨x, hx, hp⟩ := h
      have := hf x hx
      rw [hp] at this; cases this
    | some i => simp

theorem gindexFunc_any (a : Option Addr) (n cap : Nat) (bs : List Bd) (k : Nat) (caps : Array Value) (p : Bd → Bool) (w : World) (hb : BdsAt w a n cap bs) (hp : Tells w k caps p) :
    Calls Tryz.prog 72 #[.slice a n cap, .func (.func k) #[] caps] w fun e w' => e = .returned (.int .i64 (idxB p bs)) ∧ Below w.heap.size w w' := by
  have hlen := hb.small
  obtain rfl := hb.len
  have hent := hp.ent
  go_enter Tryz.func72, Tryz.ntmps72
  go_wp2
  go_loopw [8] (fun i wr => ∃ j : Nat, j ≤ bs.length ∧ i = .int .i64 j ∧ Below w.heap.size w wr ∧ (bs.take j).any p = false) (fun i _ => bs.length - (intOf i).toNat)
  case atStart => exact ⟨0, Nat.zero_le _, rfl, Below.refl _ _, rfl⟩
  case round =>
    obtain ⟨j, hj, rfl, hB, hall⟩ := hrel
    have Hall := Lib.hid hall
    clear hall
    have hbr := hb.below hB
    by_cases hlt : j < bs.length
    · obtain ⟨b, off, rfl, hbl, d0, d1, d2, d3⟩ := hbr.get hlt
      generalize hx : bs.getD j default = x at *
      have Hx := Lib.hid hx
      clear hx
      have hnn : (0 : Int) ≤ j := by omega
      have hT := hp.tell wr x hB
      have HT := Lib.hid hT
      clear hT
      go_wp2_with (refine (HT.out).mono ?_; rintro e w1 ⟨rfl, hb1⟩)
      case roundEnd =>
        have hpx : p x = false := by cases h : p x <;> simp_all
        go_roundw
        case rel => exact ⟨j + 1, by omega, by go_num, hB.trans (hb1.mono hB.size), take_succ_any hlt Hall.out (by rw [Hx.out]; exact hpx)⟩
        case measure => simp [intOf]; omega
      all_goals
        have hpx : p x = true := by assumption
        go_ret
        refine ⟨?_, hB.trans (hb1.mono hB.size)⟩
        rw [idxB_hit hlt Hall.out (by rw [Hx.out]; exact hpx)]; rfl
    · go_wp2_with fail
      go_ret
      rw [List.take_of_length_le (by omega)] at Hall
      refine ⟨?_, hB⟩
      rw [idxB_miss Hall.out]; rfl

theorem gcontainsFunc_any (a : Option Addr) (n cap : Nat) (bs : List Bd) (k : Nat) (caps : Array Value) (p : Bd → Bool) (w : World) (hb : BdsAt w a n cap bs) (hp : Tells w k caps p) :
    Calls Tryz.prog 39 #[.slice a n cap, .func (.func k) #[] caps] w fun e w' => e = .returned (.bool (bs.any p)) ∧ Below w.heap.size w w' := by
  go_enter Tryz.func39, Tryz.ntmps39
  go_wp2_with (go_at_call 72; refine (gindexFunc_any _ _ _ _ _ _ _ _ hb hp).mono ?_; rintro e w1 ⟨rfl, hb1⟩)
  go_ret
  exact ⟨by rw [← idxB_any p bs]; rfl, hb1⟩

theorem gwrong_any (p : Int) (b : Bd) (N : Nat) (w : World) (hc : w.cell? ⟨N, 0, none⟩ = some (.int .i64 p)) (h1 : 1 ≤ p) (h2 : p ≤ 60) :
    Calls Tryz.prog 38 #[.agg #[.int .i64 b.frm, .int .i64 b.tow, .int .i64 b.most, .int .i64 b.bid], .pointer (some ⟨N, 0, none⟩)] w fun e w' => e = .returned (.bool (!Bd.ok p b)) ∧ Below w.heap.size w w' := by
  have hN := World.block_lt_of_cell? w _ hc
  go_enter Tryz.func38, Tryz.ntmps38
  go_wp2_with (go_at_call 35; refine (gwithin_any _ _ _ _).mono ?_; rintro e w1 ⟨rfl, rfl⟩)
  all_goals
    go_ret
    refine ⟨?_, (Below.refl _ _).alloc (Nat.le_refl _) _⟩
    simp_all [Bd.ok]

theorem gcheck_any (p : Int) (a : Option Addr) (n cap : Nat) (bs : List Bd) (w : World) (hb : BdsAt w a n cap bs) :
    Calls Tryz.prog 10 #[.agg #[.int .i64 p, .slice a n cap]] w fun e w' => e = .returned (.int .i64 (chk p bs)) ∧ Below w.heap.size w w' := by
  have hlen := hb.small
  obtain rfl := hb.len
  have hmf := makeFunc_run
  have hbx := hb.below (w' := w.alloc (Obj.cells #[Value.int IntKind.i64 p, Value.slice a bs.length cap] 24)) ((Below.refl _ _).alloc (Nat.le_refl _) _)
  have hc0 : (w.alloc (Obj.cells #[Value.int IntKind.i64 p, Value.slice a bs.length cap] 24)).cell? ⟨w.heap.size, 0, none⟩ = some (.int .i64 p) := by simp [go_sem]
  by_cases hp : 1 ≤ p ∧ p ≤ 60
  · have hT : Tells (w.alloc (Obj.cells #[Value.int IntKind.i64 p, Value.slice a bs.length cap] 24)) 38 #[.pointer (some ⟨w.heap.size, 0, none⟩)] (fun b => !Bd.ok p b) :=
      ⟨enters_of Tryz.func38 (by kernel_rfl) rfl, fun w1 b hw => gwrong_any p b _ w1 (((bcell hw).1 _ _ (by simp)).trans hc0) hp.1 hp.2⟩
    obtain ⟨hp1, hp2⟩ := hp
    clear hc0
    have hlin : (bs.any fun b => !Bd.ok p b) = !(bs.all (Bd.ok p)) := by rw [Bool.eq_iff_iff]; simp
    have Hlin := Lib.hid hlin
    clear hlin
    go_enter Tryz.func10, Tryz.ntmps10
    go_wp2_with (go_at_call 39; refine (gcontainsFunc_any _ _ _ _ _ _ _ _ hbx hT).mono ?_; rintro e w1 ⟨rfl, hb1⟩)
    all_goals
      rw [Hlin.out] at *
      go_ret
      refine ⟨ret_int ?_, by ((repeat (first | assumption | exact Below.refl _ _ | refine Below.alloc ?_ ?_ _ | refine Below.setCell ?_ ?_ _ | refine Below.drew ?_ | refine belowN ?_ | refine Below.up ?_ (by assumption) ?_)) <;> (first | assumption | omega | (simp; done) | (simp; omega)))⟩
      unfold chk
      (repeat' split) <;> (first | rfl | omega | (exfalso; simp_all; done) | (simp_all; done))
  · go_enter Tryz.func10, Tryz.ntmps10
    go_wp2
    all_goals
      go_ret
      refine ⟨ret_int ?_, by ((repeat (first | assumption | exact Below.refl _ _ | refine Below.alloc ?_ ?_ _ | refine Below.setCell ?_ ?_ _ | refine Below.drew ?_ | refine belowN ?_ | refine Below.up ?_ (by assumption) ?_)) <;> (first | assumption | omega | (simp; done) | (simp; omega)))⟩
      unfold chk
      (repeat' split) <;> (first | rfl | omega | (exfalso; simp_all; omega) | (simp_all; done))
end Go.Proofs.YtlkcfohmoeadbaaGreat

/-
  Gauge, walked: copied, checked, tied, With.
-/
namespace Go.Proofs.YtlkcfohmoeadbaaGreat
open Go.RowKit Go.Shelf
set_option maxHeartbeats 1000000

theorem gcopiedB_any (a : Option Addr) (n cap : Nat) (bs : List Bd) (w : World) (hb : BdsAt w a n cap bs) (hs : bs.length ≤ 100000) :
    Calls Tryz.prog 42 #[.slice a n cap] w fun e w' => ∃ v, e = .returned v ∧ w'.ownsRow w.heap.size 26 4 v bs.length (bcs bs) ∧ Below w.heap.size w w' := by
  obtain rfl := hb.len
  go_enter Tryz.func42, Tryz.ntmps42
  go_wp2_with (at_builtin; refine wpList_app elemB rfl _ _ rfl (World.ownsRow_nil _ w.heap.size _ _) rfl rfl hb.row (bcs_length bs) (bcs_one bs) ?_ ?_ ?_ ?_)
  · unfold maxLen; omega
  · omega
  · simp
  · intro v' w' hown hg hb1 _ _
    go_wp2
    go_ret
    exact ⟨v', rfl, by simpa using hown, hb1⟩

theorem gcopiedI_any (a : Option Addr) (n cap : Nat) (xs : List Int) (w : World) (hb : IntsAt w a n cap xs) (hs : xs.length ≤ 100000) :
    Calls Tryz.prog 79 #[.slice a n cap] w fun e w' => ∃ v, e = .returned v ∧ w'.ownsRow w.heap.size 3 1 v xs.length (xs.map (.int .i64)) ∧ Below w.heap.size w w' := by
  obtain rfl := hb.len
  go_enter Tryz.func79, Tryz.ntmps79
  go_wp2_with (at_builtin; refine wpList_app elemI rfl _ _ rfl (World.ownsRow_nil _ w.heap.size _ _) rfl rfl hb.row (by simp) (ones_int xs) ?_ ?_ ?_ ?_)
  · unfold maxLen; omega
  · omega
  · simp
  · intro v' w' hown hg hb1 _ _
    go_wp2
    go_ret
    exact ⟨v', rfl, by simpa using hown, hb1⟩

/-- checked hands the system on, or says what is wrong with it. -/
theorem gchecked_any (p : Int) (a : Option Addr) (n cap : Nat) (bs : List Bd) (w : World) (hb : BdsAt w a n cap bs) :
    Calls Tryz.prog 41 #[.agg #[.int .i64 p, .slice a n cap]] w fun e w' =>
      e = .returned (if chk p bs = 0 then .tuple #[.agg #[.int .i64 p, .slice a n cap], .int .i64 0] else .tuple #[.agg #[.int .i64 0, .slice none 0 0], .int .i64 (chk p bs)]) ∧ Below w.heap.size w w' := by
  have hbx := hb.below (w' := (w.alloc (Obj.cells #[Value.int IntKind.i64 p, Value.slice a n cap] 24)).alloc (Obj.cells #[Value.int IntKind.i64 0, Value.slice none 0 0] 24)) (((Below.refl _ _).alloc (Nat.le_refl _) _).alloc (by simp) _)
  by_cases h0 : chk p bs = 0
  · go_enter Tryz.func41, Tryz.ntmps41
    go_wp2_with (go_at_call 10; refine (gcheck_any _ _ _ _ _ _ hbx).mono ?_; rintro e w1 ⟨rfl, hb1⟩; obtain ⟨hc1, hf1⟩ := bcell hb1; have hz1a := lt_size hb1 (b := w.heap.size) (by first | assumption | omega | (simp; done) | (simp; omega)); have hz1b := lt_size hb1 (b := w.heap.size+1) (by first | assumption | omega | (simp; done) | (simp; omega)))
    refine bodyPost_ret (v := .tuple #[.agg #[.int .i64 p, .slice a n cap], .int .i64 0]) (by simp [results, Tryz.results41, go_sem, *]) rfl ⟨by simp, ?_⟩
    ((repeat (first | assumption | exact Below.refl _ _ | refine Below.alloc ?_ ?_ _ | refine Below.setCell ?_ ?_ _ | refine Below.drew ?_ | refine belowN ?_ | refine Below.up ?_ (by assumption) ?_)) <;> (first | assumption | omega | (simp; done) | (simp; omega)))
  · have h0' : (chk p bs == 0) = false := by simpa using h0
    go_enter Tryz.func41, Tryz.ntmps41
    go_wp2_with (go_at_call 10; refine (gcheck_any _ _ _ _ _ _ hbx).mono ?_; rintro e w1 ⟨rfl, hb1⟩; obtain ⟨hc1, hf1⟩ := bcell hb1; have hz1a := lt_size hb1 (b := w.heap.size) (by first | assumption | omega | (simp; done) | (simp; omega)); have hz1b := lt_size hb1 (b := w.heap.size+1) (by first | assumption | omega | (simp; done) | (simp; omega)))
    refine bodyPost_ret (v := .tuple #[.agg #[.int .i64 0, .slice none 0 0], .int .i64 (chk p bs)]) (by simp [results, Tryz.results41, go_sem, *]) rfl ⟨by simp, ?_⟩
    ((repeat (first | assumption | exact Below.refl _ _ | refine Below.alloc ?_ ?_ _ | refine Below.setCell ?_ ?_ _ | refine Below.drew ?_ | refine belowN ?_ | refine Below.up ?_ (by assumption) ?_)) <;> (first | assumption | omega | (simp; done) | (simp; omega)))

set_option maxRecDepth 100000 in
theorem gtied_any (p a b n : Int) (ad : Option Addr) (len cap : Nat) (bs : List Bd) (w : World) (hb : BdsAt w ad len cap bs) (hs : bs.length ≤ 400) (hn : -100000000 ≤ n ∧ n ≤ 100000000) :
    Calls Tryz.prog 59 #[.agg #[.int .i64 p, .slice ad len cap], .int .i64 a, .int .i64 b, .int .i64 n] w fun e w' =>
      ∃ v, e = .returned (.agg #[.int .i64 p, v]) ∧ w'.ownsRow w.heap.size 26 4 v (bs.length + 2) (bcs (bs ++ [⟨a, b, n, 0⟩, ⟨b, a, -n, 0⟩])) ∧ Below w.heap.size w w' := by
  obtain rfl := hb.len
  go_enter Tryz.func59, Tryz.ntmps59
  go_wp2_with fail
  refine SL.rule (by kernel_rfl) [w.heap.size + 1] [9, 10, 11, 12, 13, 14, 15, 16, 17, 18, 19, 20, 21, 22, 23, 24, 25, 8] [
    SL.pu 9 [] (.pointer (some ⟨w.heap.size, 0, none⟩)), SL.pu 10 [0] (.int .i64 p), SL.pu 11 [] (.pointer (some ⟨w.heap.size, 1, none⟩)), SL.pu 12 [2] (.slice ad bs.length cap),
    SL.row 13 [3] [] w.heap.size 26 4 bs.length (bcs bs), SL.pu 14 [] (.int .i64 a), SL.pu 15 [] (.int .i64 b), SL.pu 16 [] (.int .i64 n), SL.pu 17 [5, 6, 7] (.agg #[.int .i64 a, .int .i64 b, .int .i64 n, .int .i64 0]),
    SL.pu 18 [] (.int .i64 b), SL.pu 19 [] (.int .i64 a), SL.pu 20 [] (.int .i64 n), SL.pu 21 [11] (.int .i64 (-n)), SL.pu 22 [9, 10, 12] (.agg #[.int .i64 b, .int .i64 a, .int .i64 (-n), .int .i64 0]),
    SL.row 23 [8, 13] [] w.heap.size 26 4 2 (bcs [⟨a, b, n, 0⟩, ⟨b, a, -n, 0⟩]), SL.row 24 [4, 14] [4] w.heap.size 26 4 (bs.length + 2) (bcs bs ++ bcs [⟨a, b, n, 0⟩, ⟨b, a, -n, 0⟩]),
    SL.rowIn 25 [1, 15] [15] w.heap.size 26 4 (bs.length + 2) (bcs bs ++ bcs [⟨a, b, n, 0⟩, ⟨b, a, -n, 0⟩]) (fun u => .agg #[.int .i64 p, u]),
    SL.boxAtIn 8 [16, 18] [16, 18] (w.heap.size + 1) 24 w.heap.size 26 4 (bs.length + 2) (bcs bs ++ bcs [⟨a, b, n, 0⟩, ⟨b, a, -n, 0⟩]) (fun u => #[.int .i64 p, u]),
    SL.boxAt 8 [] [] (w.heap.size + 1) 24 #[.int .i64 0, .slice none 0 0]] [17] (by kernel_rfl) (by kernel_rfl) _ (SL.one_held (N := w.heap.size + 1) rfl rfl ?_ ?_) SL.one_apart ?_ ?_
  · have h8 := heap_alloc_new (w.alloc (Obj.cells #[Value.int IntKind.i64 p, Value.slice ad bs.length cap] 24)) (Obj.cells #[Value.int IntKind.i64 0, Value.slice none 0 0] 24)
    simp only [World.size_alloc] at h8
    exact ⟨rfl, h8, rfl⟩
  · simp
  · refine ⟨?_, ?_, ?_, ?_, ?_, ?_, ?_, ?_, ?_, ?_, ?_, ?_, ?_, ?_, ?_, ?_, ?_, ?_, trivial⟩
    all_goals refine SL.ob fun us w' Fe hG hu hd hv K hK => ?_
    all_goals simp [SL.frame, SL.put', SL.Used, SL.Seen, SL.pu, SL.row, SL.box, SL.rowIn, SL.boxIn, SL.boxAt, SL.boxAtIn, Bd.v, Bd.cs] at hu hv hK ⊢
    all_goals (obtain ⟨hg1, hg2⟩ := hG.cellsF; simp only [World.size_alloc] at hg1 hg2)
    all_goals (have hsz := hG.size; simp only [World.size_drew, World.size_alloc] at hsz)
    all_goals try (go_step; refine hK _ _ _ _ (by simp [Act.put, *]; done) (SL.Chg.refl _ _) rfl rfl (by simp))
    · go_step
      refine (gcopiedB_any _ _ _ _ _ (hb.below ((((Below.refl _ w).alloc (Nat.le_refl _) _).alloc (by simp) _).trans (hG.belowF (B := w.heap.size) (by simp; omega) (by simp)))) (by omega)).mono ?_
      rintro e w2 ⟨v, rfl, ho2, hb2⟩
      exact hK _ v w2 _ (by simp [Act.put, *]) (.of_below hb2) (SL.row_base ho2 (by omega)) rfl (SL.row_bounds ho2)
    · go_step
      refine hK _ _ _ _ (by simp [Act.put, *]; done) (.alloc _ _ _) (World.ownsRow_lit w' _ 2 (by omega) (by decide) rfl) rfl (by simp [Value.ownBlock])
    · obtain ⟨⟨u1, u2⟩, u3, u4⟩ := hu
      obtain ⟨sa, c, hsl, _⟩ := owns_slice u3
      refine wp_app elemB _ _ rfl u1 rfl hsl (RowAt.of_owns (hsl ▸ u3)) (bcs_length _) (bcs_one _) (by unfold maxLen; omega) (by omega) (by omega) ?_
      intro v' w2 ho hg hb _ hat
      refine hK _ v' w2 _ rfl ?_ ho rfl ?_
      · exact .of_own hg (by rw [u2]; simp)
      · rw [u2]; exact SL.app_bounds u1 ho hat
    · obtain ⟨⟨u1, _⟩, u2, u3⟩ := hu
      obtain ⟨sa, c, hsl, _⟩ := owns_slice u2
      go_step
      refine hK _ _ _ _ (by simp [Act.put, *]; done) (.refl _ _) _ rfl (hsl ▸ u2) rfl ?_
      rw [u3]; simp [hsl]; exact fun k h => .inl h
    · obtain ⟨⟨u, hu1, u2, u3⟩, hu4, u4, u5⟩ := hu
      obtain ⟨sa, c, hsl, _⟩ := owns_slice u2
      subst hsl
      have c0 := (SL.cells_of u4).1 0
      have c1 := (SL.cells_of u4).1 1
      have f0 := (SL.cells_of u4).2
      simp at c0 c1
      have hne : w.heap.size + 1 ∉ (Value.slice sa (bs.length + 2) c).ownBlock.toList := by
        have := hd 18 16 (by simp [SL.boxAtIn]) (by simp [SL.boxAtIn]) (by simp) (w.heap.size + 1) (by rw [u5]; simp)
        rwa [u3] at this
      go_step
      refine hK _ undef _ _ (by simp [Act.put, *]; done) (.trans (.setCell _ (by simp [u5]) _) (.setCell _ (by simp [u5]) _)) hu4 _ (SL.heap_set (SL.heap_set u4 _) _) (SL.row_set (SL.row_set u2 hne _) hne _) rfl ?_
      rw [u5, u3]; simp; exact fun k h => .inl (.inl h)
  · intro us w' Fs hG hu hbd hd
    simp [SL.frame, SL.put', SL.Used, SL.Seen, SL.pu, SL.row, SL.box, SL.rowIn, SL.boxIn, SL.boxAt, SL.boxAtIn, Bd.v, Bd.cs] at hu ⊢
    obtain ⟨u8, y, hh, ho, hF⟩ := hu
    obtain ⟨sa, c, hsl, _⟩ := owns_slice ho
    subst hsl
    have c0 := (SL.cells_of hh).1 0
    have c1 := (SL.cells_of hh).1 1
    simp at c0 c1
    simp only [u8]
    go_wp2
    refine bodyPost_ret (v := .agg #[.int .i64 p, .slice sa (bs.length + 2) c]) (by simp [results, Tryz.results59, go_sem, *]) rfl ⟨_, rfl, by rw [bcs_append]; exact ho, (((Below.refl _ w).alloc (Nat.le_refl _) _).alloc (by simp) _).trans (hG.belowF (B := w.heap.size) (by simp; omega) (by simp))⟩
end Go.Proofs.YtlkcfohmoeadbaaGreat

/-
  Gauge, walked: empty, relaxing, settled.
-/
namespace Go.Proofs.YtlkcfohmoeadbaaGreat
open Go.RowKit Go.Shelf
set_option maxHeartbeats 1000000
set_option maxRecDepth 100000
attribute [local go_sem] Oper.semAt_some

/-- What settled works on, as it lies in a world: the system's box, the box of the row's pointer, the row, the last bounds. -/
structure SW (p : Int) (a : Option Addr) (cap : Nat) (bs : List Bd) (SB PB N M : Nat) (lo : Int) (W0 : World) (s : RL) (W : World) : Prop where
  os : W.os = W0.os
  tape : W.tape = W0.tape
  output : W.output = W0.output
  sb : W.heap[SB]? = some (.cells #[.int .i64 p, .slice a bs.length cap] 24 (0, 0))
  pb : W.heap[PB]? = some (.cells #[.pointer (some ⟨N, 0, none⟩)] 104 (0, 0))
  row : W.heap[N]? = some (.cells (ints s.r) 77 (0, 0))
  lst : W.heap[M]? = some (.cells (ints s.last) 76 (0, 0))
  bds : BdsAt W a bs.length cap bs
  ok : s.ok lo

theorem abide {β : Type} {B : Nat} {J : β → World → Prop} (hA : AbidesFrom B J) {s : β} {w w' : World} (h : J s w) (hb : Below w.heap.size w w') : J s w' :=
  hA s w w' none h ⟨hb.os, hb.tape, hb.output, hb.size, fun k hk _ => hb.block k hk⟩ (fun r e => by cases e)

theorem grelaxing1_any (p : Int) (a : Option Addr) (cap : Nat) (bs : List Bd) (SB PB N M : Nat) (lo : Int) (l : Nat) (J : RL → World → Prop) (s0 : RL) (W0 W : World)
    (hbs : bs.length ≤ 402) (hin : ∀ b ∈ bs, b.inr) (hlo : -3000000000000 ≤ lo)
    (hJI : ∀ s W, J s W → SW p a cap bs SB PB N M lo W0 s W) (hA : AbidesFrom W.heap.size J) (h0 : J { s0 with nx := 0 } W)
    (hy : ∀ (s : RL) (k : Nat) (W1 : World), J s W1 → k < bs.length → s.nx ≤ k → opens FAR s.r (bs.getD k default) = true → YieldAt Fence.wide 0 Tryz.prog l #[.int .i64 k, (bs.getD k default).v] W1 fun e W' => e = .returned (.bool true) ∧ J (s.upd k (bs.getD k default)) W') :
    CallsIn Fence.wide 0 Tryz.prog 93 #[.func (.yield l) #[] #[], .pointer (some ⟨SB, 0, none⟩), .pointer (some ⟨PB, 0, none⟩)] W fun e W' => (∃ v, e = .returned v) ∧ J (s0.pass FAR bs bs.length) W' := by
  refine callsIn_of_wp Tryz.func93 rfl trivial ?_
  simp only [Tryz.ntmps93, List.size_toArray, List.length_cons, List.length_nil, Nat.reduceAdd, Nat.reduceSub, Array.replicate_succ, Array.replicate_zero, List.push_toArray, List.append_toArray, List.nil_append, List.cons_append]
  have hI0 := hJI _ _ h0
  obtain ⟨sc, sf⟩ := SL.cells_of hI0.sb
  have c1 := sc 1
  simp at c1
  gi_wp2_with fail
  gi_loopw [9] (fun i wr => ∃ k : Nat, k ≤ bs.length ∧ i = .int .i64 k ∧ J (s0.pass FAR bs k) wr) (fun i _ => bs.length - (intOf i).toNat)
  case atStart => exact ⟨0, Nat.zero_le _, rfl, h0⟩
  case round =>
    obtain ⟨k, hk, rfl, hJ⟩ := hrel
    have hI := hJI _ _ hJ
    by_cases hlt : k < bs.length
    · have HY := Lib.hid (fun W1 (hJ1 : J (s0.pass FAR bs k) W1) => hy _ k W1 hJ1 hlt (RL.pass_nx _ _ _ _))
      have Hstep : RowKit.Hid (s0.pass FAR bs (k + 1) = (s0.pass FAR bs k).step FAR k (bs.getD k default)) := Lib.hid rfl
      have hb : (bs.getD k default).inr := hin _ (by rw [List.getD_eq_getElem?_getD, List.getElem?_eq_getElem hlt]; exact List.getElem_mem _)
      obtain ⟨b, off, rfl, hbl, d0, d1, d2, d3⟩ := hI.bds.get hlt
      generalize bs.getD k default = x at *
      obtain ⟨x0, x1, x2, x3, x4, x5⟩ := hb
      generalize hs : s0.pass FAR bs k = s at *
      have hp := (SL.cells_of hI.pb).1 0
      simp at hp
      obtain ⟨l0, l1⟩ := hI.ok.lows x.frm x0 x1
      obtain ⟨l2, l3⟩ := hI.ok.lows x.tow x2 x3
      have hrl := hI.ok.rl
      have hnx : s.nx ≤ k := by rw [← hs]; exact RL.pass_nx _ _ _ _
      have r0 := ((SL.cells_of hI.row).1 x.frm.toNat).trans (gi_cell x0 (by omega))
      have r1 := ((SL.cells_of hI.row).1 x.tow.toNat).trans (gi_cell x2 (by omega))
      unfold FAR at l1 l3
      have l0' : -4000000000000 ≤ gi s.r x.frm := by omega
      have l2' : -4000000000000 ≤ gi s.r x.tow := by omega
      clear l0 l2
      have hwr : IntKind.i64.wrap (gi s.r x.frm + x.most) = gi s.r x.frm + x.most := IntWalk.i64_in _ (by omega)
      have hPB := World.block_lt_of_cell? wr _ hp
      have hN := World.block_lt_of_cell? wr _ r0
      simp only at hPB hN
      gi_wp2_with fail
      have hcw : ∀ o, J s ((wr.alloc (Obj.cells #[.int .i64 x.frm, .int .i64 x.tow, .int .i64 x.most, .int .i64 x.bid] 26)).drewN o) := fun o => abide hA hJ (by ((repeat (first | assumption | exact Below.refl _ _ | refine Below.alloc ?_ ?_ _ | refine Below.setCell ?_ ?_ _ | refine Below.drew ?_ | refine belowN ?_ | refine Below.up ?_ (by assumption) ?_)) <;> (first | assumption | omega | (simp; done) | (simp; omega))))
      by_cases q1 : gi s.r x.frm < 1099511627776
      · have q1' : decide (gi s.r x.frm < 1099511627776) = true := by simpa using q1
        by_cases q2 : gi s.r x.frm + x.most < gi s.r x.tow
        · have ho : opens FAR s.r x = true := opens_FAR.2 ⟨q1, q2⟩
          have Hst : RowKit.Hid (s0.pass FAR bs (k + 1) = s.upd k x) := Lib.hid (by rw [show s0.pass FAR bs (k + 1) = s.step FAR k x from Hstep]; simp [RL.step, ho])
          have q2' : decide (gi s.r x.frm + x.most < gi s.r x.tow) = true := by simpa using q2
          have hz1 : wr.heap.size < (wr.alloc (Obj.cells #[.int .i64 x.frm, .int .i64 x.tow, .int .i64 x.most, .int .i64 x.bid] 26)).heap.size := by simp
          refine region_cut_at (by kernel_rfl) 29 (by kernel_rfl) (by kernel_rfl) ?_
          simp only [List.take_succ_cons, List.take_zero, List.drop_succ_cons, List.drop_zero]
          repeat (quiet_step (fail))
          refine wpQuiet_nil ?_
          intro _ hw'
          obtain ⟨nq, hw''⟩ := hw'
          subst hw''
          change wpListIn Fence.wide 0 _ _ _ _ _ _
          obtain ⟨fn, tmps, assign, body, hyy, hR⟩ := HY.out _ (hcw nq) ho
          simp only [Bd.v] at hyy
          have HR := Lib.hid hR
          clear hR
          gi_wp2
          refine ⟨rfl, HR.out.mono ?_⟩
          rintro e W3 ⟨rfl, hJ3⟩
          gi_wp2
          go_roundw
          case rel => exact ⟨k + 1, by omega, by go_num, Hst.out ▸ hJ3⟩
          case measure => simp [intOf]; omega
        · have q2' : decide (gi s.r x.frm + x.most < gi s.r x.tow) = false := by simpa using q2
          have ho : opens FAR s.r x = false := by cases h : opens FAR s.r x with | false => rfl | true => (have := opens_FAR.1 h; omega)
          have Hst : RowKit.Hid (s0.pass FAR bs (k + 1) = s) := Lib.hid (by rw [show s0.pass FAR bs (k + 1) = s.step FAR k x from Hstep]; simp [RL.step, ho])
          refine wpIn_wide.2 ?_
          go_quiet (fail)
          gi_wp2
          go_roundw
          case rel => exact ⟨k + 1, by omega, by go_num, Hst.out ▸ hcw _⟩
          case measure => simp [intOf]; omega
      · have q1' : decide (gi s.r x.frm < 1099511627776) = false := by simpa using q1
        have ho : opens FAR s.r x = false := by cases h : opens FAR s.r x with | false => rfl | true => (have := opens_FAR.1 h; omega)
        have Hst : RowKit.Hid (s0.pass FAR bs (k + 1) = s) := Lib.hid (by rw [show s0.pass FAR bs (k + 1) = s.step FAR k x from Hstep]; simp [RL.step, ho])
        refine wpIn_wide.2 ?_
        go_quiet (fail)
        gi_wp2
        go_roundw
        case rel => exact ⟨k + 1, by omega, by go_num, Hst.out ▸ hcw _⟩
        case measure => simp [intOf]; omega
    · gi_wp2_with fail
      go_end0
      obtain rfl : k = bs.length := by omega
      exact ⟨⟨_, rfl⟩, hJ⟩
end Go.Proofs.YtlkcfohmoeadbaaGreat
