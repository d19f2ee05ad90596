/-
  Lemmas and walks for the laws on roads and boards: what each function of the program answers, for every input.
-/
import Derived.Test.YtodkbfbbpfghiaaGreatPc10
import Derived.Test.YtodkbfbbpfghiaaGreatPc08
import Derived.Test.YtodkbfbbpfghiaaGreatPc04
import Derived.Test.YtodkbfbbpfghiaaGreatPc05
import Derived.ChangeKeysEq
import Derived.Laws.StructEq
import Derived.Test.YtodkbfbbpfghiaaGreatPc09
import Derived.DeepKeys4
import Derived.Maps.OwnOps
import Derived.WalkArith
import Derived.Test.YtodkbfbbpfghiaaGreatPc07
set_option linter.unusedSimpArgs false
set_option linter.unusedVariables false
set_option linter.unnecessarySimpa false
namespace Go.Proofs.YtodkbfbbpfghiaaGreat
open Go.RowKit Go.Shelf
set_option maxHeartbeats 4000000
set_option maxRecDepth 100000
theorem wvessels (a : Option Addr) (n cap : Nat) (v : List Int) (w : World) (hx : IntsAt w a n cap v) (hr : ∀ x ∈ v, -1000000000 ≤ x ∧ x ≤ 1000000000) :
    Calls Tryz.prog 138 #[.slice a n cap] w fun e w' => e = .returned (.int .i64 (vesL v)) ∧ Below w.heap.size w w' := by
  have hsm := hx.small
  obtain rfl := hx.len
  obtain ⟨T, hT⟩ : ∃ T, vesL v = T := ⟨_, rfl⟩
  have HT := Lib.hid hT
  rw [hT]
  clear hT
  go_enter Tryz.func138, Tryz.ntmps138
  go_wp2_with fail
  go_loopw [3, 8] (fun m i wr => ∃ k : Nat, k ≤ v.length ∧ i = .int .i64 k ∧ m = .int .i64 (vesL (v.take k)) ∧ Below w.heap.size w wr) (fun _ i _ => v.length - (RowKit.intOf i).toNat)
  case atStart => exact ⟨0, Nat.zero_le _, rfl, rfl, Below.refl _ _⟩
  case round =>
    obtain ⟨k, hk, rfl, rfl, hB⟩ := hrel
    have hnn : (0 : Int) ≤ k := by omega
    by_cases hlt : k < v.length
    · have i1 : (k : Int) < (v.length : Int) := by omega
      obtain ⟨b, o, rfl, _, d0⟩ := (hx.below hB).get hlt
      have hxx := hr _ (mem_getD hlt)
      have Hs := Lib.hid (show vesL (v.take (k + 1)) = max (vesL (v.take k)) (v.getD k 0 + 1) by rw [take_get hlt, vesL_snoc]; rfl)
      generalize v.getD k 0 = x at *
      generalize vesL (v.take k) = M at *
      obtain ⟨N, hN⟩ : ∃ N, max M (x + 1) = N := ⟨_, rfl⟩
      have hmx : (if M < x + 1 then x + 1 else M) = N := by rw [← hN]; split <;> omega
      have HN := Lib.hid hN
      obtain ⟨x1, x2⟩ := hxx
      clear hN
      go_wp2_with fail
      go_roundw
      case rel => exact ⟨k + 1, by omega, by go_num, by rw [Hs.out, HN.out], hB⟩
      case measure => simp [RowKit.intOf]; omega
    · rw [List.take_of_length_le (by omega)] at *
      go_wp2_with fail
      go_ret
      exact ⟨ret_int HT.out, hB⟩
theorem wmost (c : Cs) (N : Nat) (a : Option Addr) (ca : Nat) (f : Option Addr) (cf : Nat) (w : World) (ht : TabAt w N c a ca f cf) (hm : c.ps.length ≤ 40) :
    Calls Tryz.prog 85 #[.pointer (some ⟨N, 0, none⟩)] w fun e w' => e = .returned (.int .i64 c.most) ∧ Below w.heap.size w w' := by
  obtain ⟨c0, c1, c2, c3, c4, c5⟩ := ht.get
  have hN := ht.lt
  have hmo : c.most = if 0 < c.lim then min (c.ps.length : Int) c.lim else c.ps.length := rfl
  clear c0 c2 c4 c5 ht
  generalize c.most = T at *
  generalize c.ps.length = n at *
  generalize c.lim = lim at *
  by_cases hl : 0 < lim
  · rw [if_pos hl] at hmo
    have hgt : decide (0 < lim) = true := by simpa using hl
    have hmn : (if (n : Int) < lim then (n : Int) else lim) = T := by rw [hmo]; split <;> omega
    have hmn2 : min lim (n : Int) = T := by rw [hmo]; omega
    clear hmo
    go_enter Tryz.func85, Tryz.ntmps85
    go_wp2_with fail
    go_quiet (fail)
    go_wp2
    go_ret
    exact ⟨rfl, belowN (Below.refl _ _)⟩
  · rw [if_neg hl] at hmo
    subst hmo
    have hgt : decide (0 < lim) = false := by simpa using hl
    clear hl
    go_enter Tryz.func85, Tryz.ntmps85
    go_wp2_with fail
    go_ret
    exact ⟨rfl, Below.refl _ _⟩
open Go.Lib
def PairPost (w : World) (c : Cs) (x y : Int) (e : Ending) (w' : World) : Prop :=
  (c.two x y ≠ 0 → ∃ t, e = .returned (.tuple #[t, .int .i64 (min x y), .int .i64 (max x y), .int .i64 (c.two x y)]) ∧ Below w.heap.size w w') ∧
  (c.two x y = 0 → ∃ N a ca f cf, e = .returned (.tuple #[.pointer (some ⟨N, 0, none⟩), .int .i64 (min x y), .int .i64 (max x y), .int .i64 0]) ∧ Below w.heap.size w w' ∧ w.heap.size ≤ N ∧ TabAt w' N c a ca f cf)
theorem Cs.two_eq (c : Cs) (x y : Int) : c.two x y = if c.ask [x, y] = 0 ∧ x = y then 1 else c.ask [x, y] := rfl
theorem wpair (c : Cs) (x y : Int) (w : World) (hc : CsAt w c) :
    Calls Tryz.prog 67 #[c.v, .int .i64 x, .int .i64 y] w (PairPost w c x y) := by
  have hC := fun w1 a2 n2 c2 (h : CsAt w1 c) (hl : IntsAt w1 a2 n2 c2 [x, y]) => wlaid c a2 n2 c2 [x, y] w1 h hl
  have h2 := c.two_eq x y
  have hP := Lib.hid (show ∀ e w', ((c.two x y ≠ 0 → ∃ t, e = .returned (.tuple #[t, .int .i64 (min x y), .int .i64 (max x y), .int .i64 (c.two x y)]) ∧ Below w.heap.size w w') ∧
    (c.two x y = 0 → ∃ N a ca f cf, e = .returned (.tuple #[.pointer (some ⟨N, 0, none⟩), .int .i64 (min x y), .int .i64 (max x y), .int .i64 0]) ∧ Below w.heap.size w w' ∧ w.heap.size ≤ N ∧ TabAt w' N c a ca f cf)) → PairPost w c x y e w' from fun e w' h => h)
  generalize PairPost w c x y = Post at *
  unfold LaidPost at hC
  generalize c.ask [x, y] = E at *
  generalize c.two x y = T at *
  obtain ⟨mn, hmn⟩ : ∃ m, min x y = m := ⟨_, rfl⟩
  obtain ⟨mx, hmx⟩ : ∃ m, max x y = m := ⟨_, rfl⟩
  rw [hmn, hmx] at hP
  have j1 : (if y < x then y else x) = mn := by rw [← hmn]; split <;> omega
  have j2 : (if x < y then y else x) = mx := by rw [← hmx]; split <;> omega
  clear hmn hmx
  by_cases h0 : E = 0
  · subst h0
    simp only [ne_eq, not_true, false_implies, true_and, true_implies] at hC
    by_cases hxy : x = y
    · have hT : T = 1 := by rw [h2, if_pos ⟨rfl, hxy⟩]
      subst hT
      have b1 : (x == y) = true := by simp [hxy]
      have HP := Lib.hid (fun w' hb t => hP.out (.returned (.tuple #[t, .int .i64 mn, .int .i64 mx, .int .i64 1])) w' ⟨fun _ => ⟨t, rfl, hb⟩, fun h => by cases h⟩)
      obtain ⟨ware, lim, byr, a, cap, ps⟩ := c
      simp only [Cs.v] at *
      have hB0 := one_alloc w (Obj.cells #[.string ware, .int .i64 lim, .int .i64 byr, .slice a ps.length cap] 24)
      have hbx := hc.below hB0
      clear h2 hP hxy
      go_enter Tryz.func67, Tryz.ntmps67
      go_wp2_with (go_at_call 75; refine (hC _ _ _ _ (hbx.below (one_alloc _ _)) (lit2b _ _ _ _)).mono ?_; rintro e w1 ⟨N, a1, ca, f1, cf, rfl, hb1, hN, hT⟩)
      refine bodyPost_ret (v := .tuple #[.pointer (some ⟨N, 0, none⟩), .int .i64 mn, .int .i64 mx, .int .i64 1]) (by simp [results, Tryz.results67, go_sem]) rfl (HP.out _ ((hB0.ch2 (one_alloc _ _)).ch2 hb1) _)
    · have hT : T = 0 := by rw [h2, if_neg (fun h => hxy h.2)]
      subst hT
      have b1 : (x == y) = false := by simpa using hxy
      have HP := Lib.hid (fun w' N a ca f cf hb hN hT => hP.out (.returned (.tuple #[.pointer (some ⟨N, 0, none⟩), .int .i64 mn, .int .i64 mx, .int .i64 0])) w' ⟨fun h => absurd rfl h, fun _ => ⟨N, a, ca, f, cf, rfl, hb, hN, hT⟩⟩)
      obtain ⟨ware, lim, byr, a, cap, ps⟩ := c
      simp only [Cs.v] at *
      have hB0 := one_alloc w (Obj.cells #[.string ware, .int .i64 lim, .int .i64 byr, .slice a ps.length cap] 24)
      have hbx := hc.below hB0
      clear h2 hP hxy
      go_enter Tryz.func67, Tryz.ntmps67
      go_wp2_with (go_at_call 75; refine (hC _ _ _ _ (hbx.below (one_alloc _ _)) (lit2b _ _ _ _)).mono ?_; rintro e w1 ⟨N, a1, ca, f1, cf, rfl, hb1, hN, hT⟩)
      refine bodyPost_ret (v := .tuple #[.pointer (some ⟨N, 0, none⟩), .int .i64 mn, .int .i64 mx, .int .i64 0]) (by simp [results, Tryz.results67, go_sem]) rfl (HP.out _ N a1 ca f1 cf ((hB0.ch2 (one_alloc _ _)).ch2 hb1) (by simp at hN; omega) hT)
  · have hT : T = E := by rw [h2, if_neg (fun h => h0 h.1)]
    subst hT
    have b0 : (T == 0) = false := by simpa using h0
    have HP := Lib.hid (fun w' hb t => hP.out (.returned (.tuple #[t, .int .i64 mn, .int .i64 mx, .int .i64 T])) w' ⟨fun _ => ⟨t, rfl, hb⟩, fun h => absurd h h0⟩)
    have hC2 := fun w1 a2 n2 c2 h hl => (hC w1 a2 n2 c2 h hl).mono fun e w' hh => hh.1 h0
    obtain ⟨ware, lim, byr, a, cap, ps⟩ := c
    simp only [Cs.v] at *
    have hB0 := one_alloc w (Obj.cells #[.string ware, .int .i64 lim, .int .i64 byr, .slice a ps.length cap] 24)
    have hbx := hc.below hB0
    clear h2 hP h0 hC
    go_enter Tryz.func67, Tryz.ntmps67
    go_wp2_with (go_at_call 75; refine (hC2 _ _ _ _ (hbx.below (one_alloc _ _)) (lit2b _ _ _ _)).mono ?_; rintro e w1 ⟨rfl, hb1⟩)
    refine bodyPost_ret (v := .tuple #[.pointer none, .int .i64 mn, .int .i64 mx, .int .i64 T]) (by simp [results, Tryz.results67, go_sem]) rfl (HP.out _ ((hB0.ch2 (one_alloc _ _)).ch2 hb1) _)
end Go.Proofs.YtodkbfbbpfghiaaGreat
namespace Go.Proofs.YtodkbfbbpfghiaaGreat
theorem merS_wo {s : List Pn} {a b : Nat} (hab : a < b) : merS s a b = (s.eraseIdx b).set a (gluP (s.getD a default) (s.getD b default)) := by
  unfold merS
  exact List.eraseIdx_set_gt hab
theorem comL_two {s : List Pn} {a b : Nat} (ha : 0 ≤ (s.getD a default).lo ∧ (s.getD a default).hi ≤ 1000) (hb : 0 ≤ (s.getD b default).lo ∧ (s.getD b default).hi ≤ 1000) :
    comL s [a, b] = ((gluP (s.getD a default) (s.getD b default)).lo, (gluP (s.getD a default) (s.getD b default)).hi) := by
  unfold comL gluP
  simp only [List.foldl_cons, List.foldl_nil]
  refine Prod.ext ?_ ?_
  · simp only; omega
  · simp only; omega
open Go.RowKit
/-- The marks of ranges over functions among a frame's deferred calls. -/
def Marks (B : Nat) (D : List Deferred) (W : World) : Prop :=
  (∀ d ∈ D, ∃ r, d.target = .collected r ∧ B ≤ r ∧ W.heap[r]? = some (.deferred (some []))) ∧ D.Pairwise fun d e => d.target ≠ e.target
theorem leaves_marks {P : Program} {F : Fence} {n B : Nat} {fn : Func} {tmps : Array Value} {R : Ending → World → Prop} {u : FrameMode} (hu : u ≠ .run) (J : World → Prop)
    (hJ : ∀ W r, B ≤ r → J W → W.heap[r]? = some (.deferred (some [])) → J (W.putObj r (.deferred none))) (hend : ∀ W, J W → LeavesIn F n P fn tmps R [] u W) :
    ∀ (D : List Deferred) (W : World), Marks B D W → J W → LeavesInM F n P fn tmps R D u W
  | [], W, _, h => hend W h
  | d :: D, W, ⟨hm, hp⟩, h => by
    obtain ⟨r, ht, hB, hr⟩ := hm d (by simp)
    rw [List.pairwise_cons] at hp
    refine ⟨hu, .inl ⟨r, _, ht, run_takeDeferred hr, ?_⟩⟩
    refine leaves_marks hu J hJ hend D _ ⟨fun e he => ?_, hp.2⟩ (hJ W r hB h hr)
    obtain ⟨r', ht', hB', hr'⟩ := hm e (by simp [he])
    refine ⟨r', ht', hB', ?_⟩
    have hne : r' ≠ r := fun heq => by
      have := hp.1 e he
      rw [ht, ht', heq] at this
      exact this rfl
    rw [World.putObj_heap_other hne]
    exact hr'

/-- A frame whose slots dl are free. -/
def frame' (ts : Array Value) (dl : List Nat) (us : Nat → Value) : Array Value := (SL.put' dl us 0 ts.toList).toArray
theorem keeps_of_chg {B : Nat} {E : List Nat} {W W' : World} (h : SL.Chg E W W') (hE : ∀ k ∈ E, k < B) : KeepsFrom B W W' :=
  ⟨h.size, fun k o hk ho _ => (h.block k (Array.getElem?_eq_some_iff.1 ho).1 (fun hm => by have := hE k hm; omega)).trans ho⟩

/-- range_state with the frame said by slots. -/
theorem range_state' {P : Program} {σ α : Type} {g : Operand} {ps : Array Tmp} {assign body : Code} {Q : Exit → Act → World → Prop} {ts : Array Value} {ds : List Deferred} {w : World}
    {gf : Nat} {lb : Array Value} (hg : ({ tmps := ts, defers := ds } : Act).eval g = .func (.func gf) #[] lb) (eg : ∀ args w, (callFunc gf args).run P w = .ok (.enter gf args) w)
    {encs : α → Array Value} (hps : ∀ x, (encs x).size = ps.size)
    (I : σ → World → Prop) (Ix : Code → σ → World → Prop) (hI : OwnFrom w.heap.size I) (hIx : ∀ c, OwnFrom w.heap.size (Ix c)) (s0 : σ) (h0 : I s0 w)
    (ok : σ → α → Prop) (upd : σ → α → σ) (dl : List Nat) (A : σ → α → (Nat → Value) → World → Prop) (hA : ∀ s x us, OwnFrom w.heap.size (fun (_ : Unit) W => A s x us W))
    (fin finx : σ → Prop)
    (hiter : ∀ (l : Nat) (J Jx : σ → World → Prop) (W : World), Below w.heap.size w W → AbidesFrom W.heap.size J → AbidesFrom W.heap.size Jx → (∀ s W, J s W → I s W) → (∀ s W, Jx s W → ∃ c, Ix c s W) →
      (∀ s x W1, J s W1 → ok s x → YieldAt Fence.wide 0 P l (encs x) W1 fun e W' => (e = .returned (.bool true) ∧ J (upd s x) W') ∨ (e = .returned (.bool false) ∧ Jx (upd s x) W')) →
      J s0 W → CallsIn Fence.wide 0 P gf (#[.func (.yield l) #[] #[]] ++ lb) W fun e W' => (∃ v, e = .returned v) ∧ ((∃ s, fin s ∧ J s W') ∨ (∃ s, finx s ∧ Jx s W')))
    (hassign : ∀ (l : Nat) (s : σ) (x : α) (W : World) (K : Act → World → Prop), I s W → ok s x →
      (∀ a' W', KeepsFrom w.heap.size W W' → I s W' → a'.tmps = frame' ts dl (fun i => a'.tmps.getD i undef) → a'.defers = [] → A s x (fun i => a'.tmps.getD i undef) W' → K a' W') →
      assign.wpIn (Fence.wide.inRound l) 0 P (Exit.then K (fun _ _ _ => False)) { tmps := (ps.zip (encs x)).foldl (fun t (p, v) => t.setIfInBounds p v) ts, defers := [] } W)
    (hbody : ∀ (l : Nat) (s : σ) (x : α) (us : Nat → Value) (W : World), w.heap.size ≤ l → I s W → ok s x → A s x us W → body.wpIn (Fence.wide.inRound l) 0 P (roundEnd w.heap.size I Ix (upd s x) W) { tmps := frame' ts dl us, defers := [] } W)
    (hdone : ∀ (D : Nat) (s : σ) (W : World), w.heap.size ≤ D → fin s → I s W → W.heap[D]? = some (.deferred (some [])) → Q .normal { tmps := ts, defers := { target := .collected D, args := #[] } :: ds } W)
    (hstop : ∀ (D : Nat) (c : Code) (s : σ) (W : World), w.heap.size ≤ D → finx s → Ix c s W → W.heap[D]? = some (.deferred (some [])) → c.wp P Q { tmps := ts, defers := { target := .collected D, args := #[] } :: ds } W) :
    (Code.rangeFunc g ps assign body).wp P Q { tmps := ts, defers := ds } w := by
  refine range_state hg eg hps I Ix hI hIx s0 h0 ok upd (fun s x a' W => a'.tmps = frame' ts dl (fun i => a'.tmps.getD i undef) ∧ a'.defers = [] ∧ A s x (fun i => a'.tmps.getD i undef) W)
    (fun s x a' u W W' row h hg hr => ⟨h.1, h.2.1, hA s x _ u W W' row h.2.2 hg hr⟩) fin finx hiter (fun l s x W K hi ho hK => hassign l s x W K hi ho fun a' W' h1 h2 h3 h4 h5 => hK a' W' h1 h2 ⟨h3, h4, h5⟩) ?_ hdone hstop
  rintro l s x ⟨ts', ds'⟩ W hl hi ho ⟨h1, h2, h3⟩
  simp only at h1 h2 h3
  have := hbody l s x _ W hl hi ho h3
  rw [← h1] at this
  rw [h2]
  exact this
/-- All blocks of cells stay as they are. -/
structure KeepC (W W' : World) : Prop where
  size : W.heap.size ≤ W'.heap.size
  cells : ∀ (k : Nat) (cs : Array Value) (t : TypeId) (f : Nat × Nat), W.heap[k]? = some (Obj.cells cs t f) → W'.heap[k]? = some (Obj.cells cs t f)
theorem KeepC.of_grown {W W' : World} {row : Option Nat} (hg : W.grownBy W' row) (hr : ∀ r, row = some r → ∃ o : Obj, W.heap[r]? = some o ∧ o.isCells = false) : KeepC W W' := by
  refine ⟨hg.size, fun k cs t f h => ?_⟩
  rw [hg.block k (Array.getElem?_eq_some_iff.1 h).1 (fun e => ?_)]
  · exact h
  · obtain ⟨o, ho, hc⟩ := hr k e.symm
    rw [h] at ho; cases ho; cases hc
theorem KeepC.of_below {W W' : World} (h : Below W.heap.size W W') : KeepC W W' :=
  ⟨h.size, fun k _ _ _ hk => (h.block k (Array.getElem?_eq_some_iff.1 hk).1).trans hk⟩
theorem KeepC.cell {W W' : World} (h : KeepC W W') {b o : Nat} {v : Value} (hc : W.cell? ⟨b, o, none⟩ = some v) : W'.cell? ⟨b, o, none⟩ = some v := by
  have hb : ∃ cs t f, W.heap[b]? = some (.cells cs t f) := by
    unfold World.cell? at hc
    simp only at hc
    cases hh : W.heap[b]? with
    | none => simp [hh] at hc
    | some ob => cases ob <;> simp [hh] at hc; exact ⟨_, _, _, rfl⟩
  obtain ⟨cs, t, f, hb⟩ := hb
  rw [World.cell?_of_block (w := W) ((h.cells _ _ _ _ hb).trans hb.symm)]
  exact hc
theorem row_keepC {w w' : World} {base : Nat} {t : TypeId} {size n : Nat} {v : Value} {xs : List Value} (h : w.ownsRow base t size v n xs) (hk : KeepC w w') : w'.ownsRow base t size v n xs := by
  obtain ⟨hl, ⟨hv, hn⟩ | ⟨g, cap', cur, hv, hbg, hg, hr⟩⟩ := h
  · exact ⟨hl, .inl ⟨hv, hn⟩⟩
  · exact ⟨hl, .inr ⟨g, cap', cur, hv, hbg, hk.cells _ _ _ _ hg, hr⟩⟩
open Go.Shelf
set_option maxHeartbeats 4000000
set_option maxRecDepth 100000
/-- The parts up to k whose spans lie in a range. -/
def insN (s : List Pn) (l h : Int) (k : Nat) : List Nat := (List.range k).filter fun i => inB l h (s.getD i default)
theorem insN_all (s : List Pn) (l h : Int) : insN s l h s.length = insideL s l h := rfl
theorem insN_succ (s : List Pn) (l h : Int) (k : Nat) : insN s l h (k + 1) = insN s l h k ++ (if inB l h (s.getD k default) then [k] else []) := by
  unfold insN
  rw [List.range_succ, List.filter_append]
  simp only [List.filter_cons, List.filter_nil]
theorem winside (a : Option Addr) (ca : Nat) (f : Option Addr) (cf n : Nat) (lo hi : Int) (w : World) :
    Calls Tryz.prog 114 #[spV a ca f cf n, .agg #[.int .i64 lo, .int .i64 hi]] w fun e w' => e = .returned (.func (.func 144) #[] #[.pointer (some ⟨w.heap.size, 0, none⟩), .pointer (some ⟨w.heap.size + 1, 0, none⟩)]) ∧
      w' = (w.alloc (.cells #[.slice a n ca, .slice f n cf] 83)).alloc (.cells #[.int .i64 lo, .int .i64 hi] 33) := by
  have hmk := makeFuncW
  unfold spV
  go_enter Tryz.func114, Tryz.ntmps114
  go_wp2
  go_ret
  exact ⟨rfl, rfl⟩
theorem winside1 (a : Option Addr) (ca n : Nat) (s : List Pn) (lo hi : Int) (BS BR l : Nat) (J : List Nat → World → Prop) (W : World) (hab : AbidesFrom W.heap.size J) (hn : n = s.length) (hsm : s.length ≤ 100000)
    (hJI : ∀ pre W, J pre W → W.cell? ⟨BS, 0, none⟩ = some (.slice a n ca) ∧ W.cell? ⟨BR, 0, none⟩ = some (.int .i64 lo) ∧ W.cell? ⟨BR, 1, none⟩ = some (.int .i64 hi) ∧ RngsAt W a n ca (s.map fun p => (p.lo, p.hi)))
    (h0 : J [] W)
    (hy : ∀ (k : Nat) (W1 : World), k < s.length → inB lo hi (s.getD k default) = true → J (insN s lo hi k) W1 → YieldAt Fence.wide 0 Tryz.prog l #[.int .i64 k] W1 fun e W' => e = .returned (.bool true) ∧ J (insN s lo hi k ++ [k]) W') :
    CallsIn Fence.wide 0 Tryz.prog 144 #[.func (.yield l) #[] #[], .pointer (some ⟨BS, 0, none⟩), .pointer (some ⟨BR, 0, none⟩)] W fun e W' => (∃ v, e = .returned v) ∧ J (insideL s lo hi) W' := by
  refine callsIn_of_wp Tryz.func144 rfl trivial ?_
  simp only [Tryz.ntmps144, List.size_toArray, List.length_cons, List.length_nil, Nat.reduceAdd, Nat.reduceSub, Array.replicate_succ, Array.replicate_zero, List.push_toArray, List.append_toArray, List.nil_append, List.cons_append]
  subst hn
  obtain ⟨c0, c1, c2, hx0⟩ := hJI _ _ h0
  have hfw : ∀ f, Fence.wide.fn f := fun _ => trivial
  have hdp : Fence.wide.depth = none := rfl
  gi_wp2_with fail
  gi_loopw [9] (fun i wr => ∃ k : Nat, k ≤ s.length ∧ i = .int .i64 k ∧ J (insN s lo hi k) wr) (fun i _ => s.length - (RowKit.intOf i).toNat)
  case atStart => exact ⟨0, Nat.zero_le _, rfl, h0⟩
  case round =>
    obtain ⟨k, hk, rfl, hJ⟩ := hrel
    have hnn : (0 : Int) ≤ k := by omega
    by_cases hlt : k < s.length
    · have i1 : (k : Int) < (s.length : Int) := by omega
      have hJb : ∀ o, J (insN s lo hi k) (wr.alloc o) := fun o => hab _ _ _ none hJ (below_grown (one_alloc wr o)) (fun r e => by cases e)
      have HY := fun o hb => Lib.hid (hy k _ hlt hb (hJb o))
      have Hs := Lib.hid (insN_succ s lo hi k)
      obtain ⟨q0, q1, q2, hx1⟩ := hJI _ _ hJ
      have zS := World.block_lt_of_cell? wr _ q0
      have zR := World.block_lt_of_cell? wr _ q1
      simp only at zS zR
      obtain ⟨b, off, rfl, hbl, d0, d1⟩ := hx1.get (i := k) (by simpa using hlt)
      have e1 : (s.map fun p : Pn => (p.lo, p.hi)).getD k default = ((s.getD k default).lo, (s.getD k default).hi) := by simp [List.getD_eq_getElem?_getD, hlt]
      rw [e1] at d0 d1
      simp only at d0 d1
      have hin : inB lo hi (s.getD k default) = (decide (lo ≤ (s.getD k default).lo) && decide ((s.getD k default).hi ≤ hi)) := rfl
      clear e1 hJI c0 c1 c2 hx0 hx1 h0
      generalize s.getD k default = p at *
      generalize insN s lo hi k = pre at *
      have HJb := Lib.hid hJb
      have hal := one_alloc wr (Obj.cells #[.int .i64 p.lo, .int .i64 p.hi] 33)
      have hza := hal.size
      clear hJb
      cases h1 : decide (lo ≤ p.lo)
      · have Hi : Hid (inB lo hi p = false) := Lib.hid (by rw [hin, h1]; rfl)
        clear hin HY
        gi_wp2_with fail
        go_roundw
        case rel => exact ⟨k + 1, by omega, by go_num, by rw [Hs.out, Hi.out]; simpa using HJb.out _⟩
        case measure => simp [RowKit.intOf]; omega
      · cases h2 : decide (p.hi ≤ hi)
        · have Hi : Hid (inB lo hi p = false) := Lib.hid (by rw [hin, h1, h2]; rfl)
          clear hin HY
          gi_wp2_with fail
          go_roundw
          case rel => exact ⟨k + 1, by omega, by go_num, by rw [Hs.out, Hi.out]; simpa using HJb.out _⟩
          case measure => simp [RowKit.intOf]; omega
        · have Hi : Hid (inB lo hi p = true) := Lib.hid (by rw [hin, h1, h2]; rfl)
          have HR := HY (Obj.cells #[.int .i64 p.lo, .int .i64 p.hi] 33) Hi.out
          clear hin HY
          obtain ⟨fn, tmps, assign, body, hyy, hR⟩ := HR.out
          have HR2 := Lib.hid hR
          clear hR HR hfw hdp
          gi_wp2
          refine ⟨rfl, HR2.out.mono ?_⟩
          rintro e W3 ⟨rfl, hJ3⟩
          gi_wp2
          go_roundw
          case rel => exact ⟨k + 1, by omega, by go_num, by rw [Hs.out, Hi.out]; exact hJ3⟩
          case measure => simp [RowKit.intOf]; omega
    · have hk2 : k = s.length := by omega
      subst hk2
      gi_wp2_with fail
      go_end0
      exact ⟨⟨_, rfl⟩, hJ⟩
attribute [local go_sem] Oper.semAt_some
theorem RowAt.keepC {w w' : World} {a : Option Addr} {cap : Nat} {vs : List Value} (h : RowAt w a cap vs) (hk : KeepC w w') : RowAt w' a cap vs := by
  refine ⟨h.nil, fun x hx => ?_⟩
  obtain ⟨h1, h2, h3⟩ := h.at_ x hx
  exact ⟨h1, Nat.lt_of_lt_of_le h2 hk.size, fun i u hi => hk.cell (h3 i u hi)⟩
theorem SpansAt.keepC {w w' : World} {a f : Option Addr} {ca cf n : Nat} {s : List Pn} (h : SpansAt w a ca f cf n s) (hk : KeepC w w') : SpansAt w' a ca f cf n s :=
  ⟨⟨h.at_.len, h.at_.small, h.at_.row.keepC hk⟩, ⟨h.ft.len, h.ft.small, h.ft.row.keepC hk⟩⟩
theorem SpansAt.chg {w w' : World} {a f : Option Addr} {ca cf n : Nat} {s : List Pn} {E : List Nat} (h : SpansAt w a ca f cf n s) (hc : SL.Chg E w w') (h1 : ∀ x, a = some x → x.block ∉ E) (h2 : ∀ x, f = some x → x.block ∉ E) : SpansAt w' a ca f cf n s :=
  ⟨⟨h.at_.len, h.at_.small, h.at_.row.chg hc h1⟩, ⟨h.ft.len, h.ft.small, h.ft.row.chg hc h2⟩⟩
theorem SpansAt.blocks {w : World} {a f : Option Addr} {ca cf n : Nat} {s : List Pn} (h : SpansAt w a ca f cf n s) : (∀ x, a = some x → x.block < w.heap.size) ∧ ∀ x, f = some x → x.block < w.heap.size :=
  ⟨fun x hx => (h.at_.row.at_ x hx).2.1, fun x hx => (h.ft.row.at_ x hx).2.1⟩
def footN (s : List Pn) (pre : List Nat) : Nat := (pre.filter fun i => (s.getD i default).ft).length
def someN (pre : List Nat) : Nat := if pre = [] then 0 else 1
theorem footN_snoc (s : List Pn) (pre : List Nat) (x : Nat) : footN s (pre ++ [x]) = footN s pre + if (s.getD x default).ft then 1 else 0 := by
  unfold footN
  rw [List.filter_append, List.length_append]
  congr 1
  simp only [List.filter_cons, List.filter_nil]
  split <;> rfl
theorem someN_snoc (pre : List Nat) (x : Nat) : someN (pre ++ [x]) = 1 := by unfold someN; simp
theorem footN_le (s : List Pn) (pre : List Nat) : footN s pre ≤ pre.length := List.length_filter_le _ _
theorem dem_N (s : List Pn) (lo hi : Int) : dem s lo hi = max (footN s (insideL s lo hi)) (someN (insideL s lo hi)) := by
  have h1 : footN s (insideL s lo hi) = feet s lo hi := footL_len s lo hi
  have h2 : someN (insideL s lo hi) = some1 s lo hi := by
    unfold someN some1
    by_cases e : insideL s lo hi = []
    · rw [if_pos e, if_neg]
      intro h
      obtain ⟨p, hp, hb⟩ := List.any_eq_true.1 h
      obtain ⟨i, hil, rfl⟩ := List.getElem_of_mem hp
      have : i ∈ insideL s lo hi := List.mem_filter.2 ⟨List.mem_range.2 hil, by rw [List.getD_eq_getElem?_getD, List.getElem?_eq_getElem hil]; exact hb⟩
      rw [e] at this; cases this
    · rw [if_neg e, if_pos]
      obtain ⟨i, hi⟩ := List.exists_mem_of_ne_nil _ e
      obtain ⟨h1, h2⟩ := List.mem_filter.1 hi
      exact List.any_eq_true.2 ⟨_, Pn.mem (List.mem_range.1 h1), h2⟩
  unfold dem
  rw [h1, h2]
theorem insN_len (s : List Pn) (l h : Int) (k : Nat) : (insN s l h k).length ≤ k := by
  unfold insN
  exact Nat.le_trans (List.length_filter_le _ _) (by simp)
/-- What demand works on. -/
structure DemI (w : World) (a : Option Addr) (ca : Nat) (f : Option Addr) (cf : Nat) (s : List Pn) (lo hi : Int) (pre : List Nat) (W : World) : Prop where
  bs : W.heap[w.heap.size]? = some (.cells #[.slice a s.length ca, .slice f s.length cf] 83 (0, 0))
  bf : W.heap[w.heap.size + 1 + 1]? = some (.cells #[.int .i64 (footN s pre : Nat)] 3 (0, 0))
  bo : W.heap[w.heap.size + 1 + 1 + 1]? = some (.cells #[.int .i64 (someN pre : Nat)] 3 (0, 0))
  bs2 : W.heap[w.heap.size + 1 + 1 + 1 + 1]? = some (.cells #[.slice a s.length ca, .slice f s.length cf] 83 (0, 0))
  br2 : W.heap[w.heap.size + 1 + 1 + 1 + 1 + 1]? = some (.cells #[.int .i64 lo, .int .i64 hi] 33 (0, 0))
  sp : SpansAt W a ca f cf s.length s
  below : Below w.heap.size w W
theorem DemI.keepC {w : World} {a : Option Addr} {ca : Nat} {f : Option Addr} {cf : Nat} {s : List Pn} {lo hi : Int} {pre : List Nat} {W W' : World} (h : DemI w a ca f cf s lo hi pre W) (hk : KeepC W W') (hb : Below w.heap.size w W') : DemI w a ca f cf s lo hi pre W' :=
  ⟨hk.cells _ _ _ _ h.bs, hk.cells _ _ _ _ h.bf, hk.cells _ _ _ _ h.bo, hk.cells _ _ _ _ h.bs2, hk.cells _ _ _ _ h.br2, h.sp.keepC hk, hb⟩
theorem DemI.some1 {w : World} {a : Option Addr} {ca : Nat} {f : Option Addr} {cf : Nat} {s : List Pn} {lo hi : Int} {pre : List Nat} {W : World} (h : DemI w a ca f cf s lo hi pre W) (z1 : ∀ x, a = some x → x.block < w.heap.size) (z2 : ∀ x, f = some x → x.block < w.heap.size) (x : Nat)
    (hx : (s.getD x default).ft = false) : DemI w a ca f cf s lo hi (pre ++ [x]) (W.setCell ⟨w.heap.size + 1 + 1 + 1, 0, none⟩ (.int .i64 1)) := by
  refine ⟨?_, ?_, ?_, ?_, ?_, ?_, h.below.setCell (by simp; omega) _⟩
  · rw [heap_setC _ _ _ (by simp <;> omega)]; exact h.bs
  · rw [heap_setC _ _ _ (by simp <;> omega), footN_snoc, hx]; exact h.bf
  · rw [someN_snoc]; exact SL.heap_set h.bo _
  · rw [heap_setC _ _ _ (by simp <;> omega)]; exact h.bs2
  · rw [heap_setC _ _ _ (by simp <;> omega)]; exact h.br2
  · exact h.sp.chg (E := [w.heap.size + 1 + 1 + 1]) (.setCell _ (by simp) _) (fun x hx => by have := z1 x hx; simp; omega) (fun x hx => by have := z2 x hx; simp; omega)
theorem DemI.some2 {w : World} {a : Option Addr} {ca : Nat} {f : Option Addr} {cf : Nat} {s : List Pn} {lo hi : Int} {pre : List Nat} {W : World} (h : DemI w a ca f cf s lo hi pre W) (z1 : ∀ x, a = some x → x.block < w.heap.size) (z2 : ∀ x, f = some x → x.block < w.heap.size) (x : Nat)
    (hx : (s.getD x default).ft = true) : DemI w a ca f cf s lo hi (pre ++ [x]) ((W.setCell ⟨w.heap.size + 1 + 1 + 1, 0, none⟩ (.int .i64 1)).setCell ⟨w.heap.size + 1 + 1, 0, none⟩ (.int .i64 ((footN s pre : Nat) + 1))) := by
  refine ⟨?_, ?_, ?_, ?_, ?_, ?_, (h.below.setCell (by simp; omega) _).setCell (by simp; omega) _⟩
  · rw [heap_setC _ _ _ (by simp <;> omega), heap_setC _ _ _ (by simp <;> omega)]; exact h.bs
  · rw [footN_snoc, hx]
    exact SL.heap_set ((heap_setC _ _ _ (by simp <;> omega)).trans h.bf) _
  · rw [heap_setC _ _ _ (by simp <;> omega), someN_snoc]; exact SL.heap_set h.bo _
  · rw [heap_setC _ _ _ (by simp <;> omega), heap_setC _ _ _ (by simp <;> omega)]; exact h.bs2
  · rw [heap_setC _ _ _ (by simp <;> omega), heap_setC _ _ _ (by simp <;> omega)]; exact h.br2
  · exact h.sp.chg (E := [w.heap.size + 1 + 1 + 1, w.heap.size + 1 + 1]) ((SL.Chg.setCell _ (by simp) _).trans (.setCell _ (by simp) _)) (fun x hx => by have := z1 x hx; simp; omega) (fun x hx => by have := z2 x hx; simp; omega)
theorem wdemand (a : Option Addr) (ca : Nat) (f : Option Addr) (cf n : Nat) (s : List Pn) (lo hi : Int) (w : World) (hs : SpansAt w a ca f cf n s) (hn : s.length ≤ 1000) :
    Calls Tryz.prog 76 #[spV a ca f cf n, .agg #[.int .i64 lo, .int .i64 hi]] w fun e w' => e = .returned (.int .i64 (dem s lo hi : Nat)) ∧ Below w.heap.size w w' := by
  obtain rfl := hs.len
  obtain ⟨z1, z2⟩ := hs.blocks
  have hD := Lib.hid (dem_N s lo hi)
  generalize dem s lo hi = T at *
  have hI0 := fun W => winside a ca f cf s.length lo hi W
  unfold spV at *
  refine (callsIn_wide (n := 0)).1 (callsIn_of_wp_marks Tryz.func76 rfl trivial ?_)
  simp only [Tryz.ntmps76, List.size_toArray, List.length_cons, List.length_nil, Nat.reduceAdd, Nat.reduceSub, Array.replicate_succ, Array.replicate_zero, List.push_toArray, List.append_toArray, List.nil_append, List.cons_append]
  refine wpIn_wide.2 ?_
  go_wp2_with (go_at_call 114; refine (hI0 _).mono ?_; rintro e w3 ⟨rfl, rfl⟩)
  generalize hW0 : (((((w.alloc (Obj.cells #[.slice a s.length ca, .slice f s.length cf] 83)).alloc (Obj.cells #[.int .i64 lo, .int .i64 hi] 33)).alloc (Obj.cells #[.int .i64 0] 3)).alloc (Obj.cells #[.int .i64 0] 3)).alloc (Obj.cells #[.slice a s.length ca, .slice f s.length cf] 83)).alloc (Obj.cells #[.int .i64 lo, .int .i64 hi] 33) = W0
  have hB0 : Below w.heap.size w W0 := by rw [← hW0]; ((repeat (first | assumption | exact Below.refl _ _ | refine Below.alloc ?_ ?_ _ | refine Below.setCell ?_ ?_ _ | refine Below.drew ?_ | refine belowN ?_ | refine Below.up ?_ (by assumption) ?_)) <;> (first | assumption | omega | (simp; done) | (simp; omega)))
  have hz0 : W0.heap.size = w.heap.size + 1 + 1 + 1 + 1 + 1 + 1 := by rw [← hW0]; simp
  have hI00 : DemI w a ca f cf s lo hi [] W0 := by
    have k := fun (N : Nat) (o : Obj) (W1 : World) (h : W1.heap[N]? = some o) (o' : Obj) => (Below.heap_alloc W1 o' N (Array.getElem?_eq_some_iff.1 h).1).trans h
    have k1 := World.alloc_heap_new w (Obj.cells #[.slice a s.length ca, .slice f s.length cf] 83)
    have k2 := World.alloc_heap_new ((w.alloc (Obj.cells #[.slice a s.length ca, .slice f s.length cf] 83)).alloc (Obj.cells #[.int .i64 lo, .int .i64 hi] 33)) (Obj.cells #[.int .i64 0] 3)
    have k3 := World.alloc_heap_new (((w.alloc (Obj.cells #[.slice a s.length ca, .slice f s.length cf] 83)).alloc (Obj.cells #[.int .i64 lo, .int .i64 hi] 33)).alloc (Obj.cells #[.int .i64 0] 3)) (Obj.cells #[.int .i64 0] 3)
    have k4 := World.alloc_heap_new ((((w.alloc (Obj.cells #[.slice a s.length ca, .slice f s.length cf] 83)).alloc (Obj.cells #[.int .i64 lo, .int .i64 hi] 33)).alloc (Obj.cells #[.int .i64 0] 3)).alloc (Obj.cells #[.int .i64 0] 3)) (Obj.cells #[.slice a s.length ca, .slice f s.length cf] 83)
    have k5 := World.alloc_heap_new (((((w.alloc (Obj.cells #[.slice a s.length ca, .slice f s.length cf] 83)).alloc (Obj.cells #[.int .i64 lo, .int .i64 hi] 33)).alloc (Obj.cells #[.int .i64 0] 3)).alloc (Obj.cells #[.int .i64 0] 3)).alloc (Obj.cells #[.slice a s.length ca, .slice f s.length cf] 83)) (Obj.cells #[.int .i64 lo, .int .i64 hi] 33)
    simp only [World.size_alloc] at k2 k3 k4 k5
    refine ⟨?_, ?_, ?_, ?_, ?_, hs.below hB0, hB0⟩
    · rw [← hW0]; exact k _ _ _ (k _ _ _ (k _ _ _ (k _ _ _ (k _ _ _ k1 _) _) _) _) _
    · rw [← hW0]; exact k _ _ _ (k _ _ _ (k _ _ _ k2 _) _) _
    · rw [← hW0]; exact k _ _ _ (k _ _ _ k3 _) _
    · rw [← hW0]; exact k _ _ _ k4 _
    · rw [← hW0]; exact k5
  have hIo : OwnFrom W0.heap.size (DemI w a ca f cf s lo hi) := by
    rintro pre W1 W2 row h1 hg hr
    exact h1.keepC (.of_grown hg fun r e => (hr r e).2) (h1.below.grown hg h1.below.size fun r e => by have := (hr r e).1; omega)
  clear hW0
  refine range_state' (σ := List Nat) (α := Nat) (gf := 144) (lb := #[.pointer (some ⟨w.heap.size + 1 + 1 + 1 + 1, 0, none⟩), .pointer (some ⟨w.heap.size + 1 + 1 + 1 + 1 + 1, 0, none⟩)]) (by simp [go_sem]) (enters_of Tryz.func144 (by kernel_rfl) rfl)
    (encs := fun x => #[.int .i64 x]) (fun _ => rfl)
    (DemI w a ca f cf s lo hi) (fun _ _ _ => False) hIo (fun _ _ _ _ _ h => h.elim) [] hI00
    (fun pre x => x < s.length ∧ pre = insN s lo hi x) (fun pre x => pre ++ [x]) [7, 11]
    (fun pre x us W' => us 7 = .int .i64 x)
    ?_ (fun pre => pre = insideL s lo hi) (fun _ => False) ?_ ?_ ?_ ?_ (fun _ _ _ _ _ h => h.elim)
  · rintro pre x us ⟨⟩ W1 W2 row h hg hr
    exact h
  · intro l J Jx W1 hb1 hJ hJx hJI hJxI hy hj0
    refine (winside1 a ca s.length s lo hi _ _ l J W1 hJ rfl (by omega) (fun pre W' h => ?_) hj0 (fun k W2 hk hin hJ2 => ?_)).mono ?_
    · have h1 := hJI _ _ h
      have e1 := (SL.cells_of h1.bs2).1 0
      have e2 := (SL.cells_of h1.br2).1 0
      have e3 := (SL.cells_of h1.br2).1 1
      exact ⟨by simpa using e1, by simpa using e2, by simpa using e3, h1.sp.at_⟩
    · refine (hy _ k W2 hJ2 ⟨hk, rfl⟩).mono ?_
      rintro e W3 (⟨rfl, h⟩ | ⟨_, h⟩)
      · exact ⟨rfl, h⟩
      · obtain ⟨_, hf⟩ := hJxI _ _ h; exact hf.elim
    · rintro e W2 ⟨hv, hj⟩
      exact ⟨hv, .inl ⟨_, rfl, hj⟩⟩
  · rintro l pre x W1 K hI ⟨hx, hp⟩ hK
    clear hp
    gi_wp2_with fail
    exact hK _ _ (keeps_of_chg (E := []) (.refl _ _) (by simp)) hI rfl rfl rfl
  · rintro l pre x us W1 hl hI ⟨hx, hp⟩ h7
    have hpl : pre.length ≤ x := by rw [hp]; exact insN_len s lo hi x
    clear hp
    simp only [frame', SL.put', List.toList_toArray, List.contains_cons, List.contains_nil, Nat.reduceAdd, Nat.reduceBEq, Bool.or_false, Bool.or_true, Bool.false_or, Bool.true_or, if_true, Bool.false_eq_true, if_false, h7]
    have zb := hI.bf
    have hfl := footN_le s pre
    have c0 := (SL.cells_of hI.bs).1 0
    have c1 := (SL.cells_of hI.bs).1 1
    have kf := (SL.cells_of hI.bf).1 0
    have ff := (SL.cells_of hI.bf).2
    have co := (SL.cells_of hI.bo).1 0
    have fo := (SL.cells_of hI.bo).2
    simp at c0 c1 kf co
    have zo : w.heap.size + 1 + 1 + 1 < W1.heap.size := (Array.getElem?_eq_some_iff.1 hI.bo).1
    obtain ⟨b, o, d, q, rfl, rfl, bl1, bl2, d0, d1, d2⟩ := hI.sp.get hx
    have hxx : (0 : Int) ≤ x := by omega
    have hx1 : (x : Int) < (s.length : Int) := by omega
    have n1 : ¬ d = w.heap.size + 1 + 1 + 1 := by have := z2 _ rfl; simp at this; omega
    have n2 : ¬ w.heap.size + 1 + 1 + 1 = d := by omega
    have HI := Lib.hid hI
    have Hz := Lib.hid (And.intro z1 z2)
    clear zb hI z1 z2 d0 d1
    refine wpIn_block ?_
    cases hft : (s.getD x default).ft
    · rw [hft] at d2
      have Hft := Lib.hid hft
      clear hft
      gi_wp2_with fail
      exact ⟨keeps_of_chg (E := [w.heap.size + 1 + 1 + 1]) (.setCell _ (by simp) _) (by simp; omega), HI.out.some1 Hz.out.1 Hz.out.2 x Hft.out⟩
    · rw [hft] at d2
      have Hft := Lib.hid hft
      clear hft
      gi_wp2_with fail
      exact ⟨keeps_of_chg (E := [w.heap.size + 1 + 1 + 1, w.heap.size + 1 + 1]) ((SL.Chg.setCell _ (by simp) _).trans (.setCell _ (by simp) _)) (by simp; omega), HI.out.some2 Hz.out.1 Hz.out.2 x Hft.out⟩
  · rintro D pre W2 hD2 rfl hI hdef
    have hfl := footN_le s (insideL s lo hi)
    have hil : (insideL s lo hi).length ≤ s.length := insN_len s lo hi s.length
    have hdd := hD.out
    have c0 := (SL.cells_of hI.bf).1 0
    have c1 := (SL.cells_of hI.bo).1 0
    simp at c0 c1
    have hB2 := hI.below
    obtain ⟨F, hF⟩ : ∃ F : Int, ((footN s (insideL s lo hi) : Nat) : Int) = F := ⟨_, rfl⟩
    obtain ⟨O, hO⟩ : ∃ O : Int, ((someN (insideL s lo hi) : Nat) : Int) = O := ⟨_, rfl⟩
    have hmx : (if F < O then O else F) = (T : Int) := by rw [hdd, ← hF, ← hO]; split <;> omega
    rw [hF] at c0
    rw [hO] at c1
    clear hdd hfl
    clear hI hF hO hI00 hIo hD hs
    go_wp2_with fail
    refine leaves_marks (B := W0.heap.size) (by simp) (fun W => Below w.heap.size w W) ?_ ?_ _ W2 ⟨by simp; exact ⟨hD2, hdef⟩, by simp⟩ hB2
    · rintro W3 r hr a1 hd
      exact a1.grown (grownBy_putObj' W3 r (.deferred none)) a1.size (fun k hk => by cases hk; omega)
    · rintro W3 a1
      exact ⟨_, by simp [results, Tryz.results76], rfl, a1⟩
open Go.Maps
theorem rLaid : laidOutB Tryz.prog = true := by kernel_rfl
theorem rRow : (33 : TypeId) < Tryz.prog.types.size := of_decide_eq_true (by kernel_rfl)
theorem rWide : (match Tryz.prog.underlying 33 with | some (.array _ _) | some (.struct _) => true | _ => false) = true := by rw [Tryz.underlying33]
theorem rLaw : WideMaps.KeyLaw Tryz.prog 33 := deep_law_laid rLaid (m := 2) (by omega) rRow (by kernel_rfl) rWide
theorem keyR : Keyed Tryz.prog 33 := Keyed.of_law rLaw
theorem rCells : Tryz.prog.cellsOf 33 = 2 := by kernel_rfl
theorem iCells : Tryz.prog.cellsOf 3 = 1 := by kernel_rfl
theorem rDeep : Tryz.prog.keyType 33 = true := by kernel_rfl
theorem rSize : ∃ n, Tryz.prog.types.size = n + 1 := ⟨Tryz.prog.types.size.pred, (Nat.succ_pred_eq_of_pos (Nat.lt_of_le_of_lt (Nat.zero_le _) rRow)).symm⟩
/-- What a range reads as. -/
def rKey (lo hi : Int) : Lit := .string (keyBytes [.int .i64 lo, .int .i64 hi])
theorem keyOf_R {lo hi : Int} (h1 : -1000000000 ≤ lo ∧ lo ≤ 1000000000) (h2 : -1000000000 ≤ hi ∧ hi ≤ 1000000000) : keyOf Tryz.prog 33 (.agg #[.int .i64 lo, .int .i64 hi]) = some (rKey lo hi) := by
  have w1 : (Lit.int .i64 lo).wf = true := WalkArith.wf_i64 (by omega)
  have w2 : (Lit.int .i64 hi).wf = true := WalkArith.wf_i64 (by omega)
  have hf : (Value.agg #[.int .i64 lo, .int .i64 hi]).formed Tryz.prog 33 = true := by simp [Value.formed, Tryz.underlying33, rCells]
  obtain ⟨n, hn⟩ := rSize
  unfold keyOf
  rw [Tryz.underlying33]
  simp only [rDeep, hf, Bool.and_self, if_true]
  rw [hn]
  have hk : Tryz.prog.keyLits (n + 1 + 1) 33 (Value.agg #[.int .i64 lo, .int .i64 hi]).cells.toList = some [.int .i64 lo, .int .i64 hi] := by
    simp [Program.keyLits, Tryz.underlying33, Tryz.underlying3, rCells, iCells, Value.cells, w1, w2]
  rw [hk]
  rfl
theorem rKey_inj {lo hi lo' hi' : Int} (h1 : -1000000000 ≤ lo ∧ lo ≤ 1000000000) (h2 : -1000000000 ≤ hi ∧ hi ≤ 1000000000) (h3 : -1000000000 ≤ lo' ∧ lo' ≤ 1000000000) (h4 : -1000000000 ≤ hi' ∧ hi' ≤ 1000000000) (h : rKey lo hi = rKey lo' hi') : lo = lo' ∧ hi = hi' := by
  have := keyR.inj (keyOf_R h1 h2) (by rw [h]; exact keyOf_R h3 h4)
  simp at this
  exact this
/-- Of each pair so far its demand. -/
structure DemD (dm : Int → Int → Int) (D : DataW Unit) (ok : Int → Int → Prop) : Prop where
  map : IsMap D
  at_ : ∀ lo hi : Int, ok lo hi → D.atKey (rKey lo hi) (.lit (.int .i64 0)) = .lit (.int .i64 (dm lo hi))
theorem DemD.nil (dm : Int → Int → Int) : DemD dm (.map []) (fun _ _ => False) := ⟨isMap_empty, fun _ _ h => h.elim⟩
theorem DemD.put {dm : Int → Int → Int} {D : DataW Unit} {ok : Int → Int → Prop} (h : DemD dm D ok) (hok : ∀ lo hi, ok lo hi → (-1000000000 ≤ lo ∧ lo ≤ 1000000000) ∧ -1000000000 ≤ hi ∧ hi ≤ 1000000000) {lo hi : Int} (h1 : -1000000000 ≤ lo ∧ lo ≤ 1000000000) (h2 : -1000000000 ≤ hi ∧ hi ≤ 1000000000) :
    DemD dm (D.put (rKey lo hi) (.lit (.int .i64 (dm lo hi)))) (fun x y => ok x y ∨ (x = lo ∧ y = hi)) := by
  refine ⟨h.map.put _ _, fun x y hxy => ?_⟩
  by_cases e : x = lo ∧ y = hi
  · obtain ⟨rfl, rfl⟩ := e
    rw [atKey_put_same h.map (show WideAt.IsKeyLit (rKey x y) from trivial)]
  · rcases hxy with hxy | hxy
    · obtain ⟨a, b⟩ := hok x y hxy
      rw [atKey_put_other (fun hk => e (rKey_inj a b h1 h2 hk)), h.at_ x y hxy]
    · exact absurd hxy e
theorem DemD.mono {dm : Int → Int → Int} {D : DataW Unit} {ok ok' : Int → Int → Prop} (h : DemD dm D ok) (hi : ∀ x y, ok' x y → ok x y) : DemD dm D ok' := ⟨h.map, fun x y h' => h.at_ x y (hi x y h')⟩
theorem wp_mapUpd {H : Type} {P : Program} {w : World} {o : Oper} {a : Act} {K : Act → World → Prop} {Q : Exit → Act → World → Prop}
    (m x v : Operand) (t : TypeId) (hop : o.op = Op.mapUpdate t m x v) {k e : TypeId} (Ky : Keyed P k) (ht : P.underlying t = some (.map k e)) {R : Value → Option (DataW H × List MemPlace)} {b n : Nat} {D : DataW H}
    (hm : a.eval m = .map (some b)) (hown : w.ownsMap P k R b n D) (hn : n < maxLen) {key val : Value} {kl : Lit} (hx : a.eval x = key) (hv : a.eval v = val) (hkey : keyOf P k key = some kl)
    {d : DataW H} {ps : List MemPlace} (hval : R val = some (d, ps))
    (hK : ∀ w', w'.ownsMap P k R b (n + 1) (D.put kl d) → w.grownBy w' (some b) → K (a.put o.dst undef) w') : o.wp P a w K Q := by
  obtain ⟨w', hrun, r1, r2⟩ := hown.update Ky ht hn hkey hval
  unfold Oper.wp
  simp [execOp, hop, hm, hx, hv, hrun, Result.andThen]
  exact hK w' r1 r2
/-- A map that is held. -/
abbrev SL.As.omap (M n : Nat) (D : DataW Unit) : SL.As :=
  { A := fun w F => w.ownsMap Tryz.prog 33 (plainElem Tryz.prog 3) M n D ∧ F = [M],
    st := by
      rintro w w' F ⟨⟨es, clock, hb, rest⟩, rfl⟩ hk _
      exact ⟨⟨es, clock, (hk M (by simp)).trans hb, rest⟩, rfl⟩ }
end Go.Proofs.YtodkbfbbpfghiaaGreat
namespace Go.Proofs.YtodkbfbbpfghiaaGreat
open Go.RowKit Go.Shelf
set_option maxHeartbeats 4000000
set_option maxRecDepth 100000
theorem Cs.ask_nil (c : Cs) : c.ask [] = c.chk := by
  rw [c.ask_eq]
  by_cases h : c.chk = 0
  · rw [if_pos h, h]; rfl
  · rw [if_neg h]
/-- A case laid with no part asked of. -/
theorem wlaid0 (c : Cs) (w : World) (hc : CsAt w c) : Calls Tryz.prog 75 #[c.v, .slice none 0 0] w fun e w' =>
    (c.chk ≠ 0 → e = .returned (.tuple #[.pointer none, .int .i64 c.chk]) ∧ Below w.heap.size w w') ∧
    (c.chk = 0 → ∃ N a ca f cf, e = .returned (.tuple #[.pointer (some ⟨N, 0, none⟩), .int .i64 0]) ∧ Below w.heap.size w w' ∧ w.heap.size ≤ N ∧ TabAt w' N c a ca f cf) := by
  have h := wlaid c none 0 0 [] w hc (IntsAt.nilAt w)
  unfold LaidPost at h
  rw [c.ask_nil] at h
  exact h
theorem Cs.Ok.many' {c : Cs} (h : c.Ok) : c.s.length ≤ 40 ∧ OkS c.s ∧ c.s.length = c.ps.length := ⟨by have := h.many; rw [show c.s.length = c.ps.length from pns_len _]; exact this, h.oks, pns_len _⟩
theorem wDemand (c : Cs) (lo hi : Int) (w : World) (hc : CsAt w c) :
    Calls Tryz.prog 21 #[c.v, .agg #[.int .i64 lo, .int .i64 hi]] w fun e w' => e = .returned (.tuple #[.int .i64 (c.dem lo hi), .int .i64 c.chk]) ∧ Below w.heap.size w w' := by
  have hC := fun w1 (h : CsAt w1 c) => wlaid0 c w1 h
  have hr : c.dem lo hi = if c.chk = 0 then (YtodkbfbbpfghiaaGreat.dem c.s lo hi : Int) else 0 := rfl
  have hz := @Cs.chk_zero c
  generalize c.dem lo hi = R at *
  generalize c.chk = E at *
  by_cases h0 : E = 0
  · subst h0
    obtain ⟨hm, hok, hsl⟩ := (hz.1 rfl).many'
    have hD := fun w1 a ca f cf (hs : SpansAt w1 a ca f cf c.ps.length c.s) => wdemand a ca f cf _ c.s lo hi w1 hs (by omega)
    simp only [ne_eq, not_true, false_implies, true_and, true_implies] at hC
    rw [if_pos rfl] at hr
    rw [← hr] at hD
    unfold spV at hD
    clear hz hr hm hok hsl
    obtain ⟨ware, lim, byr, a, cap, ps⟩ := c
    simp only [Cs.v] at *
    have hB0 : Below w.heap.size w ((w.alloc (Obj.cells #[.string ware, .int .i64 lim, .int .i64 byr, .slice a ps.length cap] 24)).alloc (Obj.cells #[.int .i64 lo, .int .i64 hi] 33)) := by ((repeat (first | assumption | exact Below.refl _ _ | refine Below.alloc ?_ ?_ _ | refine Below.setCell ?_ ?_ _ | refine Below.drew ?_ | refine belowN ?_ | refine Below.up ?_ (by assumption) ?_)) <;> (first | assumption | omega | (simp; done) | (simp; omega)))
    have hbx := hc.below hB0
    go_enter Tryz.func21, Tryz.ntmps21
    go_wp2_with (go_at_call 75; (with_reducible refine (hC _ hbx).mono ?_); rintro e w1 ⟨N, a1, ca, f1, cf, rfl, hb1, hN, hT⟩; obtain ⟨t0, t1, t2, t3, t4, t5⟩ := hT.get; have hNl := hT.lt; obtain ⟨hc1, hf1⟩ := bcell hb1; have hz2 := lt_size hb1 (b := w.heap.size + 1) (by first | assumption | omega | (simp; done) | (simp; omega)))
    have r0 : w1.cell? ⟨w.heap.size + 1, 0, none⟩ = some (.int .i64 lo) := by rw [hc1 _ _ (by simp)]; simp [go_sem]
    have r1 : w1.cell? ⟨w.heap.size + 1, 1, none⟩ = some (.int .i64 hi) := by rw [hc1 _ _ (by simp)]; simp [go_sem]
    have hBW := hB0.ch2 hb1
    have hTs := hT.sp
    simp only at t4 t5 hTs
    clear hc1 hf1 t0 t1 t2 t3 hT hC hb1 hB0 hbx
    apply SLG.rule0 ?hm1 [] [16, 17, 18, 19, 20, 21, 4, 5] [SLF.pq 16 [] _, SLF.pq 17 [0] _, SLF.pq 18 [1] _, SLF.pq 19 [2] _, SLF.pq 20 [] _, SL.pu 21 [3, 4] (.int .i64 R), SLF.pq 4 [5] _, SLF.pq 5 [] _] [6, 7] ?hck1 ?hkp1 (fun _ => []) ?hin1 ?hdj1 ?hfr1 ?ob1 ?en1
    case hm1 => kernel_rfl
    case hin1 => exact SL.none_held rfl
    case hdj1 => simp
    case hfr1 => intro us; simp only [SL.frame, SL.put']; simp; exact rfl
    case ob1 =>
      refine ⟨?_, ?_, ?_, ?_, ?_, ?_, ?_, ?_, trivial⟩
      all_goals first
        | (intro us w' Fe hG hu hd hv Kx hK
           try dsimp only
           simp [SL.Used, SL.pu, SL.row, SL.box, SL.rowIn, SL.boxIn, SL.boxAt, SL.boxAtIn, SLF.pq, Act.put, SL.aw_sub, SL.aw_use, SL.aw_eat, SL.aw_V, SL.aw_quiet] at hu hK
           have hB5 : Below w1.heap.size w1 w' := hG.below'
           obtain ⟨hc5, hf5⟩ := bcell hB5
           have hs5 := hB5.size
           clear hv hG
           refine SLF.wpo_do (SLF.wanted_free rfl) ?hd1 ?_
           case hd1 => intro c h; cases h
           clear hd
           first
             | (go_step; exact hK _ _ _ (SL.Chg.refl _ _) (by first | exact rfl | (simp only [hu]; exact rfl)) rfl (by simp) rfl)
             | exact hK _ _ _ (SL.Chg.refl _ _) rfl rfl (by simp) rfl)
        | skip
      · refine SLG.ob_sp rfl rfl rfl fun us w' Fe hG hu hd Kx hK => ?_
        try dsimp only
        simp [SL.Used, SL.pu, SL.row, SL.box, SL.rowIn, SL.boxIn, SL.boxAt, SL.boxAtIn, SLF.pq, Act.put, SL.aw_sub, SL.aw_use, SL.aw_eat, SL.aw_V, SL.aw_quiet] at hu
        have hB5 : Below w1.heap.size w1 w' := hG.below'
        obtain ⟨hc5, hf5⟩ := bcell hB5
        have hs5 := hB5.size
        refine SLF.wpo_do (SLF.wanted_free rfl) ?hd1 ?_
        case hd1 => intro c h; cases h
        go_step
        refine (hD _ _ _ _ _ (hTs.below hB5)).mono ?_
        rintro e w6 ⟨rfl, hb6⟩
        exact hK _ _ w6 [] (by simp [Act.put]; done) (.of_below hb6) ⟨rfl, rfl⟩ (fun j hj => by cases hj)
    case hck1 => kernel_rfl
    case hkp1 => kernel_rfl
    intro us w5 Fs hG hu hbd hd
    simp [SL.Used, SLF.pq] at hu
    obtain ⟨⟨e4, _⟩, e5, _⟩ := hu
    have hB5 : Below w1.heap.size w1 w5 := hG.below'
    clear hbd hd hG
    simp only [e4, e5]
    go_wp2_with fail
    go_ret2
    exact ⟨rfl, hBW.ch2 hB5⟩
  · have h2 : (E != 0) = true := by simpa using h0
    rw [if_neg h0] at hr
    subst hr
    have hC2 := fun w1 h => (hC w1 h).mono fun e w' hh => hh.1 h0
    clear hz h0 hC
    obtain ⟨ware, lim, byr, a, cap, ps⟩ := c
    simp only [Cs.v] at *
    have hB0 : Below w.heap.size w ((w.alloc (Obj.cells #[.string ware, .int .i64 lim, .int .i64 byr, .slice a ps.length cap] 24)).alloc (Obj.cells #[.int .i64 lo, .int .i64 hi] 33)) := by ((repeat (first | assumption | exact Below.refl _ _ | refine Below.alloc ?_ ?_ _ | refine Below.setCell ?_ ?_ _ | refine Below.drew ?_ | refine belowN ?_ | refine Below.up ?_ (by assumption) ?_)) <;> (first | assumption | omega | (simp; done) | (simp; omega)))
    have hbx := hc.below hB0
    go_enter Tryz.func21, Tryz.ntmps21
    go_wp2_with (go_at_call 75; (with_reducible refine (hC2 _ hbx).mono ?_); rintro e w1 ⟨rfl, hb1⟩)
    go_ret2
    exact ⟨rfl, hB0.ch2 hb1⟩
/-- Each of the first k clashes with all ahead of it. -/
def shN (s : List Pn) (l : List Int) (k : Nat) : Bool := (List.range k).all fun i => !(l.take i).any fun b => !clB s (l.getD i 0).toNat b.toNat
theorem shN_succ (s : List Pn) (l : List Int) (k : Nat) : shN s l (k + 1) = (shN s l k && !(l.take k).any fun b => !clB s (l.getD k 0).toNat b.toNat) := by
  unfold shN
  rw [List.range_succ, List.all_append]
  simp
theorem shN_pre {s : List Pn} {l : List Int} {k n : Nat} (hk : k ≤ n) (h : shN s l k = false) : shN s l n = false := by
  rw [Bool.eq_false_iff] at h ⊢
  intro h2
  refine h (List.all_eq_true.2 fun i hi => List.all_eq_true.1 h2 i (List.mem_range.2 ?_))
  have := List.mem_range.1 hi
  omega
theorem shN_iff {s : List Pn} {l : List Int} : shN s l l.length = true ↔ l.Pairwise fun y x => clB s y.toNat x.toNat = true := by
  unfold shN
  rw [List.pairwise_iff_getElem]
  constructor
  · intro h i j hi hj hij
    have h1 := List.all_eq_true.1 h j (List.mem_range.2 hj)
    rw [Bool.not_eq_true', Bool.eq_false_iff] at h1
    rw [clB_comm]
    by_cases hc : clB s l[j].toNat l[i].toNat = true
    · exact hc
    · refine absurd ?_ h1
      refine List.any_eq_true.2 ⟨l[i], ?_, ?_⟩
      · rw [List.mem_take_iff_getElem]; exact ⟨i, by omega, rfl⟩
      · rw [getI hj]; simpa using hc
  · intro h
    refine List.all_eq_true.2 fun j hj => ?_
    have hj := List.mem_range.1 hj
    rw [Bool.not_eq_true', Bool.eq_false_iff]
    intro h1
    obtain ⟨x, hx, hc⟩ := List.any_eq_true.1 h1
    rw [List.mem_take_iff_getElem] at hx
    obtain ⟨i, hi, rfl⟩ := hx
    have := h i j (by omega) hj (by omega)
    rw [getI hj, clB_comm, this] at hc
    cases hc
theorem witB_N {s : List Pn} {l : List Int} : witB s [] l = (risB 0 ((s.length : Int) - 1) l && shN s l l.length) := by
  rw [Bool.eq_iff_iff, Bool.and_eq_true, witB_iff, risB_iff, shN_iff]
  constructor
  · rintro ⟨h1, h2⟩
    exact ⟨⟨h2.imp fun h => h.1, fun x hx => by have := h1 x hx; omega⟩, h2.imp fun h => h.2⟩
  · rintro ⟨⟨h1, h2⟩, h3⟩
    exact ⟨fun x hx => by have := h2 x hx; omega, h1.imp₂ (fun _ _ a b => ⟨a, b⟩) h3⟩
theorem wshown1 (a : Option Addr) (ca : Nat) (f : Option Addr) (cf n : Nat) (s : List Pn) (X b SB AB : Nat) (w : World) (hs : SpansAt w a ca f cf n s) (hX : X < s.length) (hb : b < s.length)
    (h1 : w.cell? ⟨SB, 0, none⟩ = some (.slice a n ca)) (h1' : w.cell? ⟨SB, 1, none⟩ = some (.slice f n cf)) (h2 : w.cell? ⟨AB, 0, none⟩ = some (.int .i64 X)) :
    Calls Tryz.prog 117 #[.int .i64 b, .pointer (some ⟨SB, 0, none⟩), .pointer (some ⟨AB, 0, none⟩)] w fun e w' => e = .returned (.bool (!clB s X b)) ∧ Below w.heap.size w w' := by
  have hK := wclash a ca f cf n s X b w hs hX hb
  unfold spV at *
  generalize clB s X b = B at *
  go_enter Tryz.func117, Tryz.ntmps117
  go_wp2_with fail
  refine hK.mono ?_
  rintro e w2 ⟨rfl, hb2⟩
  go_wp2_with fail
  go_ret
  exact ⟨rfl, hb2⟩
theorem wshown (a : Option Addr) (ca : Nat) (f : Option Addr) (cf n : Nat) (s : List Pn) (al : Option Addr) (m cl : Nat) (l : List Int) (w : World) (hs : SpansAt w a ca f cf n s) (hl : IntsAt w al m cl l) (hroom : l.length ≤ cl) :
    Calls Tryz.prog 78 #[spV a ca f cf n, .slice al m cl] w fun e w' => e = .returned (.bool (witB s [] l)) ∧ Below w.heap.size w w' := by
  have hT := @witB_N s l
  have hin := @risB_iff 0 ((s.length : Int) - 1) l
  obtain rfl := hl.len
  obtain rfl := hs.len
  have hls := hl.small
  have hss := hs.small
  have hent : ∀ args w, (callFunc 117 args).run Tryz.prog w = .ok (.enter 117 args) w := enters_of Tryz.func117 (by kernel_rfl) rfl
  have hmk := makeFuncW
  have hRi := fun W (h : IntsAt W al l.length cl l) => wrising_any al l.length cl l 0 ((s.length : Int) - 1) W h.lat
  unfold spV
  generalize witB s [] l = T at *
  have hB0 := one_alloc w (Obj.cells #[.slice a s.length ca, .slice f s.length cf] 83)
  cases hri : risB 0 ((s.length : Int) - 1) l
  · rw [hri] at hT hRi
    simp only [Bool.false_and] at hT
    have HT := Lib.hid hT
    clear hT hri hin
    go_enter Tryz.func78, Tryz.ntmps78
    go_wp2_with (go_at_call 115; (with_reducible refine (hRi _ (hl.below hB0)).mono ?_); rintro e w1 ⟨rfl, hb1⟩)
    go_ret
    exact ⟨ret_bool HT.out.symm, hB0.ch2 hb1⟩
  · have hin' := (hin.1 hri).2
    rw [hri] at hT hRi
    simp only [Bool.true_and] at hT
    have HT := Lib.hid hT
    clear hT hri hin
    go_enter Tryz.func78, Tryz.ntmps78
    go_wp2_with (go_at_call 115; (with_reducible refine (hRi _ (hl.below hB0)).mono ?_); rintro e w1 ⟨rfl, hb1⟩)
    have hBW := hB0.ch2 hb1
    have z1 : w.heap.size < w1.heap.size := lt_size hb1 (b := w.heap.size) (by first | assumption | omega | (simp; done) | (simp; omega))
    have p0 : w1.cell? ⟨w.heap.size, 0, none⟩ = some (.slice a s.length ca) := by rw [(bcell hb1).1 _ _ (by simp)]; simp [go_sem]
    have p1 : w1.cell? ⟨w.heap.size, 1, none⟩ = some (.slice f s.length cf) := by rw [(bcell hb1).1 _ _ (by simp)]; simp [go_sem]
    clear hb1
    go_loopw [16] (fun i wr => ∃ k : Nat, k ≤ l.length ∧ i = .int .i64 k ∧ Below w1.heap.size w1 wr ∧ shN s l k = true) (fun i _ => l.length - (RowKit.intOf i).toNat)
    case atStart => exact ⟨0, Nat.zero_le _, rfl, Below.refl _ _, rfl⟩
    case round =>
      obtain ⟨k, hk, rfl, hB', hall⟩ := hrel
      have hB : Below w.heap.size w wr := hBW.ch2 hB'
      have Hall := Lib.hid hall
      clear hall
      have hnn : (0 : Int) ≤ k := by omega
      by_cases hlt : k < l.length
      · have i1 : (k : Int) < (l.length : Int) := by omega
        have i2 : (k : Int) ≤ (cl : Int) := by omega
        have i3 : (k : Int) ≤ (l.length : Int) := by omega
        obtain ⟨b, o, rfl, hbl, d0⟩ := (hl.below hB).get hlt
        have Hsu := Lib.hid (shN_succ s l k)
        have Hpre := Lib.hid (@shN_pre s l (k + 1) l.length (by omega))
        have hx := hin' _ (mem_getD hlt)
        obtain ⟨X, hX⟩ : ∃ X : Nat, l.getD k 0 = X := ⟨(l.getD k 0).toNat, by omega⟩
        rw [hX] at d0 hx Hsu
        simp only [Int.toNat_natCast] at Hsu
        have hXl : X < s.length := by omega
        clear hX hx
        have hsz : w.heap.size < wr.heap.size := by have := hB'.size; omega
        have q0 : wr.cell? ⟨w.heap.size, 0, none⟩ = some (.slice a s.length ca) := by rw [(bcell hB').1 _ _ (by omega)]; exact p0
        have q1 : wr.cell? ⟨w.heap.size, 1, none⟩ = some (.slice f s.length cf) := by rw [(bcell hB').1 _ _ (by omega)]; exact p1
        have hal := one_alloc wr (Obj.cells #[.int .i64 X] 3)
        have r0 := ((bcell hal).1 _ 0 hsz).trans q0
        have r1 := ((bcell hal).1 _ 1 hsz).trans q1
        have r2 : (wr.alloc (Obj.cells #[.int .i64 X] 3)).cell? ⟨wr.heap.size, 0, none⟩ = some (.int .i64 X) := by simp [go_sem]
        have hsb := (hs.below hB).below hal
        have hcon := conF_any 117 #[.pointer (some ⟨w.heap.size, 0, none⟩), .pointer (some ⟨wr.heap.size, 0, none⟩)] (fun b => !clB s X b.toNat) (some ⟨b, o, none⟩) k cl (l.take k) _ (((hl.below hB).below hal).take hk (by simp)) hent
          (fun y hy w3 h3 => by
            have hyy := hin' y (List.mem_of_mem_take hy)
            obtain ⟨Y, rfl⟩ : ∃ Y : Nat, y = Y := ⟨y.toNat, by omega⟩
            exact wshown1 a ca f cf _ s X Y _ _ w3 (hsb.below h3) hXl (by omega) (((bcell h3).1 _ _ (by simp; omega)).trans r0) (((bcell h3).1 _ _ (by simp; omega)).trans r1) (((bcell h3).1 _ _ (by simp)).trans r2))
        clear r0 r1 r2 q0 q1 hsb
        obtain ⟨A, hA⟩ : ∃ A, ((l.take k).any fun b => !clB s X b.toNat) = A := ⟨_, rfl⟩
        rw [hA] at hcon
        have HA := Lib.hid hA
        clear hA
        cases A
        · go_wp2_with (go_at_call 116; (with_reducible refine hcon.mono ?_); rintro e w3 ⟨rfl, hb3⟩)
          go_roundw
          case rel => exact ⟨k + 1, by omega, by go_num, hB'.ch2 (hal.ch2 hb3), by rw [Hsu.out, Hall.out, HA.out]; rfl⟩
          case measure => simp [RowKit.intOf]; omega
        · have Hf := Lib.hid (Hpre.out (by rw [Hsu.out, HA.out]; simp))
          go_wp2_with (go_at_call 116; (with_reducible refine hcon.mono ?_); rintro e w3 ⟨rfl, hb3⟩)
          go_ret
          exact ⟨ret_bool (by rw [HT.out, Hf.out]), hB.ch2 (hal.ch2 hb3)⟩
      · have hk2 : k = l.length := by omega
        subst hk2
        go_wp2_with fail
        go_ret
        exact ⟨ret_bool (by rw [HT.out, Hall.out]), hB⟩
theorem wCheckWitness (c : Cs) (al : Option Addr) (m cl : Nat) (l : List Int) (w : World) (hc : CsAt w c) (hl : IntsAt w al m cl l) (hroom : l.length ≤ cl) :
    Calls Tryz.prog 23 #[c.v, .slice al m cl] w fun e w' => e = .returned (.tuple #[.bool (c.wit l), .int .i64 c.chk]) ∧ Below w.heap.size w w' := by
  have hC := fun w1 (h : CsAt w1 c) => wlaid0 c w1 h
  have hr : c.wit l = (decide (c.chk = 0) && witB c.s [] l) := rfl
  have hz := @Cs.chk_zero c
  obtain rfl := hl.len
  generalize c.wit l = R at *
  generalize c.chk = E at *
  by_cases h0 : E = 0
  · subst h0
    obtain ⟨hm, hok, hsl⟩ := (hz.1 rfl).many'
    have hO := fun w1 a ca f cf (hs : SpansAt w1 a ca f cf c.ps.length c.s) (h : IntsAt w1 al l.length cl l) => wshown a ca f cf _ c.s al _ cl l w1 hs h hroom
    simp only [decide_true, Bool.true_and, ne_eq, not_true, false_implies, true_and, true_implies] at hC hr
    rw [← hr] at hO
    unfold spV at hO
    clear hz hr hm hok hsl
    obtain ⟨ware, lim, byr, a, cap, ps⟩ := c
    simp only [Cs.v] at *
    have hB0 := one_alloc w (Obj.cells #[.string ware, .int .i64 lim, .int .i64 byr, .slice a ps.length cap] 24)
    have hbx := hc.below hB0
    have hlx := hl.below hB0
    go_enter Tryz.func23, Tryz.ntmps23
    go_wp2_with (first
      | (go_at_call 75; (with_reducible refine (hC _ hbx).mono ?_); rintro e w1 ⟨N, a1, ca, f1, cf, rfl, hb1, hN, hT⟩; obtain ⟨t0, t1, t2, t3, t4, t5⟩ := hT.get; have hNl := hT.lt)
      | (go_at_call 78; (with_reducible refine (hO _ _ _ _ _ hT.sp (hlx.below hb1)).mono ?_); rintro e w2 ⟨rfl, hb2⟩))
    go_ret2
    exact ⟨rfl, (hB0.ch2 hb1).ch2 hb2⟩
  · have h2 : (E != 0) = true := by simpa using h0
    have hd : decide (E = 0) = false := by simpa using h0
    rw [hd] at hr
    simp only [Bool.false_and] at hr
    subst hr
    have hC2 := fun w1 h => (hC w1 h).mono fun e w' hh => hh.1 h0
    clear hd hz h0 hC
    obtain ⟨ware, lim, byr, a, cap, ps⟩ := c
    simp only [Cs.v] at *
    have hB0 := one_alloc w (Obj.cells #[.string ware, .int .i64 lim, .int .i64 byr, .slice a ps.length cap] 24)
    have hbx := hc.below hB0
    go_enter Tryz.func23, Tryz.ntmps23
    go_wp2_with (go_at_call 75; (with_reducible refine (hC2 _ hbx).mono ?_); rintro e w1 ⟨rfl, hb1⟩)
    go_ret2
    exact ⟨rfl, hB0.ch2 hb1⟩
end Go.Proofs.YtodkbfbbpfghiaaGreat
