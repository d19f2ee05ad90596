/-
  Gauge, walked: settled.
-/
import Derived.Test.YtlkcfohmoeadbaaGreatPk06
set_option linter.unusedSimpArgs false
set_option linter.unusedVariables false
set_option linter.unnecessarySimpa false
namespace Go.Proofs.YtlkcfohmoeadbaaGreat
open Go.RowKit Go.Shelf
set_option maxHeartbeats 1000000
set_option maxRecDepth 100000
attribute [local go_sem] Oper.semAt_some

theorem grelaxing_any (p : Int) (a : Option Addr) (n cap : Nat) (N : Nat) (w : World) :
    Calls Tryz.prog 88 #[.agg #[.int .i64 p, .slice a n cap], .pointer (some ⟨N, 0, none⟩)] w fun e w' =>
      e = .returned (.func (.func 93) #[] #[.pointer (some ⟨w.heap.size, 0, none⟩), .pointer (some ⟨w.heap.size + 1, 0, none⟩)]) ∧
      w' = (w.alloc (.cells #[.int .i64 p, .slice a n cap] 24)).alloc (.cells #[.pointer (some ⟨N, 0, none⟩)] 104) := by
  have hmf := makeFunc_run
  go_enter Tryz.func88, Tryz.ntmps88
  go_wp2
  go_ret
  exact ⟨by simp, rfl⟩

def last0 (k : Nat) : List Int := List.replicate k (-1) ++ List.replicate (60 - k) 0
theorem last0_len (k : Nat) (h : k ≤ 60) : (last0 k).length = 60 := by simp [last0]; omega
theorem last0_next (k : Nat) (h : k < 60) : (last0 k).set k (-1) = last0 (k + 1) := by
  unfold last0
  rw [List.set_append_right _ _ (by simp)]
  rw [show 60 - k = (60 - (k + 1)) + 1 by omega, List.replicate_succ]
  simp [List.replicate_succ']

theorem last0_60 : last0 60 = List.replicate 60 (-1) := by simp [last0]

theorem SW.keep {p : Int} {a : Option Addr} {cap : Nat} {bs : List Bd} {SB PB N M B : Nat} {lo : Int} {W0 : World} {s : RL} {W W' : World} (h : SW p a cap bs SB PB N M lo W0 s W) (h1 : SB < B) (h2 : PB < B) (h3 : N < B) (h4 : M < B)
    (h5 : ∀ x, a = some x → x.block < B) (ho : W'.os = W.os) (ht : W'.tape = W.tape) (hu : W'.output = W.output) (hz : W.heap.size ≤ W'.heap.size) (hk : ∀ k, k < B → k < W.heap.size → W'.heap[k]? = W.heap[k]?) : SW p a cap bs SB PB N M lo W0 s W' := by
  have lt : ∀ {k : Nat} {o : Obj}, W.heap[k]? = some o → k < W.heap.size := fun h => (Array.getElem?_eq_some_iff.1 h).1
  refine ⟨ho.trans h.os, ht.trans h.tape, hu.trans h.output, (hk _ h1 (lt h.sb)).trans h.sb, (hk _ h2 (lt h.pb)).trans h.pb, (hk _ h3 (lt h.row)).trans h.row, (hk _ h4 (lt h.lst)).trans h.lst, ?_, h.ok⟩
  refine ⟨h.bds.len, h.bds.small, h.bds.nil, fun x hx => ?_⟩
  obtain ⟨q1, q2, q3⟩ := h.bds.at_ x hx
  refine ⟨q1, by omega, fun i hi => ?_⟩
  have hc : ∀ o, W'.cell? ⟨x.block, o, none⟩ = W.cell? ⟨x.block, o, none⟩ := fun o => World.cell?_of_block (w := W) (hk _ (h5 x hx) q2)
  rw [hc, hc, hc, hc]
  exact q3 i hi

theorem SW.own {p : Int} {a : Option Addr} {cap : Nat} {bs : List Bd} {SB PB N M B : Nat} {lo : Int} {W0 : World} (h1 : SB < B) (h2 : PB < B) (h3 : N < B) (h4 : M < B) (h5 : ∀ x, a = some x → x.block < B) : OwnFrom B (fun s W => SW p a cap bs SB PB N M lo W0 s W) := by
  intro s W W' row hs hg hr
  exact hs.keep h1 h2 h3 h4 h5 hg.os hg.tape hg.output hg.size (fun k hk hks => hg.block k hks (fun e => by have := (hr k e.symm).1; omega))

theorem settled_leaves {w W : World} {N M : Nat} {r L : List Int} {b : Bool} {tmps : Array Value} {D : List Deferred} (h4 : tmps.getD 4 undef = .pointer (some ⟨M, 0, none⟩)) (h5 : tmps.getD 5 undef = .bool b) (hN : N < w.heap.size) (hL : L.length = 60)
    (hD : Marks w.heap.size D W) (hC : SL.Chg [N] w W) (hr : W.heap[N]? = some (.cells (ints r) 77 (0, 0))) (hM : W.heap[M]? = some (.cells (ints L) 76 (0, 0))) :
    LeavesInM Fence.wide 0 Tryz.prog Tryz.f78 tmps (fun e w' => e = .returned (.tuple #[.agg (ints L), .bool b]) ∧ SL.Chg [N] w w' ∧ w'.heap[N]? = some (.cells (ints r) 77 (0, 0))) D .returning W := by
  refine leaves_marks (B := w.heap.size) (by simp) (fun W => SL.Chg [N] w W ∧ W.heap[N]? = some (.cells (ints r) 77 (0, 0)) ∧ W.heap[M]? = some (.cells (ints L) 76 (0, 0))) ?_ ?_ D W hD ⟨hC, hr, hM⟩
  · rintro W1 k hk ⟨a1, a2, a3⟩ hd
    have hg := grownBy_putObj' W1 k (.deferred none)
    refine ⟨⟨hg.os.trans a1.os, hg.tape.trans a1.tape, hg.output.trans a1.output, Nat.le_trans a1.size hg.size, fun j hj hn => ?_⟩, ?_, ?_⟩
    · rw [World.putObj_heap_other (by omega)]; exact a1.block j hj hn
    · rw [World.putObj_heap_other (by omega)]; exact a2
    · rw [World.putObj_heap_other (fun e => by rw [← e, a3] at hd; cases hd)]; exact a3
  · rintro W1 ⟨a1, a2, a3⟩
    have hv := run_var_arr a3 hL
    have h4' : tmps[4]?.getD undef = .pointer (some ⟨M, 0, none⟩) := by simpa using h4
    have h5' : tmps[5]?.getD undef = .bool b := by simpa using h5
    exact ⟨_, by simp [results, Tryz.results78, asAddr, hv, h4', h5'], rfl, a1, a2⟩

theorem gsettled_any (p : Int) (a : Option Addr) (n cap : Nat) (bs : List Bd) (N : Nat) (r : List Int) (w : World) (hb : BdsAt w a n cap bs) (hbs : bs.length ≤ 402) (hin : ∀ b ∈ bs, b.inr) (hp : 1 ≤ p ∧ p ≤ 60)
    (hN : w.heap[N]? = some (.cells (ints r) 77 (0, 0))) (hr : r.length = 60) (hlo : ∀ i : Int, 0 ≤ i → i < 60 → -2000000000 ≤ gi r i ∧ gi r i ≤ FAR) (hne : ∀ x, a = some x → x.block ≠ N) :
    Calls Tryz.prog 78 #[.agg #[.int .i64 p, .slice a n cap], .pointer (some ⟨N, 0, none⟩)] w fun e w' =>
      e = .returned (.tuple #[.agg (ints (settle FAR bs (p + 1).toNat ⟨r, List.replicate 60 (-1), 0⟩).1.last), .bool (settle FAR bs (p + 1).toNat ⟨r, List.replicate 60 (-1), 0⟩).2]) ∧
      SL.Chg [N] w w' ∧ w'.heap[N]? = some (.cells (ints (settle FAR bs (p + 1).toNat ⟨r, List.replicate 60 (-1), 0⟩).1.r) 77 (0, 0)) := by
  obtain rfl := hb.len
  generalize hres : settle FAR bs (p + 1).toNat ⟨r, List.replicate 60 (-1), 0⟩ = res
  have Hres := Lib.hid hres
  clear hres
  have hNl : N < w.heap.size := (Array.getElem?_eq_some_iff.1 hN).1
  refine (callsIn_wide (n := 0)).1 (callsIn_of_wp_marks Tryz.func78 rfl trivial ?_)
  simp only [Tryz.ntmps78, List.size_toArray, List.length_cons, List.length_nil, Nat.reduceAdd, Nat.reduceSub, Array.replicate_succ, Array.replicate_zero, List.push_toArray, List.append_toArray, List.nil_append, List.cons_append]
  refine wpIn_wide.2 ?_
  go_wp2_with fail
  go_loopw [10, 6] (fun i _ wr => ∃ k : Nat, k ≤ 60 ∧ i = .int .i64 k ∧ Below w.heap.size w wr ∧ wr.heap[w.heap.size]? = some (.cells #[.int .i64 p, .slice a bs.length cap] 24 (0, 0)) ∧
      wr.heap[w.heap.size + 1]? = some (.cells #[.pointer (some ⟨N, 0, none⟩)] 104 (0, 0)) ∧ wr.heap[w.heap.size + 1 + 1]? = some (.cells (ints (last0 k)) 76 (0, 0))) (fun i _ _ => 60 - (intOf i).toNat)
  case atStart =>
    refine ⟨0, by omega, rfl, by ((repeat (first | assumption | exact Below.refl _ _ | refine Below.alloc ?_ ?_ _ | refine Below.setCell ?_ ?_ _ | refine Below.drew ?_ | refine belowN ?_ | refine Below.up ?_ (by assumption) ?_)) <;> (first | assumption | omega | (simp; done) | (simp; omega))), ?_, ?_, ?_⟩
    · refine (Below.heap_alloc _ _ _ (by simp; omega)).trans ((Below.heap_alloc _ _ _ (by simp)).trans (World.alloc_heap_new w _))
    · have h := World.alloc_heap_new (w.alloc (.cells #[.int .i64 p, .slice a bs.length cap] 24)) (.cells #[.pointer (some ⟨N, 0, none⟩)] 104)
      rw [World.size_alloc] at h
      exact (Below.heap_alloc _ _ _ (by simp)).trans h
    · have h := World.alloc_heap_new ((w.alloc (.cells #[.int .i64 p, .slice a bs.length cap] 24)).alloc (.cells #[.pointer (some ⟨N, 0, none⟩)] 104)) (.cells (ints (last0 0)) 76)
      rw [World.size_alloc, World.size_alloc] at h
      exact h
  case round =>
    obtain ⟨k, hk, rfl, hB, h0, h1, h2⟩ := hrel
    by_cases hlt : k < 60
    · obtain ⟨c2, f2⟩ := SL.cells_of h2
      have c2k := (c2 k).trans (ints_get (last0 k) k (by rw [last0_len k hk]; exact hlt))
      have hk0 : (0 : Int) ≤ k := by omega
      have f2k := f2 k
      clear c2 f2
      go_wp2_with fail
      go_roundw
      case rel =>
        refine ⟨k + 1, by omega, by go_num, by ((repeat (first | assumption | exact Below.refl _ _ | refine Below.alloc ?_ ?_ _ | refine Below.setCell ?_ ?_ _ | refine Below.drew ?_ | refine belowN ?_ | refine Below.up ?_ (by assumption) ?_)) <;> (first | assumption | omega | (simp; done) | (simp; omega))), ?_, ?_, ?_⟩
        · rw [← h0]; exact Below.heap_setCell _ _ _ _ (by simp; omega)
        · rw [← h1]; exact Below.heap_setCell _ _ _ _ (by simp)
        · rw [← last0_next k hlt, ← ints_set]; exact SL.heap_set h2 _
      case measure => simp [intOf]; omega
    · obtain rfl : k = 60 := by omega
      have hNr : wr.heap[N]? = some (.cells (ints r) 77 (0, 0)) := (hB.block _ hNl).trans hN
      obtain ⟨c0, _⟩ := SL.cells_of h0
      have c00 := c0 0
      simp at c00
      clear c0
      go_wp2_with fail
      have hPP : (((p + 1).toNat : Nat) : Int) = p + 1 := by omega
      generalize hPPe : (p + 1).toNat = PP at *
      refine loopDp [7, 8, 9, 19, 20, 21, 22, 23, 24, 25, 26, 27, 28, 29, 30, 31, 32, 33, 34, 35, 36, 37, 38, 39, 40, 41, 42, 43, 44, 45, 46, 47, 48, 49, 50, 51, 52, 53, 54] (fun us D W => ∃ (i : Nat) (s : RL), us 19 = .int .i64 i ∧ i ≤ PP ∧
        SW p a cap bs w.heap.size (w.heap.size + 1) N (w.heap.size + 1 + 1) (-2000000000 - i * 40200000000) w { s with nx := 0 } W ∧ SL.Chg [N] w W ∧ Marks w.heap.size D W ∧
        settle FAR bs (PP - i) s = res) (fun us => PP - (intOf (us 19)).toNat) ?_ ?_
      · refine ⟨0, ⟨r, List.replicate 60 (-1), 0⟩, rfl, Nat.zero_le _, ⟨hB.os, hB.tape, hB.output, h0, h1, hNr, by rw [← last0_60]; exact h2, hb.below hB, ⟨hr, by simp, fun i q1 q2 => by have := hlo i q1 q2; simp; omega⟩⟩, .of_below hB, ⟨by simp, by simp⟩, Hres.out⟩
      · rintro us D W ⟨i, s, h19, hi, hS, hC, hM, hset⟩
        simp only [frame', SL.put', List.toList_toArray, List.contains_cons, List.contains_nil, Nat.reduceAdd, Nat.reduceBEq, Bool.or_false, Bool.or_true, Bool.false_or, Bool.true_or, if_true, Bool.false_eq_true, if_false, h19]
        have cp := (SL.cells_of hS.pb).1 0
        have cs0 := (SL.cells_of hS.sb).1 0
        have cs1 := (SL.cells_of hS.sb).1 1
        simp at cp cs0 cs1
        have hSlt := World.block_lt_of_cell? W _ cp
        have hSlt0 := World.block_lt_of_cell? W _ cs0
        simp only at hSlt hSlt0
        by_cases hlt : i < PP
        · have hid : decide ((i : Int) < p + 1) = true := by simp; omega
          go_wp2_with (first
            | (refine wpList_ldrow rfl _ rfl rfl hS.row hS.ok.rl ?_)
            | (refine wpList_strow_new rfl _ _ rfl rfl rfl rfl rfl hS.ok.rl ?_)
            | (go_at_call 88; refine (grelaxing_any _ _ _ _ _ _).mono ?_; rintro e w1 ⟨rfl, rfl⟩))
          generalize hWc : ((W.alloc (Obj.cells (ints s.r) 77)).alloc (Obj.cells #[.int .i64 p, .slice a bs.length cap] 24)).alloc (Obj.cells #[.pointer (some ⟨N, 0, none⟩)] 104) = Wc
          have bC : Below W.heap.size W Wc := by rw [← hWc]; ((repeat (first | assumption | exact Below.refl _ _ | refine Below.alloc ?_ ?_ _ | refine Below.setCell ?_ ?_ _ | refine Below.drew ?_ | refine belowN ?_ | refine Below.up ?_ (by assumption) ?_)) <;> (first | assumption | omega | (simp; done) | (simp; omega)))
          have zC : Wc.heap.size = W.heap.size + 3 := by rw [← hWc]; simp
          have w0 : Wc.heap[W.heap.size]? = some (.cells (ints s.r) 77 (0, 0)) := by
            rw [← hWc]; exact (Below.heap_alloc _ _ _ (by simp; omega)).trans ((Below.heap_alloc _ _ _ (by simp)).trans (World.alloc_heap_new W _))
          have w1 : Wc.heap[W.heap.size + 1]? = some (.cells #[.int .i64 p, .slice a bs.length cap] 24 (0, 0)) := by
            have h := World.alloc_heap_new (W.alloc (Obj.cells (ints s.r) 77)) (Obj.cells #[.int .i64 p, .slice a bs.length cap] 24)
            rw [World.size_alloc] at h
            rw [← hWc]; exact (Below.heap_alloc _ _ _ (by simp)).trans h
          have w2 : Wc.heap[W.heap.size + 1 + 1]? = some (.cells #[.pointer (some ⟨N, 0, none⟩)] 104 (0, 0)) := by
            have h := World.alloc_heap_new ((W.alloc (Obj.cells (ints s.r) 77)).alloc (Obj.cells #[.int .i64 p, .slice a bs.length cap] 24)) (Obj.cells #[.pointer (some ⟨N, 0, none⟩)] 104)
            rw [World.size_alloc, World.size_alloc] at h
            rw [← hWc]; exact h
          have hNW : N < W.heap.size := Nat.lt_of_lt_of_le hNl hC.size
          have hMW : w.heap.size + 1 + 1 < W.heap.size := (Array.getElem?_eq_some_iff.1 hS.lst).1
          have haW : ∀ x, a = some x → x.block < W.heap.size := fun x hx => (hS.bds.at_ x hx).2.1
          have hS0 : SW p a cap bs (W.heap.size + 1) (W.heap.size + 1 + 1) N (w.heap.size + 1 + 1) (-2000000000 - i * 40200000000) Wc { s with nx := 0 } Wc :=
            ⟨rfl, rfl, rfl, w1, w2, (bC.block _ hNW).trans hS.row, (bC.block _ hMW).trans hS.lst, hS.bds.below bC, hS.ok⟩
          clear hWc
          have hIo : OwnFrom Wc.heap.size (fun (s' : RL) W' => SW p a cap bs (W.heap.size + 1) (W.heap.size + 1 + 1) N (w.heap.size + 1 + 1) (-2000000000 - i * 40200000000) Wc s' W' ∧ SL.Chg [N, w.heap.size + 1 + 1] Wc W') :=
            OwnFrom.and (SW.own (by omega) (by omega) (by omega) (by omega) (fun x hx => by have := haW x hx; omega)) own_chg
          refine range_state' (σ := RL) (α := Nat × Bd) (gf := 93) (lb := #[.pointer (some ⟨W.heap.size + 1, 0, none⟩), .pointer (some ⟨W.heap.size + 1 + 1, 0, none⟩)]) (by simp [go_sem]) (enters_of Tryz.func93 (by kernel_rfl) rfl)
            (encs := fun x => #[.int .i64 x.1, x.2.v]) (fun _ => rfl)
            (fun s' W' => SW p a cap bs (W.heap.size + 1) (W.heap.size + 1 + 1) N (w.heap.size + 1 + 1) (-2000000000 - i * 40200000000) Wc s' W' ∧ SL.Chg [N, w.heap.size + 1 + 1] Wc W') (fun _ _ _ => False)
            hIo (fun _ _ _ _ _ h => h.elim) { s with nx := 0 } ⟨hS0, .refl _ _⟩
            (fun s' x => x.1 < bs.length ∧ x.2 = bs.getD x.1 default ∧ s'.nx ≤ x.1 ∧ opens FAR s'.r x.2 = true) (fun s' x => s'.upd x.1 x.2) [8, 9, 27, 28]
            (fun s' x us W' => us 8 = .int .i64 x.1 ∧ ∃ Bx, Wc.heap.size ≤ Bx ∧ us 9 = .pointer (some ⟨Bx, 0, none⟩) ∧ W'.heap[Bx]? = some (.cells #[.int .i64 x.2.frm, .int .i64 x.2.tow, .int .i64 x.2.most, .int .i64 x.2.bid] 26 (0, 0)))
            ?_ (fun s' => s' = s.pass FAR bs bs.length) (fun _ => False) ?_ ?_ ?_ ?_ (fun _ _ _ _ _ h => h.elim)
          · rintro s' x us ⟨⟩ W1 W2 row ⟨h1, Bx, h2, h3, h4⟩ hg hr
            refine ⟨h1, Bx, h2, h3, (hg.block _ (Array.getElem?_eq_some_iff.1 h4).1 fun e => ?_).trans h4⟩
            obtain ⟨_, o, ho, hc⟩ := hr _ e.symm
            rw [h4] at ho
            cases ho
            cases hc
          · intro l J Jx W1 hb1 hJ hJx hJI hJxI hy hj0
            refine (grelaxing1_any p a cap bs (W.heap.size + 1) (W.heap.size + 1 + 1) N (w.heap.size + 1 + 1) (-2000000000 - i * 40200000000) l J s Wc W1 hbs hin (by omega) (fun s' W' h => (hJI s' W' h).1) hJ hj0 ?_).mono ?_
            · intro s' k W2 hj hk hn ho
              refine (hy s' (k, bs.getD k default) W2 hj ⟨hk, rfl, hn, ho⟩).mono ?_
              rintro e W3 (⟨rfl, h⟩ | ⟨_, h⟩)
              · exact ⟨rfl, h⟩
              · obtain ⟨_, hf⟩ := hJxI _ _ h; exact hf.elim
            · rintro e W2 ⟨hv, hj⟩
              exact ⟨hv, .inl ⟨_, rfl, hj⟩⟩
          · rintro l s' ⟨k, x⟩ W1 K ⟨hS1, hC1⟩ ⟨hk, hx, hn, ho⟩ hK
            simp only [Bd.v]
            have Hx := Lib.hid hx
            clear hx
            gi_wp2_with fail
            exact hK _ _ (keeps_of_chg (E := []) (.alloc _ _ _) (by simp)) (hIo.alloc _ ⟨hS1, hC1⟩) rfl rfl ⟨rfl, W1.heap.size, hC1.size, rfl, World.alloc_heap_new W1 _⟩
          · rintro l s' ⟨k, x⟩ us' W1 hl ⟨hS1, hC1⟩ ⟨hk, hx, hn, ho⟩ ⟨h8, Bx, hBx, h9, hBh⟩
            simp only at hk hx hn ho h8 hBh
            have hxi : x.inr := hin _ (by rw [hx, List.getD_eq_getElem?_getD, List.getElem?_eq_getElem hk]; exact List.getElem_mem _)
            obtain ⟨x0, x1, x2, x3, x4, x5⟩ := hxi
            have e0 : W1.cell? ⟨w.heap.size + 1, 0, none⟩ = some (.pointer (some ⟨N, 0, none⟩)) := by
              rw [World.cell?_of_block (w := Wc) (hC1.block (w.heap.size + 1) (by omega) (by simp; omega)), (bcell bC).1 _ _ hSlt]; exact cp
            obtain ⟨l0, l1⟩ := hS1.ok.lows x.frm x0 x1
            obtain ⟨l2, l3⟩ := hS1.ok.lows x.tow x2 x3
            have hrl := hS1.ok.rl
            have hll := hS1.ok.ll
            have hos := opens_FAR.1 ho
            have l0' : -4000000000000 ≤ gi s'.r x.frm := by omega
            have l1' : gi s'.r x.frm ≤ 1099511627776 := l1
            clear l0 l1 l2 l3
            have hwr : IntKind.i64.wrap (gi s'.r x.frm + x.most) = gi s'.r x.frm + x.most := IntWalk.i64_in _ (by omega)
            have Hx := Lib.hid hx
            clear hx
            have hB1 : Bx < W1.heap.size := (Array.getElem?_eq_some_iff.1 hBh).1
            have hupd : (s'.upd k x).r = s'.r.set x.tow.toNat (gi s'.r x.frm + x.most) := rfl
            have hupl : (s'.upd k x).last = s'.last.set x.tow.toNat k := rfl
            have hSn := hS1.row
            have hSm := hS1.lst
            have b0 := (SL.cells_of hBh).1 0
            have b1 := (SL.cells_of hBh).1 1
            have b2 := (SL.cells_of hBh).1 2
            simp at b0 b1 b2
            simp only [frame', SL.put', List.toList_toArray, List.contains_cons, List.contains_nil, Nat.reduceAdd, Nat.reduceBEq, Bool.or_false, Bool.or_true, Bool.false_or, Bool.true_or, if_true, Bool.false_eq_true, if_false, h8, h9]
            refine wpIn_block ?_
            refine SLF.rule (ro := some l) (by kernel_rfl) [N, w.heap.size + 1 + 1] [29, 30, 31, 32, 33, 34, 35, 36, 37, 38, 39, 40, 41, 42, 43, 44, 45, 46] [SLF.pq 29 [] (.pointer (some ⟨N, 0, none⟩)), SLF.pq 30 [] (.pointer (some ⟨Bx, 1, none⟩)), SLF.pq 31 [1] (.int .i64 x.tow), SLF.pq 32 [] (.pointer (some ⟨Bx, 1, none⟩)), SLF.pq 33 [3] (.int .i64 x.tow), SLF.pq 34 [] (.pointer (some ⟨N, 0, none⟩)), SLF.pq 35 [] (.pointer (some ⟨Bx, 0, none⟩)), SLF.pq 36 [6] (.int .i64 x.frm), SLF.pq 37 [5] (.pointer (some ⟨N, 0, none⟩)), SLF.pq 38 [7, 8] (.pointer (some ⟨N, x.frm.toNat, none⟩)), SLF.pq 39 [9, 20] (.int .i64 (gi s'.r x.frm)), SLF.pq 40 [] (.pointer (some ⟨Bx, 2, none⟩)), SLF.pq 41 [11] (.int .i64 x.most), SLF.pq 42 [10, 12] (.int .i64 (gi s'.r x.frm + x.most)), SLF.pq 43 [] (.int .i64 k), SLF.pq 44 [0] (.pointer (some ⟨N, 0, none⟩)), SLF.pq 45 [2, 15] (.pointer (some ⟨N, x.tow.toNat, none⟩)), SLF.at_ 0 [13, 16, 20] [20] N 77 (ints (s'.upd k x).r), SLF.pq 46 [4] (.pointer (some ⟨w.heap.size + 1 + 1, x.tow.toNat, none⟩)), SLF.at_ 0 [14, 18, 21] [21] (w.heap.size + 1 + 1) 76 (ints (s'.upd k x).last),
              SLF.at_ 0 [] [] N 77 (ints s'.r), SLF.at_ 0 [] [] (w.heap.size + 1 + 1) 76 (ints s'.last)] [17, 19] (by kernel_rfl) (by kernel_rfl) _ (SLF.two_held rfl rfl rfl ⟨hSn, rfl⟩ ⟨hSm, rfl⟩ (by omega) (by omega)) (SLF.two_apart (by omega)) ?_ ?_
            · refine ⟨?_, ?_, ?_, ?_, ?_, ?_, ?_, ?_, ?_, ?_, ?_, ?_, ?_, ?_, ?_, ?_, ?_, ?_, ?_, ?_, trivial⟩
              all_goals refine SLF.ob fun us w' Fe hG hu hd hv K hK => SLF.wpo_do (SLF.wanted_free rfl) (by intro c h; cases h) ?_
              all_goals simp [SL.frame, SL.put', SL.Used, SL.Seen, SL.pu, SL.row, SL.box, SL.rowIn, SL.boxIn, SL.boxAt, SL.boxAtIn, Bd.v, Bd.cs, SLF.pq, SLF.at_] at hu hK ⊢
              all_goals (obtain ⟨hg1, hg2⟩ := hG.cellsF)
              all_goals have g0 := (hg1 (w.heap.size + 1) 0 (by omega) (by simp; omega)).trans e0
              all_goals have g1 := (hg1 Bx 0 hB1 (by simp; omega)).trans b0
              all_goals have g2 := (hg1 Bx 1 hB1 (by simp; omega)).trans b1
              all_goals have g3 := (hg1 Bx 2 hB1 (by simp; omega)).trans b2
              all_goals clear hg1 hg2 hG hv
              all_goals try (go_step; exact hK _ _ _ _ (by simp [Act.put, *]; done) (SL.Chg.refl _ _) rfl rfl (by simp) (by simp))
              · obtain ⟨hu1, hh, _⟩ := hu
                have gh := ((SL.cells_of hh).1 x.frm.toNat).trans (gi_cell x0 (by omega))
                go_step
                exact hK _ _ _ _ (by simp [Act.put, *]; done) (SL.Chg.refl _ _) rfl rfl (by simp) (by simp)
              · obtain ⟨⟨u1, _⟩, ⟨u2, _⟩, hh, hF⟩ := hu
                have gh := ((SL.cells_of hh).1 x.tow.toNat).trans (gi_cell x2 (by omega))
                have gf := (SL.cells_of hh).2 x.tow.toNat
                go_step
                refine hK _ undef _ _ (by simp [Act.put, *]; done) (.setCell _ (by rw [hF]; simp) _) (by rw [hupd, ← ints_set]; exact SL.heap_set hh _) rfl (by rw [hF]; simp)
              · obtain ⟨⟨u1, _⟩, ⟨u2, _⟩, hh, hF⟩ := hu
                have gh := ((SL.cells_of hh).1 x.tow.toNat).trans (gi_cell x2 (by omega))
                have gf := (SL.cells_of hh).2 x.tow.toNat
                go_step
                refine hK _ undef _ _ (by simp [Act.put, *]; done) (.setCell _ (by rw [hF]; simp) _) (by rw [hupl, ← ints_set]; exact SL.heap_set hh _) rfl (by rw [hF]; simp)
            · intro us w' Fs hG hu hbd hd
              simp [SL.frame, SL.put', SL.Used, SL.Seen, SL.pu, SL.row, SL.box, SL.rowIn, SL.boxIn, SL.boxAt, SL.boxAtIn, Bd.v, Bd.cs, SLF.pq, SLF.at_] at hu
              obtain ⟨⟨hu1, _⟩, hu2, _⟩ := hu
              have hG1 : SL.Chg [N, w.heap.size + 1 + 1] W1 w' := ⟨hG.os, hG.tape, hG.output, hG.size, hG.block⟩
              have hk2 : ∀ k, k < Wc.heap.size → k ≠ N → k ≠ w.heap.size + 1 + 1 → w'.heap[k]? = W1.heap[k]? := fun k h1 h2 h3 => hG1.block k (Nat.lt_of_lt_of_le h1 hC1.size) (by simp; omega)
              refine ⟨keeps_of_chg hG1 (by simp; omega), ⟨hG1.os.trans hS1.os, hG1.tape.trans hS1.tape, hG1.output.trans hS1.output, (hk2 _ (by omega) (by omega) (by omega)).trans hS1.sb, (hk2 _ (by omega) (by omega) (by omega)).trans hS1.pb, hu1, hu2,
                hS1.bds.chg hG1 (fun y hy => ?_), hS1.ok.upd ⟨x0, x1, x2, x3, x4, x5⟩ hn ho⟩, hC1.trans hG1⟩
              have h1 := hne y hy
              have h2 := (hb.at_ y hy).2.1
              simp
              omega
          · rintro Dm s' W2 hDm rfl ⟨hS2, hC2⟩ hdef
            generalize ht : s.pass FAR bs bs.length = t at *
            have hnx : t.nx ≤ 402 := by rw [← ht]; exact Nat.le_trans (RL.pass_nx _ _ _ _) hbs
            have hk2 : ∀ k, k < Wc.heap.size → k ≠ N → k ≠ w.heap.size + 1 + 1 → W2.heap[k]? = Wc.heap[k]? := fun k h1 h2 h3 => hC2.block k h1 (by simp; omega)
            have z0 : W2.heap[W.heap.size]? = some (.cells (ints s.r) 77 (0, 0)) := (hk2 _ (by omega) (by omega) (by omega)).trans w0
            have z1 : W2.heap[w.heap.size]? = some (.cells #[.int .i64 p, .slice a bs.length cap] 24 (0, 0)) := (hk2 _ (by omega) (by omega) (by omega)).trans ((bC.block _ (by omega)).trans hS.sb)
            have z2 : W2.heap[w.heap.size + 1]? = some (.cells #[.pointer (some ⟨N, 0, none⟩)] 104 (0, 0)) := (hk2 _ (by omega) (by omega) (by omega)).trans ((bC.block _ (by omega)).trans hS.pb)
            have hCw : SL.Chg [N] w W2 := by
              refine ⟨hS2.os.trans (bC.os.trans hC.os), hS2.tape.trans (bC.tape.trans hC.tape), hS2.output.trans (bC.output.trans hC.output), Nat.le_trans hC.size (Nat.le_trans bC.size hC2.size), fun k hk hn => ?_⟩
              have hk1 := Nat.lt_of_lt_of_le hk hC.size
              rw [hk2 k (Nat.lt_of_lt_of_le hk1 bC.size) (by simpa using hn) (by omega), bC.block k hk1, hC.block k hk hn]
            have hMk : Marks w.heap.size ({ target := .collected Dm, args := #[] } :: D) W2 := by
              have hold : ∀ d ∈ D, ∃ r, d.target = .collected r ∧ w.heap.size ≤ r ∧ r < Dm ∧ W2.heap[r]? = some (.deferred (some [])) := fun d hd => by
                obtain ⟨r, h1, h2, h3⟩ := hM.1 d hd
                have h4 : r < W.heap.size := (Array.getElem?_eq_some_iff.1 h3).1
                refine ⟨r, h1, h2, by omega, ?_⟩
                rw [hk2 r (by omega) (by omega) (fun e => by rw [e, hS.lst] at h3; cases h3), bC.block r h4, h3]
              refine ⟨fun d hd => ?_, List.pairwise_cons.2 ⟨fun d hd e => ?_, hM.2⟩⟩
              · rcases List.mem_cons.1 hd with rfl | hd
                · exact ⟨Dm, rfl, by omega, hdef⟩
                · obtain ⟨r, h1, h2, _, h3⟩ := hold d hd; exact ⟨r, h1, h2, h3⟩
              · obtain ⟨r, h1, _, h3, _⟩ := hold d hd
                rw [h1] at e
                simp at e
                omega
            have cp2 := (SL.cells_of z2).1 0
            simp at cp2
            have hSz2 := World.block_lt_of_cell? W2 _ cp2
            simp only at hSz2
            have hrun : settle FAR bs (PP - i) s = if t.r = s.r then (t, true) else settle FAR bs (PP - i - 1) t := by
              rw [show PP - i = (PP - i - 1) + 1 by omega, settle, ht]
              rfl
            go_wp2_with fail
            refine SL.rule (by kernel_rfl) [] [47, 48, 49, 50, 51] [SL.pu 47 [] (.pointer (some ⟨N, 0, none⟩)), SL.pu 48 [0] (.pointer (some ⟨N, 0, none⟩)), SL.pu 49 [1] (.agg (ints t.r)), SL.pu 50 [] (.agg (ints s.r)), SL.pu 51 [2, 3] (.bool (decide (t.r = s.r)))]
              [4] (by kernel_rfl) (by kernel_rfl) (fun _ => []) (SL.none_held rfl) (by simp) ?_ ?_
            · refine ⟨?_, ?_, ?_, ?_, ?_, trivial⟩
              all_goals refine SL.ob fun us w' Fe hG hu hd hv K hK => ?_
              all_goals simp [SL.frame, SL.put', SL.Used, SL.Seen, SL.pu, SL.row, SL.box, SL.rowIn, SL.boxIn, SL.boxAt, SL.boxAtIn, Bd.v, Bd.cs] at hu hv hK ⊢
              all_goals (have hgh : ∀ k, k < W2.heap.size → w'.heap[k]? = W2.heap[k]? := fun k hk => hG.block k hk (by simp))
              all_goals (have hg1 : w'.cell? ⟨w.heap.size + 1, 0, none⟩ = some (.pointer (some ⟨N, 0, none⟩)) := (World.cell?_of_block (w := W2) (hgh _ hSz2)).trans cp2)
              · go_step
                exact hK _ _ _ _ (by simp [Act.put, *]; done) (SL.Chg.refl _ _) rfl rfl (by simp)
              · go_step
                exact hK _ _ _ _ (by simp [Act.put, *]; done) (SL.Chg.refl _ _) rfl rfl (by simp)
              · have hN2 : w'.heap[N]? = some (.cells (ints t.r) 77 (0, 0)) := (hgh _ (by have := hC2.size; omega)).trans hS2.row
                refine wp_load_row _ _ rfl N (by simp [Act.eval, hu]) _ _ _ _ hN2 Tryz.underlying77 rfl (by rw [ints_size, hS2.ok.rl]; kernel_rfl) ?_
                exact hK _ _ _ _ rfl (SL.Chg.refl _ _) rfl rfl (by simp)
              · have hN2 : w'.heap[W.heap.size]? = some (.cells (ints s.r) 77 (0, 0)) := (hgh _ (by have := hC2.size; omega)).trans z0
                refine wp_load_row _ _ rfl W.heap.size (by simp [Act.eval]) _ _ _ _ hN2 Tryz.underlying77 rfl (by rw [ints_size, hS.ok.rl]; kernel_rfl) ?_
                exact hK _ _ _ _ rfl (SL.Chg.refl _ _) rfl rfl (by simp)
              · obtain ⟨⟨u1, _⟩, u2, _⟩ := hu
                exact wp_eqrows _ _ rfl (by simp [Act.eval, u1]) (by simp [Act.eval, u2]) hS2.ok.rl hS.ok.rl (hK _ _ _ _ rfl (SL.Chg.refl _ _) rfl rfl (by simp))
            · intro us3 w' Fs hG hu hbd hd
              simp [SL.frame, SL.put', SL.Used, SL.Seen, SL.pu, SL.row, SL.box, SL.rowIn, SL.boxIn, SL.boxAt, SL.boxAtIn, Bd.v, Bd.cs] at hu ⊢
              obtain ⟨hu, _⟩ := hu
              have hgh : ∀ k, k < W2.heap.size → w'.heap[k]? = W2.heap[k]? := fun k hk => hG.block k hk (by simp)
              have hGb := hG.below'
              have hS3 : SW p a cap bs (W.heap.size + 1) (W.heap.size + 1 + 1) N (w.heap.size + 1 + 1) (-2000000000 - i * 40200000000) Wc t w' :=
                hS2.keep (B := W2.heap.size) (Array.getElem?_eq_some_iff.1 hS2.sb).1 (Array.getElem?_eq_some_iff.1 hS2.pb).1 (Array.getElem?_eq_some_iff.1 hS2.row).1 (Array.getElem?_eq_some_iff.1 hS2.lst).1 (fun x hx => (hS2.bds.at_ x hx).2.1) hG.os hG.tape hG.output hG.size (fun k hk _ => hgh k hk)
              have hMk3 : Marks w.heap.size ({ target := .collected Dm, args := #[] } :: D) w' := ⟨fun d hd => by
                obtain ⟨r, h1, h2, h3⟩ := hMk.1 d hd
                exact ⟨r, h1, h2, (hgh r (Array.getElem?_eq_some_iff.1 h3).1).trans h3⟩, hMk.2⟩
              have hC3 : SL.Chg [N] w w' := hCw.trans (.of_below hGb)
              have y1 := (hgh _ (Array.getElem?_eq_some_iff.1 z1).1).trans z1
              have y2 := (hgh _ (Array.getElem?_eq_some_iff.1 z2).1).trans z2
              have hlst := hS3.lst
              have hlen := hS3.ok.ll
              clear hgh hG
              by_cases hq : t.r = s.r
              · rw [if_pos hq] at hrun
                simp only [hq, decide_true] at hu
                simp only [hu]
                go_wp2_with (first
                  | (refine wpList_ldarr rfl _ rfl rfl hlst hlen ?_)
                  | (refine wpList_starr_same rfl _ _ rfl rfl rfl rfl hlst hlen ?_))
                obtain rfl : (t, true) = res := by rw [← hset, hrun]
                exact settled_leaves rfl rfl hNl hlen hMk3 hC3 hS3.row hlst
              · rw [if_neg hq] at hrun
                simp only [hq, decide_false] at hu
                simp only [hu]
                go_wp2_with fail
                refine ⟨rfl, ⟨i + 1, t, by simp, by omega, ⟨hC3.os, hC3.tape, hC3.output, y1, y2, hS3.row, hlst, hS3.bds, ?_⟩, hC3, hMk3, ?_⟩, ?_⟩
                · have h := hS3.ok.reset hnx
                  refine ⟨h.rl, h.ll, fun j q1 q2 => ?_⟩
                  have := h.lows j q1 q2
                  simp at this ⊢
                  omega
                · rw [← hset, hrun, Nat.sub_add_eq]
                · simp [h19, intOf]
                  omega
        · have hid : decide ((i : Int) < p + 1) = false := by simp; omega
          have hlst := hS.lst
          have hlen := hS.ok.ll
          have hi0 : PP - i = 0 := by omega
          rw [hi0] at hset
          go_wp2_with (first
            | (refine wpList_ldarr rfl _ rfl rfl hlst hlen ?_)
            | (refine wpList_starr_same rfl _ _ rfl rfl rfl rfl hlst hlen ?_))
          obtain rfl : (s, false) = res := by rw [← hset]; rfl
          exact settled_leaves rfl rfl hNl hlen hM hC hS.row hlst
end Go.Proofs.YtlkcfohmoeadbaaGreat
