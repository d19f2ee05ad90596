/-
  Rows of 60 ints: whole loads, whole stores, equality; the marks that ranges over functions leave.
-/
import Derived.Test.YtlkcfohmoeadbaaGreatPk05
import Derived.ChangeKeysEq
import Derived.Laws.StructEq
import Derived.Deep.MidRow
import Derived.Deep.WholeRow
set_option linter.unusedSimpArgs false
set_option linter.unusedVariables false
set_option linter.unnecessarySimpa false
namespace Go.Proofs.YtlkcfohmoeadbaaGreat
open Go.RowKit Go.Shelf

theorem ints_size (l : List Int) : (ints l).size = l.length := by simp [ints]
theorem ints_one (l : List Int) : (ints l).all (·.oneCell') = true := by
  rw [Array.all_eq_true_iff_forall_mem]
  intro v hv
  simp [ints] at hv
  obtain ⟨_, _, rfl⟩ := hv
  rfl

theorem ld_row {w : World} {N : Nat} {l : List Int} {t : TypeId} (h : w.heap[N]? = some (.cells (ints l) t (0, 0))) (hl : l.length = 60) :
    (Instr.loadAt 77 (.pointer (some ⟨N, 0, none⟩))).run Tryz.prog w = .ok (.agg (ints l)) w := by
  simp only [Instr.loadAt, Instr.sureAddr, Sem.run_bind, Sem.run_pure, Result.andThen_ok]
  exact run_loadVar_row w N t _ _ _ _ h Tryz.underlying77 rfl (by rw [ints_size, hl]; kernel_rfl)
theorem ld_arr {w : World} {N : Nat} {l : List Int} {t : TypeId} (h : w.heap[N]? = some (.cells (ints l) t (0, 0))) (hl : l.length = 60) :
    (Instr.loadAt 76 (.pointer (some ⟨N, 0, none⟩))).run Tryz.prog w = .ok (.agg (ints l)) w := by
  simp only [Instr.loadAt, Instr.sureAddr, Sem.run_bind, Sem.run_pure, Result.andThen_ok]
  exact run_loadVar_row w N t _ _ _ _ h Tryz.underlying76 rfl (by rw [ints_size, hl]; kernel_rfl)
theorem st_row {w : World} {N : Nat} {l : List Int} {old : Array Value} {t : TypeId} (h : w.heap[N]? = some (.cells old t (0, 0))) (ho : old.size = 60) (hl : l.length = 60) :
    (Instr.storeAt 77 (.pointer (some ⟨N, 0, none⟩)) (.agg (ints l))).run Tryz.prog w = .ok () (w.setRow N (ints l)) := by
  simp only [Instr.storeAt, Instr.sureAddr, Sem.run_bind, Sem.run_pure, Result.andThen_ok]
  exact run_storeVar_row w N t _ _ _ h (by rw [ints_size, hl]; kernel_rfl) (by rw [ints_size, hl, ho]) (ints_one l)
theorem st_arr {w : World} {N : Nat} {l : List Int} {old : Array Value} {t : TypeId} (h : w.heap[N]? = some (.cells old t (0, 0))) (ho : old.size = 60) (hl : l.length = 60) :
    (Instr.storeAt 76 (.pointer (some ⟨N, 0, none⟩)) (.agg (ints l))).run Tryz.prog w = .ok () (w.setRow N (ints l)) := by
  simp only [Instr.storeAt, Instr.sureAddr, Sem.run_bind, Sem.run_pure, Result.andThen_ok]
  exact run_storeVar_row w N t _ _ _ h (by rw [ints_size, hl]; kernel_rfl) (by rw [ints_size, hl, ho]) (ints_one l)
/-- A new row is filled. -/
theorem st_row_new (w : World) {l : List Int} (hl : l.length = 60) :
    (Instr.storeAt 77 (.pointer (some ⟨w.heap.size, 0, none⟩)) (.agg (ints l))).run Tryz.prog (w.alloc (.cells #[.int .i64 0, .int .i64 0, .int .i64 0, .int .i64 0, .int .i64 0, .int .i64 0, .int .i64 0, .int .i64 0, .int .i64 0, .int .i64 0, .int .i64 0, .int .i64 0, .int .i64 0, .int .i64 0, .int .i64 0, .int .i64 0, .int .i64 0, .int .i64 0, .int .i64 0, .int .i64 0, .int .i64 0, .int .i64 0, .int .i64 0, .int .i64 0, .int .i64 0, .int .i64 0, .int .i64 0, .int .i64 0, .int .i64 0, .int .i64 0, .int .i64 0, .int .i64 0, .int .i64 0, .int .i64 0, .int .i64 0, .int .i64 0, .int .i64 0, .int .i64 0, .int .i64 0, .int .i64 0, .int .i64 0, .int .i64 0, .int .i64 0, .int .i64 0, .int .i64 0, .int .i64 0, .int .i64 0, .int .i64 0, .int .i64 0, .int .i64 0, .int .i64 0, .int .i64 0, .int .i64 0, .int .i64 0, .int .i64 0, .int .i64 0, .int .i64 0, .int .i64 0, .int .i64 0, .int .i64 0] 77)) = .ok () (w.alloc (.cells (ints l) 77)) := by
  rw [st_row (w := w.alloc (.cells #[.int .i64 0, .int .i64 0, .int .i64 0, .int .i64 0, .int .i64 0, .int .i64 0, .int .i64 0, .int .i64 0, .int .i64 0, .int .i64 0, .int .i64 0, .int .i64 0, .int .i64 0, .int .i64 0, .int .i64 0, .int .i64 0, .int .i64 0, .int .i64 0, .int .i64 0, .int .i64 0, .int .i64 0, .int .i64 0, .int .i64 0, .int .i64 0, .int .i64 0, .int .i64 0, .int .i64 0, .int .i64 0, .int .i64 0, .int .i64 0, .int .i64 0, .int .i64 0, .int .i64 0, .int .i64 0, .int .i64 0, .int .i64 0, .int .i64 0, .int .i64 0, .int .i64 0, .int .i64 0, .int .i64 0, .int .i64 0, .int .i64 0, .int .i64 0, .int .i64 0, .int .i64 0, .int .i64 0, .int .i64 0, .int .i64 0, .int .i64 0, .int .i64 0, .int .i64 0, .int .i64 0, .int .i64 0, .int .i64 0, .int .i64 0, .int .i64 0, .int .i64 0, .int .i64 0, .int .i64 0] 77)) (World.alloc_heap_new w _) rfl hl, World.setRow_alloc_new]
theorem st_arr_new (w : World) {l : List Int} (hl : l.length = 60) :
    (Instr.storeAt 76 (.pointer (some ⟨w.heap.size, 0, none⟩)) (.agg (ints l))).run Tryz.prog (w.alloc (.cells #[.int .i64 0, .int .i64 0, .int .i64 0, .int .i64 0, .int .i64 0, .int .i64 0, .int .i64 0, .int .i64 0, .int .i64 0, .int .i64 0, .int .i64 0, .int .i64 0, .int .i64 0, .int .i64 0, .int .i64 0, .int .i64 0, .int .i64 0, .int .i64 0, .int .i64 0, .int .i64 0, .int .i64 0, .int .i64 0, .int .i64 0, .int .i64 0, .int .i64 0, .int .i64 0, .int .i64 0, .int .i64 0, .int .i64 0, .int .i64 0, .int .i64 0, .int .i64 0, .int .i64 0, .int .i64 0, .int .i64 0, .int .i64 0, .int .i64 0, .int .i64 0, .int .i64 0, .int .i64 0, .int .i64 0, .int .i64 0, .int .i64 0, .int .i64 0, .int .i64 0, .int .i64 0, .int .i64 0, .int .i64 0, .int .i64 0, .int .i64 0, .int .i64 0, .int .i64 0, .int .i64 0, .int .i64 0, .int .i64 0, .int .i64 0, .int .i64 0, .int .i64 0, .int .i64 0, .int .i64 0] 76)) = .ok () (w.alloc (.cells (ints l) 76)) := by
  rw [st_arr (w := w.alloc (.cells #[.int .i64 0, .int .i64 0, .int .i64 0, .int .i64 0, .int .i64 0, .int .i64 0, .int .i64 0, .int .i64 0, .int .i64 0, .int .i64 0, .int .i64 0, .int .i64 0, .int .i64 0, .int .i64 0, .int .i64 0, .int .i64 0, .int .i64 0, .int .i64 0, .int .i64 0, .int .i64 0, .int .i64 0, .int .i64 0, .int .i64 0, .int .i64 0, .int .i64 0, .int .i64 0, .int .i64 0, .int .i64 0, .int .i64 0, .int .i64 0, .int .i64 0, .int .i64 0, .int .i64 0, .int .i64 0, .int .i64 0, .int .i64 0, .int .i64 0, .int .i64 0, .int .i64 0, .int .i64 0, .int .i64 0, .int .i64 0, .int .i64 0, .int .i64 0, .int .i64 0, .int .i64 0, .int .i64 0, .int .i64 0, .int .i64 0, .int .i64 0, .int .i64 0, .int .i64 0, .int .i64 0, .int .i64 0, .int .i64 0, .int .i64 0, .int .i64 0, .int .i64 0, .int .i64 0, .int .i64 0] 76)) (World.alloc_heap_new w _) rfl hl, World.setRow_alloc_new]
/-- A row is written over itself. -/
theorem setRow_same {w : World} {N : Nat} {cs : Array Value} {t : TypeId} (h : w.heap[N]? = some (.cells cs t (0, 0))) : w.setRow N cs = w := by
  have e : (w.setRow N cs).heap = w.heap := by
    apply Array.ext_getElem?
    intro i
    by_cases hi : i = N
    · subst hi; rw [setRow_heap w i cs cs t _ h, h]
    · unfold World.setRow; simp [Array.getElem?_modify, Ne.symm hi]
  show { w with heap := (w.setRow N cs).heap } = w
  rw [e]

theorem run_items {P : Program} (w : World) {e : TypeId} (hu : P.underlying e = some (.int .i64)) (hc : P.cellsOf e = 1) (d : Nat) (xs ys : List Int) : ∀ (is : List Nat), (∀ i ∈ is, i < xs.length ∧ i < ys.length) →
    (Op.eqItems (d + 1) e (P.cellsOf e) (ints xs) (ints ys) is).run P w = .ok (is.all fun i => xs.getD i 0 == ys.getD i 0) w
  | [], _ => by simp [Op.eqItems]
  | i :: is, h => by
    obtain ⟨h1, h2⟩ := h i (by simp)
    have he : P.plainKey e = true := by unfold Program.plainKey; rw [hu]
    have ih := run_items w hu hc d xs ys is (fun j hj => h j (by simp [hj]))
    simp only [Op.eqItems, Sem.run_bind]
    rw [run_part_plain w he (off := i * P.cellsOf e) (v := .int .i64 (xs.getD i 0)) (by rw [hc, Nat.mul_one]; exact ints_get xs i h1)]
    simp only [Result.andThen_ok]
    rw [run_part_plain w he (off := i * P.cellsOf e) (v := .int .i64 (ys.getD i 0)) (by rw [hc, Nat.mul_one]; exact ints_get ys i h2)]
    simp only [Result.andThen_ok]
    rw [run_equalIn_int w d e .i64 .i64 _ _ hu]
    simp only [Result.andThen_ok, List.all_cons]
    cases hq : (xs.getD i 0 == ys.getD i 0)
    · simp
    · simpa using ih

theorem list_all_eq {xs ys : List Int} (h : xs.length = ys.length) : ((List.range xs.length).all fun i => xs.getD i 0 == ys.getD i 0) = decide (xs = ys) := by
  rw [Bool.eq_iff_iff]
  simp only [List.all_eq_true, List.mem_range, beq_iff_eq, decide_eq_true_eq]
  constructor
  · intro hh
    apply List.ext_getElem h
    intro i h1 h2
    have := hh i h1
    simpa [List.getD_eq_getElem?_getD, List.getElem?_eq_getElem h1, List.getElem?_eq_getElem h2] using this
  · rintro rfl i _; rfl

theorem cells_int : Tryz.prog.cellsOf 3 = 1 := by kernel_rfl

/-- '*r == was'. -/
theorem eq_rows (w : World) {xs ys : List Int} (h1 : xs.length = 60) (h2 : ys.length = 60) :
    (binOp .eql 77 (.agg (ints xs)) (.agg (ints ys))).run Tryz.prog w = .ok (.bool (decide (xs = ys))) w := by
  rw [run_eql_struct]
  obtain ⟨i, hi⟩ := Option.isSome_iff_exists.1 (show (Tryz.prog.info? 3).isSome = true by kernel_rfl)
  have h4 := run_equalIn_array w 9999 (ints xs) (ints ys) (n := 60) (e := 3) (i := i) Tryz.underlying77 hi
  rw [show (10000 : Nat) = 9999 + 1 from rfl, h4]
  have h3 := run_items w Tryz.underlying3 cells_int 9998 xs ys (List.range xs.length) (fun i hi => by rw [List.mem_range] at hi; omega)
  rw [list_all_eq (by rw [h1, h2]), h1] at h3
  rw [h3]
  rfl

theorem gd_rows : Tryz.prog.eqGuardType Tryz.prog.depth 77 = false := by kernel_rfl

theorem wp_eqrows {o : Oper} {a : Act} {w : World} {K : Act → World → Prop} {Q : Exit → Act → World → Prop} (x y : Operand) {rt : TypeId} (ho : o.op = .binOp .eql 77 x y rt) {xs ys : List Int}
    (hx : a.eval x = .agg (ints xs)) (hy : a.eval y = .agg (ints ys)) (h1 : xs.length = 60) (h2 : ys.length = 60) (h : K (a.put o.dst (.bool (decide (xs = ys)))) w) : o.wp Tryz.prog a w K Q := by
  have hg := run_eqGuard_agg (P := Tryz.prog) w .eql 77 x y (ints xs) (ints ys) gd_rows
  have hq := eq_rows w h1 h2
  unfold Oper.wp execOp
  simp only [ho, hx, hy, Sem.run_bind, hg, hq, Result.andThen_ok, Sem.run_pure]
  exact h

/-- The marks of ranges over functions among a frame's deferred calls. -/
def Marks (B : Nat) (D : List Deferred) (W : World) : Prop :=
  (∀ d ∈ D, ∃ r, d.target = .collected r ∧ B ≤ r ∧ W.heap[r]? = some (.deferred (some []))) ∧ D.Pairwise fun d e => d.target ≠ e.target

theorem leaves_marks {P : Program} {F : Fence} {n B : Nat} {fn : Func} {tmps : Array Value} {R : Ending → World → Prop} {u : FrameMode} (hu : u ≠ .run) (J : World → Prop)
    (hJ : ∀ W r, B ≤ r → J W → W.heap[r]? = some (.deferred (some [])) → J (W.putObj r (.deferred none))) (hend : ∀ W, J W → LeavesIn F n P fn tmps R [] u W) :
    ∀ (D : List Deferred) (W : World), Marks B D W → J W → LeavesInM F n P fn tmps R D u W
  | [], W, _, h => hend W h
  | d :: D, W, ⟨hm, hp⟩, h => by
    obtain ⟨r, ht, hB, hr⟩ := hm d (by simp)
    rw [List.pairwise_cons] at hp
    refine ⟨hu, .inl ⟨r, _, ht, run_takeDeferred hr, ?_⟩⟩
    refine leaves_marks hu J hJ hend D _ ⟨fun e he => ?_, hp.2⟩ (hJ W r hB h hr)
    obtain ⟨r', ht', hB', hr'⟩ := hm e (by simp [he])
    refine ⟨r', ht', hB', ?_⟩
    have hne : r' ≠ r := fun heq => by
      have := hp.1 e he
      rw [ht, ht', heq] at this
      exact this rfl
    rw [World.putObj_heap_other hne]
    exact hr'

/-- A frame whose slots dl are free. -/
def frame' (ts : Array Value) (dl : List Nat) (us : Nat → Value) : Array Value := (SL.put' dl us 0 ts.toList).toArray

theorem frame'_self (ts : Array Value) (dl : List Nat) : frame' ts dl (fun x => ts.getD x undef) = ts := by
  have : ∀ (l : List Value) (s : Nat), (∀ i, i < l.length → l[i]? = some (ts.getD (s + i) undef)) → SL.put' dl (fun x => ts.getD x undef) s l = l := by
    intro l
    induction l with
    | nil => intro s _; rfl
    | cons x xs ih =>
      intro s h
      have h0 := h 0 (by simp)
      simp at h0
      simp only [SL.put']
      rw [ih (s + 1) (fun i hi => by have := h (i + 1) (by simpa using hi); simpa [Nat.add_assoc, Nat.add_comm 1 i] using this)]
      split
      · rw [h0]; simp
      · rfl
  unfold frame'
  rw [this ts.toList 0 (fun i hi => by simp at hi; simp [hi])]

theorem wpList_ldrow {ops : Array Oper} {rest : List Oper} {o : Oper} {a : Act} {w : World} {Q : Exit → Act → World → Prop} (hgd : o.guard = none) (x : Operand) (ho : o.op = .load 77 x)
    {g : Nat} (hx : a.eval x = .pointer (some ⟨g, 0, none⟩)) {t : TypeId} {l : List Int} (hg : w.heap[g]? = some (.cells (ints l) t (0, 0))) (hl : l.length = 60)
    (h : wpList Tryz.prog ops Q rest (a.put o.dst (.agg (ints l))) w) : wpList Tryz.prog ops Q (o :: rest) a w :=
  wpList_load_row hgd _ x ho g hx t _ _ _ hg Tryz.underlying77 rfl (by rw [ints_size, hl]; kernel_rfl) h
theorem wpList_ldarr {ops : Array Oper} {rest : List Oper} {o : Oper} {a : Act} {w : World} {Q : Exit → Act → World → Prop} (hgd : o.guard = none) (x : Operand) (ho : o.op = .load 76 x)
    {g : Nat} (hx : a.eval x = .pointer (some ⟨g, 0, none⟩)) {t : TypeId} {l : List Int} (hg : w.heap[g]? = some (.cells (ints l) t (0, 0))) (hl : l.length = 60)
    (h : wpList Tryz.prog ops Q rest (a.put o.dst (.agg (ints l))) w) : wpList Tryz.prog ops Q (o :: rest) a w :=
  wpList_load_row hgd _ x ho g hx t _ _ _ hg Tryz.underlying76 rfl (by rw [ints_size, hl]; kernel_rfl) h
/-- A new row is filled. -/
theorem wpList_strow_new {ops : Array Oper} {rest : List Oper} {o : Oper} {a : Act} {w0 : World} {Q : Exit → Act → World → Prop} (hgd : o.guard = none) (x y : Operand) (ho : o.op = .store 77 x y) (hd : o.dst = none)
    (hx : a.eval x = .pointer (some ⟨w0.heap.size, 0, none⟩)) {l : List Int} (hy : a.eval y = .agg (ints l)) {old : Array Value} (ho' : old.size = 60) (hl : l.length = 60)
    (h : wpList Tryz.prog ops Q rest a (w0.alloc (.cells (ints l) 77))) : wpList Tryz.prog ops Q (o :: rest) a (w0.alloc (.cells old 77)) := by
  refine wpList_store_row hgd _ x y ho w0.heap.size (ints l) hx hy _ old (World.alloc_heap_new w0 _) (by rw [ints_size, hl]; kernel_rfl) (by rw [ints_size, hl, ho']) (ints_one l) ?_
  rw [World.setRow_alloc_new, hd]
  exact h
theorem wpList_starr_new {ops : Array Oper} {rest : List Oper} {o : Oper} {a : Act} {w0 : World} {Q : Exit → Act → World → Prop} (hgd : o.guard = none) (x y : Operand) (ho : o.op = .store 76 x y) (hd : o.dst = none)
    (hx : a.eval x = .pointer (some ⟨w0.heap.size, 0, none⟩)) {l : List Int} (hy : a.eval y = .agg (ints l)) {old : Array Value} (ho' : old.size = 60) (hl : l.length = 60)
    (h : wpList Tryz.prog ops Q rest a (w0.alloc (.cells (ints l) 76))) : wpList Tryz.prog ops Q (o :: rest) a (w0.alloc (.cells old 76)) := by
  refine wpList_store_row hgd _ x y ho w0.heap.size (ints l) hx hy _ old (World.alloc_heap_new w0 _) (by rw [ints_size, hl]; kernel_rfl) (by rw [ints_size, hl, ho']) (ints_one l) ?_
  rw [World.setRow_alloc_new, hd]
  exact h
theorem wpList_strow {ops : Array Oper} {rest : List Oper} {o : Oper} {a : Act} {w : World} {Q : Exit → Act → World → Prop} (hgd : o.guard = none) (x y : Operand) (ho : o.op = .store 77 x y) (hd : o.dst = none)
    {g : Nat} (hx : a.eval x = .pointer (some ⟨g, 0, none⟩)) {l : List Int} (hy : a.eval y = .agg (ints l)) {t : TypeId} {old : Array Value} (hg : w.heap[g]? = some (.cells old t (0, 0))) (ho' : old.size = 60) (hl : l.length = 60)
    (h : wpList Tryz.prog ops Q rest a (w.setRow g (ints l))) : wpList Tryz.prog ops Q (o :: rest) a w :=
  wpList_store_row hgd _ x y ho g (ints l) hx hy t old hg (by rw [ints_size, hl]; kernel_rfl) (by rw [ints_size, hl, ho']) (ints_one l) (by rw [hd]; exact h)
theorem wpList_starr {ops : Array Oper} {rest : List Oper} {o : Oper} {a : Act} {w : World} {Q : Exit → Act → World → Prop} (hgd : o.guard = none) (x y : Operand) (ho : o.op = .store 76 x y) (hd : o.dst = none)
    {g : Nat} (hx : a.eval x = .pointer (some ⟨g, 0, none⟩)) {l : List Int} (hy : a.eval y = .agg (ints l)) {t : TypeId} {old : Array Value} (hg : w.heap[g]? = some (.cells old t (0, 0))) (ho' : old.size = 60) (hl : l.length = 60)
    (h : wpList Tryz.prog ops Q rest a (w.setRow g (ints l))) : wpList Tryz.prog ops Q (o :: rest) a w :=
  wpList_store_row hgd _ x y ho g (ints l) hx hy t old hg (by rw [ints_size, hl]; kernel_rfl) (by rw [ints_size, hl, ho']) (ints_one l) (by rw [hd]; exact h)

theorem wpList_starr_same {ops : Array Oper} {rest : List Oper} {o : Oper} {a : Act} {w : World} {Q : Exit → Act → World → Prop} (hgd : o.guard = none) (x y : Operand) (ho : o.op = .store 76 x y) (hd : o.dst = none)
    {g : Nat} (hx : a.eval x = .pointer (some ⟨g, 0, none⟩)) {l : List Int} (hy : a.eval y = .agg (ints l)) {t : TypeId} (hg : w.heap[g]? = some (.cells (ints l) t (0, 0))) (hl : l.length = 60)
    (h : wpList Tryz.prog ops Q rest a w) : wpList Tryz.prog ops Q (o :: rest) a w :=
  wpList_starr hgd x y ho hd hx hy hg (by rw [ints_size, hl]) hl (by rw [setRow_same hg]; exact h)

theorem run_var_arr {w : World} {N : Nat} {l : List Int} {t : TypeId} (h : w.heap[N]? = some (.cells (ints l) t (0, 0))) (hl : l.length = 60) : (loadVar 76 ⟨N, 0, none⟩).run Tryz.prog w = .ok (.agg (ints l)) w :=
  run_loadVar_row w N t _ _ _ _ h Tryz.underlying76 rfl (by rw [ints_size, hl]; kernel_rfl)
theorem run_var_row {w : World} {N : Nat} {l : List Int} {t : TypeId} (h : w.heap[N]? = some (.cells (ints l) t (0, 0))) (hl : l.length = 60) : (loadVar 77 ⟨N, 0, none⟩).run Tryz.prog w = .ok (.agg (ints l)) w :=
  run_loadVar_row w N t _ _ _ _ h Tryz.underlying77 rfl (by rw [ints_size, hl]; kernel_rfl)

/-- A loop that may push marks. -/
theorem loopD {F : Fence} {n : Nat} {P : Program} {Q : Exit → Act → World → Prop} {c : Code} {ts : Array Value} {ds : List Deferred} {w : World} (dl : List Nat) (I : (Nat → Value) → List Deferred → World → Prop) (μ : (Nat → Value) → Nat)
    (h0 : I (fun x => ts.getD x undef) ds w)
    (round : ∀ us D W, I us D W → c.wpIn F n P (Exit.then (fun a' w' => a'.tmps = frame' ts dl (fun x => a'.tmps.getD x undef) ∧ I (fun x => a'.tmps.getD x undef) a'.defers w' ∧ μ (fun x => a'.tmps.getD x undef) < μ us) Q) { tmps := frame' ts dl us, defers := D } W) :
    (Code.loop c).wpIn F n P Q { tmps := ts, defers := ds } w := by
  refine wpIn_loop (fun a w => a.tmps = frame' ts dl (fun x => a.tmps.getD x undef) ∧ I (fun x => a.tmps.getD x undef) a.defers w) (fun a _ => μ (fun x => a.tmps.getD x undef)) ⟨(frame'_self ts dl).symm, h0⟩ ?_
  rintro ⟨tm, D⟩ W ⟨h1, h2⟩
  simp only at h1 h2
  have := round _ D W h2
  rw [← h1] at this
  exact wpIn_mono this (fun e a w h => by
    cases e <;> simp only [Exit.then] at h ⊢ <;> first | exact ⟨⟨h.1, h.2.1⟩, h.2.2⟩ | exact h)
theorem loopDp {P : Program} {Q : Exit → Act → World → Prop} {c : Code} {ts : Array Value} {ds : List Deferred} {w : World} (dl : List Nat) (I : (Nat → Value) → List Deferred → World → Prop) (μ : (Nat → Value) → Nat)
    (h0 : I (fun x => ts.getD x undef) ds w)
    (round : ∀ us D W, I us D W → c.wp P (Exit.then (fun a' w' => a'.tmps = frame' ts dl (fun x => a'.tmps.getD x undef) ∧ I (fun x => a'.tmps.getD x undef) a'.defers w' ∧ μ (fun x => a'.tmps.getD x undef) < μ us) Q) { tmps := frame' ts dl us, defers := D } W) :
    (Code.loop c).wp P Q { tmps := ts, defers := ds } w :=
  (wpIn_wide (n := 0)).1 (loopD dl I μ h0 fun us D W h => wpIn_wide.2 (round us D W h))

theorem SL.Chg.cellsE {E : List Nat} {w w' : World} (h : SL.Chg E w w') : (∀ b o, b < w.heap.size → b ∉ E → w'.cell? ⟨b, o, none⟩ = w.cell? ⟨b, o, none⟩) ∧ (∀ b o, b < w.heap.size → b ∉ E → w'.frozen? ⟨b, o, none⟩ = w.frozen? ⟨b, o, none⟩) :=
  ⟨fun b _ hb hn => World.cell?_of_block (w := w) (h.block b hb hn), fun b _ hb hn => World.frozen?_of_block (w := w) (h.block b hb hn)⟩
theorem SL.Chg.belowE {E : List Nat} {w w' : World} {B : Nat} (h : SL.Chg E w w') (hB : B ≤ w.heap.size) (hE : ∀ k ∈ E, B ≤ k) : Below B w w' :=
  ⟨h.os, h.tape, h.output, h.size, fun k hk => h.block k (Nat.lt_of_lt_of_le hk hB) (fun hm => by have := hE k hm; omega)⟩

theorem keeps_of_chg {B : Nat} {E : List Nat} {W W' : World} (h : SL.Chg E W W') (hE : ∀ k ∈ E, k < B) : KeepsFrom B W W' :=
  ⟨h.size, fun k o hk ho _ => (h.block k (Array.getElem?_eq_some_iff.1 ho).1 (fun hm => by have := hE k hm; omega)).trans ho⟩

theorem own_chg {σ : Type} {E : List Nat} {W0 : World} : OwnFrom W0.heap.size (fun (_ : σ) W => SL.Chg E W0 W) := by
  intro _ W W' row hs hg hr
  exact ⟨hg.os.trans hs.os, hg.tape.trans hs.tape, hg.output.trans hs.output, Nat.le_trans hs.size hg.size, fun k hk hn => (hg.block k (Nat.lt_of_lt_of_le hk hs.size) (fun e => by have := (hr k e.symm).1; omega)).trans (hs.block k hk hn)⟩

/-- range_state with the frame said by slots. -/
theorem range_state' {P : Program} {σ α : Type} {g : Operand} {ps : Array Tmp} {assign body : Code} {Q : Exit → Act → World → Prop} {ts : Array Value} {ds : List Deferred} {w : World}
    {gf : Nat} {lb : Array Value} (hg : ({ tmps := ts, defers := ds } : Act).eval g = .func (.func gf) #[] lb) (eg : ∀ args w, (callFunc gf args).run P w = .ok (.enter gf args) w)
    {encs : α → Array Value} (hps : ∀ x, (encs x).size = ps.size)
    (I : σ → World → Prop) (Ix : Code → σ → World → Prop) (hI : OwnFrom w.heap.size I) (hIx : ∀ c, OwnFrom w.heap.size (Ix c)) (s0 : σ) (h0 : I s0 w)
    (ok : σ → α → Prop) (upd : σ → α → σ) (dl : List Nat) (A : σ → α → (Nat → Value) → World → Prop) (hA : ∀ s x us, OwnFrom w.heap.size (fun (_ : Unit) W => A s x us W))
    (fin finx : σ → Prop)
    (hiter : ∀ (l : Nat) (J Jx : σ → World → Prop) (W : World), Below w.heap.size w W → AbidesFrom W.heap.size J → AbidesFrom W.heap.size Jx → (∀ s W, J s W → I s W) → (∀ s W, Jx s W → ∃ c, Ix c s W) →
      (∀ s x W1, J s W1 → ok s x → YieldAt Fence.wide 0 P l (encs x) W1 fun e W' => (e = .returned (.bool true) ∧ J (upd s x) W') ∨ (e = .returned (.bool false) ∧ Jx (upd s x) W')) →
      J s0 W → CallsIn Fence.wide 0 P gf (#[.func (.yield l) #[] #[]] ++ lb) W fun e W' => (∃ v, e = .returned v) ∧ ((∃ s, fin s ∧ J s W') ∨ (∃ s, finx s ∧ Jx s W')))
    (hassign : ∀ (l : Nat) (s : σ) (x : α) (W : World) (K : Act → World → Prop), I s W → ok s x →
      (∀ a' W', KeepsFrom w.heap.size W W' → I s W' → a'.tmps = frame' ts dl (fun i => a'.tmps.getD i undef) → a'.defers = [] → A s x (fun i => a'.tmps.getD i undef) W' → K a' W') →
      assign.wpIn (Fence.wide.inRound l) 0 P (Exit.then K (fun _ _ _ => False)) { tmps := (ps.zip (encs x)).foldl (fun t (p, v) => t.setIfInBounds p v) ts, defers := [] } W)
    (hbody : ∀ (l : Nat) (s : σ) (x : α) (us : Nat → Value) (W : World), w.heap.size ≤ l → I s W → ok s x → A s x us W → body.wpIn (Fence.wide.inRound l) 0 P (roundEnd w.heap.size I Ix (upd s x) W) { tmps := frame' ts dl us, defers := [] } W)
    (hdone : ∀ (D : Nat) (s : σ) (W : World), w.heap.size ≤ D → fin s → I s W → W.heap[D]? = some (.deferred (some [])) → Q .normal { tmps := ts, defers := { target := .collected D, args := #[] } :: ds } W)
    (hstop : ∀ (D : Nat) (c : Code) (s : σ) (W : World), w.heap.size ≤ D → finx s → Ix c s W → W.heap[D]? = some (.deferred (some [])) → c.wp P Q { tmps := ts, defers := { target := .collected D, args := #[] } :: ds } W) :
    (Code.rangeFunc g ps assign body).wp P Q { tmps := ts, defers := ds } w := by
  refine range_state hg eg hps I Ix hI hIx s0 h0 ok upd (fun s x a' W => a'.tmps = frame' ts dl (fun i => a'.tmps.getD i undef) ∧ a'.defers = [] ∧ A s x (fun i => a'.tmps.getD i undef) W)
    (fun s x a' u W W' row h hg hr => ⟨h.1, h.2.1, hA s x _ u W W' row h.2.2 hg hr⟩) fin finx hiter (fun l s x W K hi ho hK => hassign l s x W K hi ho fun a' W' h1 h2 h3 h4 h5 => hK a' W' h1 h2 ⟨h3, h4, h5⟩) ?_ hdone hstop
  rintro l s x ⟨ts', ds'⟩ W hl hi ho ⟨h1, h2, h3⟩
  simp only at h1 h2 h3
  have := hbody l s x _ W hl hi ho h3
  rw [← h1] at this
  rw [h2]
  exact this
end Go.Proofs.YtlkcfohmoeadbaaGreat
