/-
  Lemmas and walks for the laws on roads and boards: what each function of the program answers, for every input.
-/
import Derived.Test.YtodkbfbbpfghiaaGreatPb13
import Derived.Test.YtodkbfbbpfghiaaGreatPb15
import Derived.Test.YtodkbfbbpfghiaaGreatPb21
import Derived.Test.YtodkbfbbpfghiaaGreatPb24
import Derived.Test.YtodkbfbbpfghiaaGreatPb10
set_option linter.unusedSimpArgs false
set_option linter.unusedVariables false
set_option linter.unnecessarySimpa false
namespace Go.Proofs.YtodkbfbbpfghiaaGreat
open Go.RowKit Go.Shelf
set_option maxHeartbeats 4000000
set_option maxRecDepth 100000
attribute [local go_sem] Oper.semAt_some
theorem wpListIn_app {P : Program} {w : World} {l : Nat} {ops : Array Oper} {rest : List Oper} {o : Oper} {a : Act} {Q : Exit → Act → World → Prop} {t e : TypeId} {z : Value} {size bytes : Nat} (T : Elem P t e z size bytes)
    (hgd : o.guard = none) (s x : Operand) (ho : o.op = .call { callee := .builtin .append, args := #[s, x], argTypes := #[t, t] })
    {base : Nat} {v : Value} {n : Nat} {xs : List Value} (hown : w.ownsRow base e size v n xs) (hs : a.eval s = v)
    {sa : Option Addr} {m c : Nat} {news : List Value} (hx : a.eval x = .slice sa m c) (hsrc : RowAt w sa c news) (hl : news.length = m * size) (h1 : ∀ u ∈ news, u.oneCell' = true)
    (h63 : n + m ≤ maxLen) (hbytes : (n + m) * bytes ≤ 140737488355328) (hbase : base ≤ w.heap.size)
    (h : ∀ v' w', w'.ownsRow base e size v' (n + m) (xs ++ news) → w.grownBy w' v.ownBlock → Below base w w' → (v' = .slice none 0 0 ↔ v = .slice none 0 0 ∧ m = 0) → (v'.ownBlock = v.ownBlock ∨ v'.ownBlock = some w.heap.size) → wpListIn (Fence.wide.inRound l) 0 P ops Q rest (a.put o.dst v') w') : wpListIn (Fence.wide.inRound l) 0 P ops Q (o :: rest) a w :=
  wpListIn_plain hgd fun _ hK => SLF.wpIn_of_wp (ro := some l) (by rw [ho]; intro c h; cases h) (wp_app T s x ho hown hs hx hsrc hl h1 h63 hbytes hbase fun v' w' k1 k2 k3 k4 k5 => hK _ _ (h v' w' k1 k2 k3 k4 k5))
/-- Indices as ints. -/
def intL (l : List Nat) : List Int := l.map fun (n : Nat) => (n : Int)
theorem intL_len (l : List Nat) : (intL l).length = l.length := by simp [intL]
/-- What has been collected. -/
structure ColI (w : World) (pre : List Nat) (W : World) : Prop where
  box : ∃ v, W.heap[w.heap.size]? = some (.cells #[v] 34 (0, 0)) ∧ W.ownsRow (w.heap.size + 1) 3 1 v pre.length ((intL pre).map (.int .i64))
  below : Below w.heap.size w W
theorem keeps_cells {B : Nat} {E : List Nat} {W W' : World} (h : SL.Chg E W W') (hE : ∀ k ∈ E, k < B ∨ ∃ cs t f, W.heap[k]? = some (Obj.cells cs t f)) : KeepsFrom B W W' := by
  refine ⟨h.size, fun k o hk ho hn => (h.block k (Array.getElem?_eq_some_iff.1 ho).1 (fun hm => ?_)).trans ho⟩
  rcases hE k hm with h1 | ⟨cs, t, f, h1⟩
  · omega
  · rw [ho] at h1; cases h1; cases hn
theorem row_cells {w : World} {base : Nat} {t : TypeId} {size n : Nat} {v : Value} {xs : List Value} (h : w.ownsRow base t size v n xs) : ∀ k ∈ v.ownBlock.toList, ∃ cs t f, w.heap[k]? = some (Obj.cells cs t f) := by
  obtain ⟨hl, ⟨hv, hn⟩ | ⟨g, cap', cur, hv, hbg, hg, hr⟩⟩ := h
  · subst hv; simp [Value.ownBlock]
  · subst hv; intro k hk; simp [Value.ownBlock] at hk; subst hk; exact ⟨_, _, _, hg⟩
theorem wappendSeq (a : Option Addr) (ca : Nat) (f : Option Addr) (cf : Nat) (s : List Pn) (lo hi : Int) (BS BR : Nat) (w : World) (hs : SpansAt w a ca f cf s.length s) (hn : s.length ≤ 1000)
    (hBS : w.cell? ⟨BS, 0, none⟩ = some (.slice a s.length ca)) (hR0 : w.cell? ⟨BR, 0, none⟩ = some (.int .i64 lo)) (hR1 : w.cell? ⟨BR, 1, none⟩ = some (.int .i64 hi)) :
    Calls Tryz.prog 155 #[.slice none 0 0, .func (.func 144) #[] #[.pointer (some ⟨BS, 0, none⟩), .pointer (some ⟨BR, 0, none⟩)]] w (RowPost w 3 1 (insideL s lo hi).length ((intL (insideL s lo hi)).map (.int .i64))) := by
  have zS := World.block_lt_of_cell? w _ hBS
  have zR := World.block_lt_of_cell? w _ hR0
  simp only at zS zR
  refine (callsIn_wide (n := 0)).1 (callsIn_of_wp_marks Tryz.func155 rfl trivial ?_)
  simp only [Tryz.ntmps155, List.size_toArray, List.length_cons, List.length_nil, Nat.reduceAdd, Nat.reduceSub, Array.replicate_succ, Array.replicate_zero, List.push_toArray, List.append_toArray, List.nil_append, List.cons_append]
  refine wpIn_wide.2 ?_
  go_wp2_with fail
  generalize hW0 : w.alloc (Obj.cells #[.slice none 0 0] 34) = W0
  have hB0 : Below w.heap.size w W0 := by rw [← hW0]; exact one_alloc _ _
  have hz0 : W0.heap.size = w.heap.size + 1 := by rw [← hW0]; simp
  have hI00 : ColI w [] W0 := ⟨⟨.slice none 0 0, by rw [← hW0]; exact World.alloc_heap_new _ _, World.ownsRow_nil _ _ _ _⟩, hB0⟩
  have hIo : OwnFrom W0.heap.size (ColI w) := by
    rintro pre W1 W2 row ⟨⟨v, h1, h2⟩, h3⟩ hg hr
    have hk := KeepC.of_grown hg fun r e => (hr r e).2
    exact ⟨⟨v, hk.cells _ _ _ _ h1, row_keepC h2 hk⟩, h3.grown hg h3.size fun r e => by have := (hr r e).1; omega⟩
  clear hW0
  refine range_state' (σ := List Nat) (α := Nat) (gf := 144) (lb := #[.pointer (some ⟨BS, 0, none⟩), .pointer (some ⟨BR, 0, none⟩)]) (by simp [go_sem]) (enters_of Tryz.func144 (by kernel_rfl) rfl)
    (encs := fun x => #[.int .i64 x]) (fun _ => rfl)
    (ColI w) (fun _ _ _ => False) hIo (fun _ _ _ _ _ h => h.elim) [] hI00
    (fun pre x => x < s.length ∧ pre = insN s lo hi x) (fun pre x => pre ++ [x]) [5, 7]
    (fun pre x us W' => us 5 = .int .i64 x)
    ?_ (fun pre => pre = insideL s lo hi) (fun _ => False) ?_ ?_ ?_ ?_ (fun _ _ _ _ _ h => h.elim)
  · rintro pre x us ⟨⟩ W1 W2 row h hg hr
    exact h
  · intro l J Jx W1 hb1 hJ hJx hJI hJxI hy hj0
    refine (winside1 a ca s.length s lo hi _ _ l J W1 hJ rfl (by omega) (fun pre W' h => ?_) hj0 (fun k W2 hk hin hJ2 => ?_)).mono ?_
    · have h1 := (hJI _ _ h).below
      have hc := (bcell h1).1
      exact ⟨(hc _ _ zS).trans hBS, (hc _ _ zR).trans hR0, (hc _ _ zR).trans hR1, (hs.below h1).at_⟩
    · refine (hy _ k W2 hJ2 ⟨hk, rfl⟩).mono ?_
      rintro e W3 (⟨rfl, h⟩ | ⟨_, h⟩)
      · exact ⟨rfl, h⟩
      · obtain ⟨_, hf⟩ := hJxI _ _ h; exact hf.elim
    · rintro e W2 ⟨hv, hj⟩
      exact ⟨hv, .inl ⟨_, rfl, hj⟩⟩
  · rintro l pre x W1 K hI ⟨hx, hp⟩ hK
    clear hp
    gi_wp2_with fail
    exact hK _ _ (keeps_of_chg (E := []) (.refl _ _) (by simp)) hI rfl rfl rfl
  · rintro l pre x us W1 hl ⟨⟨v, hbx, hrow⟩, hbe⟩ ⟨hx, hp⟩ h5
    have hpl : pre.length ≤ 1000 := by rw [hp]; exact Nat.le_trans (insN_len s lo hi x) (by omega)
    clear hp
    simp only [frame', SL.put', List.toList_toArray, List.contains_cons, List.contains_nil, Nat.reduceAdd, Nat.reduceBEq, Bool.or_false, Bool.or_true, Bool.false_or, Bool.true_or, if_true, Bool.false_eq_true, if_false, h5]
    have c0 := (SL.cells_of hbx).1 0
    simp at c0
    have zb : w.heap.size < W1.heap.size := (Array.getElem?_eq_some_iff.1 hbx).1
    have hbr := SL.row_bounds hrow
    have hcl := row_cells hrow
    obtain ⟨va, vc, rfl, _⟩ := owns_slice hrow
    have hal := one_alloc W1 (Obj.cells #[.int .i64 x] 3)
    refine wpIn_block ?_
    gi_wp2_with (gi_at_builtin; refine wpListIn_app elemI rfl _ _ rfl (hrow.up hal (Nat.le_refl _)) rfl rfl (RowAt.of_heap (World.alloc_heap_new W1 _)) (by simp) (ones_int [(x : Int)]) (by unfold maxLen; omega) (by omega) (by simp; omega) ?_)
    intro v' w6 ho hg hb6 _ hat
    obtain ⟨sa, sc, rfl, _⟩ := owns_slice ho
    have hG6 : SL.Chg ((Value.slice va pre.length vc).ownBlock.toList) W1 w6 := (SL.Chg.of_below hal).trans (.of_own hg (fun k hk => by simp [hk]))
    have k6 := (hG6.block w.heap.size zb (fun h => by have := hbr _ h; omega)).trans hbx
    have f6 := (SL.cells_of k6).2
    have y6 := (SL.cells_of k6).1 0
    simp at y6
    have z6 : w.heap.size < w6.heap.size := (Array.getElem?_eq_some_iff.1 k6).1
    have HO := Lib.hid ho
    clear ho c0
    gi_wp2
    refine ⟨keeps_cells (E := w.heap.size :: (Value.slice va pre.length vc).ownBlock.toList) ((hG6.monoW (fun k hk => List.mem_cons_of_mem _ hk)).trans (.setCell _ (by simp) _)) (fun y hy => ?_), ⟨⟨.slice sa (pre.length + 1) sc, ?_, ?_⟩, ?_⟩⟩
    · rcases List.mem_cons.1 hy with h | h
      · left; omega
      · right; exact hcl y h
    · exact SL.heap_set k6 _
    · have := SL.row_set HO.out (p := ⟨w.heap.size, 0, none⟩) (fun h => by
        have := (SL.row_bounds HO.out _ h).1
        simp at this
        omega) (.slice sa (pre.length + 1) sc)
      simpa [intL] using this
    · exact (hbe.trans (hG6.belowW (by omega) fun k hk => by have := hbr k hk; omega)).setCell (by simp) _
  · rintro D pre W2 hD2 rfl ⟨⟨v, hbx, hrow⟩, hbe⟩ hdef
    obtain ⟨va, vc, rfl, _⟩ := owns_slice hrow
    have c0 := (SL.cells_of hbx).1 0
    simp at c0
    have HO := Lib.hid hrow
    clear hI00 hIo hs hrow hbx
    go_wp2_with fail
    refine leaves_marks (B := W0.heap.size) (by simp) (fun W => Below w.heap.size w W ∧ W.ownsRow (w.heap.size + 1) 3 1 (.slice va (insideL s lo hi).length vc) (insideL s lo hi).length ((intL (insideL s lo hi)).map (.int .i64))) ?_ ?_ _ W2 ⟨by simp; exact ⟨hD2, hdef⟩, by simp⟩ ⟨hbe, HO.out⟩
    · rintro W3 r hr ⟨a1, a2⟩ hd
      have hg := grownBy_putObj' W3 r (.deferred none)
      exact ⟨a1.grown hg a1.size (fun k hk => by cases hk; omega), row_keepC a2 (.of_grown hg fun k hk => by cases hk; exact ⟨_, hd, rfl⟩)⟩
    · rintro W3 ⟨a1, a2⟩
      exact ⟨_, by simp [results, Tryz.results155], _, rfl, a1, SL.row_base a2 (by omega)⟩
theorem wcollect (a : Option Addr) (ca : Nat) (f : Option Addr) (cf : Nat) (s : List Pn) (lo hi : Int) (BS BR : Nat) (w : World) (hs : SpansAt w a ca f cf s.length s) (hn : s.length ≤ 1000)
    (hBS : w.cell? ⟨BS, 0, none⟩ = some (.slice a s.length ca)) (hR0 : w.cell? ⟨BR, 0, none⟩ = some (.int .i64 lo)) (hR1 : w.cell? ⟨BR, 1, none⟩ = some (.int .i64 hi)) :
    Calls Tryz.prog 127 #[.func (.func 144) #[] #[.pointer (some ⟨BS, 0, none⟩), .pointer (some ⟨BR, 0, none⟩)]] w (RowPost w 3 1 (insideL s lo hi).length ((intL (insideL s lo hi)).map (.int .i64))) := by
  have hA := wappendSeq a ca f cf s lo hi BS BR w hs hn hBS hR0 hR1
  obtain ⟨Q, hQ⟩ : ∃ Q, RowPost w 3 1 (insideL s lo hi).length ((intL (insideL s lo hi)).map (.int .i64)) = Q := ⟨_, rfl⟩
  rw [hQ] at hA ⊢
  have HQ := Lib.hid hQ
  clear hQ hBS hR0 hR1
  go_enter Tryz.func127, Tryz.ntmps127
  go_wp2_with (go_at_call 155; (with_reducible refine hA.mono ?_); rintro e w2 hq; rw [← HQ.out] at hq; obtain ⟨v, rfl, hb, ho⟩ := hq)
  rw [← HQ.out]
  exact ⟨v, rfl, hb, ho⟩
open Go.Sort
theorem wwit1 (BS d q n cf p : Nat) (b : Bool) (W : World) (hp : p < n) (hn : n ≤ 1000) (h0 : W.cell? ⟨BS, 1, none⟩ = some (.slice (some ⟨d, q, none⟩) n cf)) (h1 : W.cell? ⟨d, q + p, none⟩ = some (.bool b)) :
    FnGives Tryz.prog 129 #[.pointer (some ⟨BS, 0, none⟩)] #[.int .i64 p] (.bool (!b)) W := by
  show Calls Tryz.prog 129 #[.int .i64 p, .pointer (some ⟨BS, 0, none⟩)] W _
  have i1 : (p : Int) < (n : Int) := by omega
  go_enter Tryz.func129, Tryz.ntmps129
  go_wp2
  all_goals (go_ret; exact ⟨rfl, 0, rfl⟩)
theorem sub_list {m : Nat} : ∀ (ns : List Nat), (∀ x ∈ ns, x < m) → ∃ zs : List {p : Nat // p < m}, zs.map (·.1) = ns
  | [], _ => ⟨[], rfl⟩
  | x :: ns, h => by
    obtain ⟨zs, hz⟩ := sub_list ns fun y hy => h y (by simp [hy])
    exact ⟨⟨x, h x (by simp)⟩ :: zs, by simp [hz]⟩
theorem chg_sortWorld {α : Type} [Inhabited α] (enc : α → Value) (w : World) (blk off n : Nat) (dk : Array α) (os : Array Obj) : SL.Chg [blk] w (sortWorld enc w blk off n dk os) := by
  refine ⟨rfl, rfl, rfl, by simp [sortWorld, grow, putRow, mapBlock, Sort.ahead], fun k hk hne => ?_⟩
  have hgk : blk ≠ k := fun e => hne (by simp [e])
  simp [sortWorld, grow, putRow, mapBlock, Sort.ahead, Array.getElem?_append, Array.getElem_modify, Array.getElem?_modify, hgk, hk]
theorem wdel (a : Option Addr) (ca : Nat) (f : Option Addr) (cf : Nat) (s : List Pn) (BS base : Nat) (ns : List Nat) (v : Value) (w : World) (hs : SpansAt w a ca f cf s.length s) (hsl : s.length ≤ 1000)
    (h : w.ownsRow base 3 1 v ns.length ((intL ns).map (.int .i64))) (hn : ∀ x ∈ ns, x < s.length) (h0 : ns ≠ []) (hl : ns.length ≤ 1000)
    (hB1 : w.cell? ⟨BS, 1, none⟩ = some (.slice f s.length cf)) (hlo : BS < base) (hfl : ∀ x, f = some x → x.block < base) :
    Calls Tryz.prog 128 #[v, .func (.func 129) #[] #[.pointer (some ⟨BS, 0, none⟩)]] w fun e w' => ∃ v', e = .returned v' ∧
      w'.ownsRow base 3 1 v' (ns.filter fun i => (s.getD i default).ft).length ((intL (ns.filter fun i => (s.getD i default).ft)).map (.int .i64)) ∧ SL.Chg v.ownBlock.toList w w' := by
  obtain ⟨zs, hz⟩ := sub_list ns hn
  have hzl : zs.length = ns.length := by rw [← hz]; simp
  have h1 : 0 < s.length := by
    cases ns with
    | nil => exact absurd rfl h0
    | cons x ns => have := hn x (by simp); omega
  have hnl : 0 < ns.length := List.length_pos_iff.2 h0
  haveI : Inhabited {p : Nat // p < s.length} := ⟨⟨0, h1⟩⟩
  have henc : (intL ns).map (Value.int .i64) = zs.map fun x => Value.int .i64 ((x.1 : Nat) : Int) := by
    rw [← hz]; simp [intL, Function.comp_def]
  obtain ⟨b, o, d, q, rfl, rfl, _, hd, _, _, _⟩ := hs.get h1
  have hfl' : d < base := hfl _ rfl
  have h' := h
  obtain ⟨_, ⟨rfl, e0⟩ | ⟨g, cap, cur, rfl, hbg, hg, g1, g2, g3, g4⟩⟩ := h
  · omega
  have hgl : g < w.heap.size := (Array.getElem?_eq_some_iff.1 hg).1
  have hzB : BS < w.heap.size := World.block_lt_of_cell? w _ hB1
  have hft : ∀ x : {p : Nat // p < s.length}, w.cell? ⟨d, q + x.1, none⟩ = some (.bool (s.getD x.1 default).ft) := fun x => by
    obtain ⟨_, _, d', q', _, e, _, _, _, _, hh⟩ := hs.get x.2
    simp only [Option.some.injEq, Addr.mk.injEq] at e
    obtain ⟨rfl, rfl, _⟩ := e
    exact hh
  have hgive : ∀ W, SL.Chg [g] w W → ∀ x : {p : Nat // p < s.length}, FnGives Tryz.prog 129 #[.pointer (some ⟨BS, 0, none⟩)] #[.int .i64 ((x.1 : Nat) : Int)] (.bool (!(s.getD x.1 default).ft)) W := fun W hW x =>
    wwit1 BS d q s.length cf x.1 _ W x.2 hsl
      (by rw [← hB1]; simp only [World.cell?, hW.block BS hzB (by simp; omega)])
      (by rw [← hft x]; simp only [World.cell?, hW.block d hd (by simp; omega)])
  have hH : Holds (fun x : {p : Nat // p < s.length} => Value.int .i64 ((x.1 : Nat) : Int)) w g 0 zs.toArray := by
    intro j hj
    have hj' : j < zs.length := by simpa using hj
    refine ⟨?_, by simp [World.frozen?, hg]⟩
    have e1 : (cur.toList.take (ns.length * 1))[j]? = ((intL ns).map (Value.int .i64))[j]? := by rw [g4]
    rw [henc, List.getElem?_take_of_lt (by omega)] at e1
    simp only [World.cell?, hg, Nat.zero_add]
    simp only [Option.isSome_none, Bool.false_eq_true, if_false]
    rw [← Array.getElem?_toList, e1]
    simp [hj', getElem!_pos]
  have hcon := AnyE.slices_DeleteFunc Tryz.delFA (fun x : {p : Nat // p < s.length} => Value.int .i64 ((x.1 : Nat) : Int)) (fun _ => rfl) (fun x => !(s.getD x.1 default).ft) 129 #[.pointer (some ⟨BS, 0, none⟩)] (enters_of Tryz.func129 (by kernel_rfl) rfl) ⟨0, h1⟩ Tryz.zeroValue3 g 0 cap zs.toArray w
    (fun W x hb => hgive W (.of_below hb) x) (fun n os dk x _ => hgive _ (chg_sortWorld _ _ _ _ _ _ _) x) hH (by simp; omega) (by simp; omega)
  simp only [List.size_toArray, hzl, Bool.not_not] at hcon
  obtain ⟨ys, hys⟩ : ∃ ys, zs.filter (fun x => (s.getD x.1 default).ft) = ys := ⟨_, rfl⟩
  rw [hys] at hcon
  have hy1 : ys.map (·.1) = ns.filter fun i => (s.getD i default).ft := by
    rw [← hz, List.filter_map, ← hys]
    rfl
  have hy2 : ys.length = (ns.filter fun i => (s.getD i default).ft).length := by rw [← hy1]; simp
  have hy3 : ys.length ≤ ns.length := by rw [hy2]; exact List.length_filter_le _ _
  have hy4 : (intL (ns.filter fun i => (s.getD i default).ft)).map (Value.int .i64) = ys.map fun x => Value.int .i64 ((x.1 : Nat) : Int) := by
    rw [← hy1]; simp [intL, Function.comp_def]
  rw [hy4, ← hy2]
  rw [henc] at h'
  refine hcon.mono ?_
  rintro e w' ⟨rfl, q, rfl⟩
  have ho := Lib.ownsRow_putRow (q := q) (ys := ys ++ List.replicate (ns.length - ys.length) ⟨0, h1⟩) h' (by simp; omega) hy3
  rw [List.take_left] at ho
  refine ⟨_, rfl, ho, ⟨rfl, rfl, rfl, by simp [putRow, mapBlock, Sort.ahead], fun k hk hne => ?_⟩⟩
  have hgk : g ≠ k := fun e => hne (by simp [Value.ownBlock, e])
  simp [putRow, mapBlock, Sort.ahead, Array.getElem?_modify, hgk]
/-- The witness so far. -/
def witT (s : List Pn) (l : List (Int × Int)) : List Nat := l.flatMap fun r => witR s r.1 r.2
theorem witT_len (s : List Pn) (l : List (Int × Int)) : (witT s l).length = sumD s l := by
  unfold witT sumD
  rw [List.length_flatMap]
  congr 1
  exact List.map_congr_left fun r _ => witR_len s r.1 r.2
theorem witT_take {s : List Pn} {l : List (Int × Int)} {k : Nat} (h : k < l.length) : witT s (l.take (k + 1)) = witT s (l.take k) ++ witR s (l.getD k default).1 (l.getD k default).2 := by
  unfold witT
  rw [List.take_succ_eq_append_getElem h, List.flatMap_append]
  simp [List.getD_eq_getElem?_getD, h]
theorem intL_append (a b : List Nat) : intL (a ++ b) = intL a ++ intL b := by simp [intL]
theorem inside_ne {s : List Pn} {l h : Int} (hd : 0 < dem s l h) : insideL s l h ≠ [] := by
  intro e
  have := witR_len s l h
  unfold witR footL at this
  rw [e] at this
  simp at this
  omega
theorem mem_getDr {l : List (Int × Int)} {k : Nat} (h : k < l.length) : l.getD k default ∈ l := by
  rw [List.getD_eq_getElem?_getD, List.getElem?_eq_getElem h]
  exact List.getElem_mem h
theorem row_take1 {w : World} {g ic c : Nat} {I : List Nat} (h : RowAt w (some ⟨g, 0, none⟩) ic ((intL I).map (.int .i64))) : RowAt w (some ⟨g, 0, none⟩) c ((intL (I.take 1)).map (.int .i64)) := by
  refine ⟨fun e => (by cases e), fun x hx => ?_⟩
  obtain ⟨h1, h2, h3⟩ := h.at_ x hx
  refine ⟨h1, h2, fun i u hi => h3 i u ?_⟩
  have e : (intL (I.take 1)).map (Value.int .i64) = ((intL I).map (Value.int .i64)).take 1 := by simp [intL, List.map_take]
  rw [e, List.getElem?_take] at hi
  split at hi
  · exact hi
  · cases hi
/-- The witness in order. -/
def witS (s : List Pn) : List Int := (intL (witU s)).mergeSort fun x y => decide (x ≤ y)
theorem winsideB (a : Option Addr) (ca : Nat) (f : Option Addr) (cf n : Nat) (lo hi : Int) (w : World) :
    Calls Tryz.prog 114 #[spV a ca f cf n, .agg #[.int .i64 lo, .int .i64 hi]] w fun e w' => ∃ BS BR, e = .returned (.func (.func 144) #[] #[.pointer (some ⟨BS, 0, none⟩), .pointer (some ⟨BR, 0, none⟩)]) ∧ Below w.heap.size w w' ∧
      w'.cell? ⟨BS, 0, none⟩ = some (.slice a n ca) ∧ w'.cell? ⟨BR, 0, none⟩ = some (.int .i64 lo) ∧ w'.cell? ⟨BR, 1, none⟩ = some (.int .i64 hi) := by
  refine (winside a ca f cf n lo hi w).mono ?_
  rintro e w' ⟨rfl, rfl⟩
  exact ⟨_, _, rfl, ((Below.refl _ _).alloc (Nat.le_refl _) _).alloc (by simp) _, by simp [go_sem], by simp [go_sem], by simp [go_sem]⟩
theorem wwitness (a : Option Addr) (ca : Nat) (f : Option Addr) (cf n : Nat) (s : List Pn) (w : World) (hs : SpansAt w a ca f cf n s) (hn : s.length ≤ 100) (hok : OkS s) :
    Calls Tryz.prog 91 #[spV a ca f cf n] w (RowPost w 3 1 (witS s).length ((witS s).map (.int .i64))) := by
  obtain rfl := hs.len
  have hmk := makeFuncW
  have hS := fun W h => wshow a ca f cf s.length s W h hn hok
  have hsum := showL_sum hok
  have hle := least_le_len hok
  have htk := fun k => sumD_part s (showL s) k
  have hwt := fun k => witT_len s ((showL s).take k)
  have hst := fun k (h : k < (showL s).length) => @witT_take s (showL s) k h
  have hpos := fun k (h : k < (showL s).length) => ((showL_chain hok).each _ (mem_getDr h)).2.2.2
  have hfin : witT s (showL s) = witU s := rfl
  obtain ⟨Q, hQ⟩ : ∃ Q, RowPost w 3 1 (witS s).length ((witS s).map (.int .i64)) = Q := ⟨_, rfl⟩
  have hsl : (witS s).length = (witU s).length := by unfold witS; rw [sort_len, intL_len]
  rw [hQ]
  rw [hsl] at hQ
  unfold witS at hQ
  have HQ := Lib.hid hQ
  rw [hsum] at htk
  rw [← hfin] at HQ
  generalize showL s = l at *
  generalize leastN s = T at *
  have Htk := Lib.hid htk
  have Hst := Lib.hid hst
  have Hwt := Lib.hid hwt
  have Hpos := Lib.hid hpos
  have hB1 := one_alloc w (Obj.cells #[.slice a s.length ca, .slice f s.length cf] 83)
  clear hsum htk hst hpos hwt hfin hQ hsl
  unfold spV at *
  go_enter Tryz.func91, Tryz.ntmps91
  go_wp2_with (go_at_call 94; (with_reducible refine (hS _ (hs.below hB1)).mono ?_); rintro e w2 ⟨la, lc, rfl, hb2, hr2⟩; have hz2 := lt_size hb2 (b := w.heap.size) (by first | assumption | omega | (simp; done) | (simp; omega)))
  have hB2 : Below w.heap.size w w2 := hB1.ch2 hb2
  have p0 : w2.cell? ⟨w.heap.size, 0, none⟩ = some (.slice a s.length ca) := by rw [(bcell hb2).1 _ _ (by simp)]; simp [go_sem]
  have p1 : w2.cell? ⟨w.heap.size, 1, none⟩ = some (.slice f s.length cf) := by rw [(bcell hb2).1 _ _ (by simp)]; simp [go_sem]
  have hlen := hr2.small
  have hfz := hs.blocks.2
  have hs2 := hs.below hB2
  clear hb2 hS
  go_loopw [3, 11] (fun t i wr => ∃ k : Nat, k ≤ l.length ∧ i = .int .i64 k ∧ Below w2.heap.size w2 wr ∧ wr.ownsRow w2.heap.size 3 1 t (witT s (l.take k)).length ((intL (witT s (l.take k))).map (.int .i64))) (fun _ i _ => l.length - (RowKit.intOf i).toNat)
  case atStart => exact ⟨0, Nat.zero_le _, rfl, Below.refl _ _, World.ownsRow_nil _ _ _ _⟩
  case round =>
    obtain ⟨k, hk, rfl, hB, hown⟩ := hrel
    have hnn : (0 : Int) ≤ k := by omega
    by_cases hlt : k < l.length
    · have i1 : (k : Int) < (l.length : Int) := by omega
      obtain ⟨b, o, rfl, _, d0, d1⟩ := (hr2.below hB).get hlt
      have Hs := Lib.hid (Hst.out k hlt)
      have b1 := Htk.out k
      have b2 := Htk.out (k + 1)
      rw [← Hwt.out] at b1 b2
      rw [Hs.out] at b2
      have hps := Hpos.out k hlt
      generalize witT s (l.take k) = A at *
      generalize l.getD k default = r at *
      obtain ⟨lo, hi⟩ := r
      simp only at d0 d1 Hs b2 hps
      rw [List.length_append] at b2
      have hIne := inside_ne hps
      have hIlt : ∀ x ∈ insideL s lo hi, x < s.length := fun x hx => (mem_insideL.1 hx).1
      have hIle := insN_len s lo hi s.length
      rw [insN_all] at hIle
      have hW : witR s lo hi = if footL s lo hi = [] then (insideL s lo hi).take 1 else footL s lo hi := rfl
      have hFd : (insideL s lo hi).filter (fun i => (s.getD i default).ft) = footL s lo hi := rfl
      have hDl := fun base v W => wdel a ca f cf s w.heap.size base (insideL s lo hi) v W
      rw [hFd] at hDl
      have hCol := fun W h BS BR => wcollect a ca f cf s lo hi BS BR W h (by omega)
      generalize insideL s lo hi = I at *
      generalize footL s lo hi = F at *
      generalize witR s lo hi = R at *
      have hIpos := List.length_pos_iff.2 hIne
      have hal := one_alloc wr (Obj.cells #[.int .i64 lo, .int .i64 hi] 33)
      have Hsa := Lib.hid ((hs2.below hB).below hal)
      have Hza := Lib.hid hal.size
      have hzr : w.heap.size < wr.heap.size := by have := hB.size; omega
      have q0 := ((bcell hB).1 _ 0 hz2).trans p0
      have q1 := ((bcell hB).1 _ 1 hz2).trans p1
      have Hbz : Hid (∀ W, Below (wr.alloc (Obj.cells #[.int .i64 lo, .int .i64 hi] 33)).heap.size (wr.alloc (Obj.cells #[.int .i64 lo, .int .i64 hi] 33)) W → W.cell? ⟨w.heap.size, 0, none⟩ = some (.slice a s.length ca) ∧ W.cell? ⟨w.heap.size, 1, none⟩ = some (.slice f s.length cf)) := Lib.hid (fun W h => ⟨((bcell (hal.ch2 h)).1 _ _ hzr).trans q0, ((bcell (hal.ch2 h)).1 _ _ hzr).trans q1⟩)
      have Hfz : Hid (∀ x, f = some x → x.block < wr.heap.size) := Lib.hid (fun x hx => by have := hfz x hx; omega)
      have HCol := Lib.hid hCol
      have hIn := fun w => winsideB a ca f cf s.length lo hi w
      unfold spV at hIn
      have HIn := Lib.hid hIn
      have HDl := Lib.hid (fun v base W h h1 h2 h3 h4 h5 h6 h7 h8 => hDl base v W h h1 h2 h3 h4 h5 h6 h7 h8)
      have Hlt := Lib.hid hIlt
      have HW := Lib.hid hW
      have HA := Lib.hid hown
      obtain ⟨va, vc, rfl, _⟩ := owns_slice hown
      clear hCol hDl hIlt hW hown hIn hfz
      by_cases hF : F = []
      · subst hF
        have HR : Hid (R = I.take 1) := Lib.hid (by rw [HW.out, if_pos rfl])
        have HRl : Hid (R.length = 1) := Lib.hid (by rw [HR.out, List.length_take]; omega)
        go_wp2_with (first
          | (go_at_call 114; (with_reducible refine (HIn.out _).mono ?_); rintro e w4 ⟨BS, BR, rfl, hb4, u0, u1, u2⟩; obtain ⟨q0, q1⟩ := Hbz.out _ hb4)
          | (go_at_call 127; (with_reducible refine (HCol.out _ (Hsa.out.below hb4) BS BR u0 u1 u2).mono ?_); clear u0 u1 u2 q0 q1; rintro e w5 ⟨v5, rfl, hb5, ho5⟩; obtain ⟨ia, ic, rfl, hia⟩ := owns_slice ho5; obtain ⟨ig, rfl, _, _, hic⟩ := owns_some ho5 hIpos; have HO5 := Lib.hid ho5; clear ho5; have hb45 := hb4.trans (hb5.mono hb4.size); obtain ⟨q0, q1⟩ := Hbz.out _ hb45)
          | (go_at_call 111; (with_reducible refine (cloneI (some ⟨ig, 0, none⟩) I.length ic (intL I) _ (IntsAt.of_owns HO5.out (by rw [intL_len]; omega)) (by rw [intL_len]; omega)).mono ?_); clear q0 q1; rintro e w6 ⟨v6, rfl, hb6, ho6⟩; rw [intL_len] at ho6; have HO6 := Lib.hid ho6; clear ho6; have hb46 := hb45.trans (hb6.mono hb45.size); obtain ⟨q0, q1⟩ := Hbz.out _ hb46)
          | (go_at_call 128; (with_reducible refine (HDl.out v6 w5.heap.size _ (Hsa.out.below hb46) (by omega) HO6.out Hlt.out hIne (by omega) q1 (by have := hb45.size; have := Hza.out; omega) (fun x hx => by have := Hfz.out x hx; have := hb45.size; have := Hza.out; omega)).mono ?_); clear q0 q1; rintro e w7 ⟨v7, rfl, ho7, hc7⟩; obtain ⟨fa, fc, rfl, hfa⟩ := owns_slice ho7; have HO7 := Lib.hid ho7; clear ho7; have hb47 := hb46.trans (hc7.belowW hb46.size fun k hk => by have := (SL.row_bounds HO6.out k hk).1; have := hb45.size; have := Hza.out; omega); have hb57 := hb6.trans (hc7.belowW hb6.size fun k hk => (SL.row_bounds HO6.out k hk).1); obtain ⟨q0, q1⟩ := Hbz.out _ hb47)
          | (at_builtin; refine wpList_app elemI rfl _ _ rfl (HA.out.up (hal.ch2 hb47) (Nat.le_refl _)) rfl rfl (news := (intL R).map (.int .i64)) (by rw [HR.out]; exact row_take1 (IntsAt.of_owns (HO5.out.up hb57 (Nat.le_refl _)) (by rw [intL_len]; omega)).row) (by have := HRl.out; simp only [List.length_map, intL_len]; omega) (ones_int _) (by have := HRl.out; unfold maxLen; omega) (by have := HRl.out; omega) (by have := hB.size; have := (hal.ch2 hb47).size; omega) ?_)
          )
        intro v' w8 ho hg8 hb8 _ _
        have HO8 := Lib.hid ho
        clear ho
        have hB8 := hB.trans (((hal.ch2 hb47).mono hB.size).trans hb8)
        go_wp2
        go_roundw
        case rel => exact ⟨k + 1, by omega, by go_num, hB8, by rw [Hs.out, intL_append, List.map_append, List.length_append, HRl.out]; exact HO8.out⟩
        case measure => simp [RowKit.intOf]; omega
      · have HR : Hid (R = F) := Lib.hid (by rw [HW.out, if_neg hF])
        have HRl : Hid (R.length = F.length) := Lib.hid (by rw [HR.out])
        have hFp : (F.length : Int) ≠ 0 := by have := List.length_pos_iff.2 hF; omega
        have hRle : F.length ≤ R.length := by rw [HR.out]; omega
        go_wp2_with (first
          | (go_at_call 114; (with_reducible refine (HIn.out _).mono ?_); rintro e w4 ⟨BS, BR, rfl, hb4, u0, u1, u2⟩; obtain ⟨q0, q1⟩ := Hbz.out _ hb4)
          | (go_at_call 127; (with_reducible refine (HCol.out _ (Hsa.out.below hb4) BS BR u0 u1 u2).mono ?_); clear u0 u1 u2 q0 q1; rintro e w5 ⟨v5, rfl, hb5, ho5⟩; obtain ⟨ia, ic, rfl, hia⟩ := owns_slice ho5; obtain ⟨ig, rfl, _, _, hic⟩ := owns_some ho5 hIpos; have HO5 := Lib.hid ho5; clear ho5; have hb45 := hb4.trans (hb5.mono hb4.size); obtain ⟨q0, q1⟩ := Hbz.out _ hb45)
          | (go_at_call 111; (with_reducible refine (cloneI (some ⟨ig, 0, none⟩) I.length ic (intL I) _ (IntsAt.of_owns HO5.out (by rw [intL_len]; omega)) (by rw [intL_len]; omega)).mono ?_); clear q0 q1; rintro e w6 ⟨v6, rfl, hb6, ho6⟩; rw [intL_len] at ho6; have HO6 := Lib.hid ho6; clear ho6; have hb46 := hb45.trans (hb6.mono hb45.size); obtain ⟨q0, q1⟩ := Hbz.out _ hb46)
          | (go_at_call 128; (with_reducible refine (HDl.out v6 w5.heap.size _ (Hsa.out.below hb46) (by omega) HO6.out Hlt.out hIne (by omega) q1 (by have := hb45.size; have := Hza.out; omega) (fun x hx => by have := Hfz.out x hx; have := hb45.size; have := Hza.out; omega)).mono ?_); clear q0 q1; rintro e w7 ⟨v7, rfl, ho7, hc7⟩; obtain ⟨fa, fc, rfl, hfa⟩ := owns_slice ho7; have HO7 := Lib.hid ho7; clear ho7; have hb47 := hb46.trans (hc7.belowW hb46.size fun k hk => by have := (SL.row_bounds HO6.out k hk).1; have := hb45.size; have := Hza.out; omega); have hb57 := hb6.trans (hc7.belowW hb6.size fun k hk => (SL.row_bounds HO6.out k hk).1); obtain ⟨q0, q1⟩ := Hbz.out _ hb47)
          | (at_builtin; refine wpList_app elemI rfl _ _ rfl (HA.out.up (hal.ch2 hb47) (Nat.le_refl _)) rfl rfl (news := (intL R).map (.int .i64)) (by rw [HR.out]; exact (IntsAt.of_owns HO7.out (by rw [intL_len]; omega)).row) (by have := HRl.out; simp only [List.length_map, intL_len]; omega) (ones_int _) (by have := HRl.out; unfold maxLen; omega) (by have := HRl.out; omega) (by have := hB.size; have := (hal.ch2 hb47).size; omega) ?_)
          )
        intro v' w8 ho hg8 hb8 _ _
        have HO8 := Lib.hid ho
        clear ho
        have hB8 := hB.trans (((hal.ch2 hb47).mono hB.size).trans hb8)
        go_wp2
        go_roundw
        case rel => exact ⟨k + 1, by omega, by go_num, hB8, by rw [Hs.out, intL_append, List.map_append, List.length_append, HRl.out]; exact HO8.out⟩
        case measure => simp [RowKit.intOf]; omega
    · have hk2 : k = l.length := by omega
      subst hk2
      rw [List.take_length] at *
      have hA : (witT s l).length ≤ 100 := by have := Htk.out l.length; rw [← Hwt.out, List.take_length] at this; omega
      obtain ⟨va, vc, rfl, _⟩ := owns_slice hown
      have hSo := sortI _ _ _ _ _ hown (by rw [intL_len]; omega)
      have hbo := SL.row_bounds hown
      have HA := Lib.hid hA
      clear hA
      go_wp2_with (go_at_call 130; (with_reducible refine hSo.mono ?_); rintro e w4 ⟨rfl, ho4, hc4⟩)
      rw [← HQ.out]
      exact ⟨_, rfl, hB2.ch2 (hB.trans (hc4.belowW hB.size fun k hk => (hbo k hk).1)), SL.row_base ho4 (by have := hB2.size; omega)⟩
end Go.Proofs.YtodkbfbbpfghiaaGreat
namespace Go.Proofs.YtodkbfbbpfghiaaGreat
open Go.RowKit Go.Shelf
set_option maxHeartbeats 4000000
set_option maxRecDepth 100000
def Cs.witO (c : Cs) : List Int := if c.chk = 0 then witS c.s else []
/-- Numbers, and an error. -/
def IntPost (w : World) (l : List Int) (E : Int) (e : Ending) (w' : World) : Prop := ∃ a k, e = .returned (.tuple #[.slice a l.length k, .int .i64 E]) ∧ Below w.heap.size w w' ∧ IntsAt w' a l.length k l ∧ l.length ≤ k
theorem witS_len {s : List Pn} (hs : OkS s) : (witS s).length ≤ s.length := by
  unfold witS
  rw [sort_len, intL_len]
  have h1 := (witU_ok hs).2
  have h2 := least_le_len hs
  omega
theorem wWitness (c : Cs) (w : World) (hc : CsAt w c) :
    Calls Tryz.prog 43 #[c.v] w (IntPost w c.witO c.chk) := by
  have hC := fun w1 (h : CsAt w1 c) => wlaid0 c w1 h
  have hr : c.witO = if c.chk = 0 then witS c.s else [] := rfl
  have hz := @Cs.chk_zero c
  generalize c.witO = R at *
  generalize c.chk = E at *
  have hP := Lib.hid (show ∀ w' a k, Below w.heap.size w w' → IntsAt w' a R.length k R → R.length ≤ k → IntPost w R E (.returned (.tuple #[.slice a R.length k, .int .i64 E])) w' from fun w' a k h1 h2 h3 => ⟨a, k, rfl, h1, h2, h3⟩)
  by_cases h0 : E = 0
  · subst h0
    obtain ⟨hm, hok, hsl⟩ := (hz.1 rfl).many'
    have hO := fun w1 a ca f cf (hs : SpansAt w1 a ca f cf c.ps.length c.s) => wwitness a ca f cf _ c.s w1 hs (by omega) hok
    simp only [ne_eq, not_true, false_implies, true_and, true_implies] at hC
    rw [if_pos rfl] at hr
    have hRl := witS_len hok
    rw [← hr] at hO hRl
    have HRl : Hid (R.length ≤ 40) := Lib.hid (by omega)
    clear hRl
    unfold spV at hO
    generalize IntPost w R 0 = Post at *
    clear hz hr hm hok hsl
    obtain ⟨ware, lim, byr, a, cap, ps⟩ := c
    simp only [Cs.v] at *
    have hB0 := one_alloc w (Obj.cells #[.string ware, .int .i64 lim, .int .i64 byr, .slice a ps.length cap] 24)
    have hbx := hc.below hB0
    go_enter Tryz.func43, Tryz.ntmps43
    go_wp2_with (first
      | (go_at_call 75; (with_reducible refine (hC _ hbx).mono ?_); rintro e w1 ⟨N, a1, ca, f1, cf, rfl, hb1, hN, hT⟩; obtain ⟨t0, t1, t2, t3, t4, t5⟩ := hT.get; have hNl := hT.lt)
      | (go_at_call 91; (with_reducible refine (hO _ _ _ _ _ hT.sp).mono ?_); rintro e w2 ⟨v2, rfl, hb2, ho2⟩; obtain ⟨ra, rc, rfl, _⟩ := owns_slice ho2))
    exact hP.out _ _ _ ((hB0.ch2 hb1).ch2 hb2) (IntsAt.of_owns ho2 (by have := HRl.out; omega)) (owns_room ho2)
  · have h2 : (E != 0) = true := by simpa using h0
    rw [if_neg h0] at hr
    subst hr
    have hC2 := fun w1 h => (hC w1 h).mono fun e w' hh => hh.1 h0
    generalize IntPost w [] E = Post at *
    clear hz h0 hC
    obtain ⟨ware, lim, byr, a, cap, ps⟩ := c
    simp only [Cs.v] at *
    have hB0 := one_alloc w (Obj.cells #[.string ware, .int .i64 lim, .int .i64 byr, .slice a ps.length cap] 24)
    have hbx := hc.below hB0
    go_enter Tryz.func43, Tryz.ntmps43
    go_wp2_with (go_at_call 75; (with_reducible refine (hC2 _ hbx).mono ?_); rintro e w1 ⟨rfl, hb1⟩)
    exact hP.out _ none 0 (hB0.ch2 hb1) (IntsAt.nilAt _) (Nat.le_refl _)
def Cs.barB (c : Cs) (x y : Int) : Bool := decide (c.two x y = 0) && !c.joiN x.toNat y.toNat
/-- The bar that is returned. -/
def Cs.barO (c : Cs) (x y : Int) : List Int := if c.barB x y = true ∧ clB c.s x.toNat y.toNat = false then (witS (merS c.s (min x.toNat y.toNat) (max x.toNat y.toNat))).take (c.lim.toNat + 1) else []
theorem witS_many {s : List Pn} (hs : OkS s) : (witS s).length = leastN s := by
  unfold witS
  rw [sort_len, intL_len]
  exact (witU_ok hs).2
theorem wBar (c : Cs) (x y : Int) (w : World) (hc : CsAt w c) :
    Calls Tryz.prog 36 #[c.v, .int .i64 x, .int .i64 y] w (IntBPost w (c.barO x y) (c.barB x y) (c.two x y)) := by
  have hC := fun w1 (h : CsAt w1 c) => wpair c x y w1 h
  unfold PairPost at hC
  have hz := @Cs.two_nat c x y
  have hz2 := @Cs.two_zero c x y
  have hb : c.barB x y = (decide (c.two x y = 0) && !c.joiN x.toNat y.toNat) := rfl
  have ho : c.barO x y = if c.barB x y = true ∧ clB c.s x.toNat y.toNat = false then (witS (merS c.s (min x.toNat y.toNat) (max x.toNat y.toNat))).take (c.lim.toNat + 1) else [] := rfl
  have hP := Lib.hid (show ∀ a k e w', e = .returned (.tuple #[.slice a (c.barO x y).length k, .bool (c.barB x y), .int .i64 (c.two x y)]) → Below w.heap.size w w' → IntsAt w' a (c.barO x y).length k (c.barO x y) → (c.barO x y).length ≤ k → IntBPost w (c.barO x y) (c.barB x y) (c.two x y) e w' from fun a k e w' h1 h2 h3 h4 => ⟨a, k, h1, h2, h3, h4⟩)
  generalize IntBPost w (c.barO x y) (c.barB x y) (c.two x y) = Post at *
  generalize c.barO x y = O at *
  generalize c.barB x y = JB at *
  generalize c.two x y = E at *
  by_cases h0 : E = 0
  · subst h0
    obtain ⟨X, Y, rfl, rfl, hAB, hBn, eA, eB⟩ := hz rfl
    obtain ⟨hm, hok, hsl⟩ := (hz2 rfl).1.many'
    have hlim := (hz2 rfl).1.lim
    rw [Cs.joiN_tog] at hb
    simp only [Int.toNat_natCast, decide_true, Bool.true_and] at hb ho
    rw [← clB_minmax] at ho
    rw [eA, eB] at hC
    clear hz hz2 eA eB
    generalize min X Y = A at *
    generalize max X Y = B at *
    simp only [ne_eq, not_true, false_implies, true_and, true_implies] at hC
    have hTo := fun W N a ca f cf (h : TabAt W N c a ca f cf) => wtogether c N a ca f cf A B W h hAB hBn hok (by omega)
    unfold TogPost at hTo
    have hml := merS_len (s := c.s) (a := A) (b := B) (by omega)
    have hokM := fun (hT : clB c.s A B = false) => hok.merS hAB (by omega) hT
    cases hT : clB c.s A B with
    | true =>
      rw [hT] at hb ho
      simp only [Bool.not_true, Bool.false_and, Bool.not_false] at hb
      subst hb
      simp only [Bool.true_eq_false, and_false, if_false] at ho
      subst ho
      simp only [hT, true_implies, Bool.true_eq_false, false_implies, and_true] at hTo
      have HP := Lib.hid hP.out
      clear hP hokM hT hok hlim
      obtain ⟨ware, lim, byr, a, cap, ps⟩ := c
      simp only [Cs.v] at *
      have hB0 := one_alloc w (Obj.cells #[.string ware, .int .i64 lim, .int .i64 byr, .slice a ps.length cap] 24)
      have hbx := hc.below hB0
      go_enter Tryz.func36, Tryz.ntmps36
      go_wp2_with (first
        | (go_at_call 67; (with_reducible refine (hC _ hbx).mono ?_); rintro e w1 ⟨N, a1, ca, f1, cf, rfl, hb1, hN, hT⟩)
        | (go_at_call 87; (with_reducible refine (hTo _ _ _ _ _ _ hT).mono ?_); rintro e w2 ⟨rfl, hb2⟩))
      have hBE := (hB0.ch2 hb1).ch2 hb2
      have hzE := hBE.size
      refine bodyPost_ret (v := .tuple #[.slice none 0 0, .bool true, .int .i64 0]) (by simp [results, Tryz.results36, go_sem, *]) rfl (HP.out none 0 _ _ rfl ?_ (IntsAt.nilAt _) (Nat.le_refl _))
      (repeat (first | (with_reducible exact hBE) | ((with_reducible refine Below.setCell ?_ ?_ _); rotate_left; focus (first | omega | (simp; done) | (simp; omega))) | ((with_reducible refine Below.alloc ?_ ?_ _); rotate_left; focus (first | omega | (simp; done) | (simp; omega)))))
    | false =>
      rw [hT] at hb ho
      simp only [Bool.not_false, Bool.true_and] at hb
      simp only [hT, Bool.false_eq_true, false_implies, true_and, true_implies] at hTo
      cases hTB : c.togB A B with
      | true =>
        rw [hTB] at hb hTo
        simp only [Bool.not_true] at hb
        subst hb
        simp only [Bool.false_eq_true, false_and, if_false] at ho
        subst ho
        have HP := Lib.hid hP.out
        clear hP hokM hT hok hTB hlim
        obtain ⟨ware, lim, byr, a, cap, ps⟩ := c
        simp only [Cs.v] at *
        have hB0 := one_alloc w (Obj.cells #[.string ware, .int .i64 lim, .int .i64 byr, .slice a ps.length cap] 24)
        have hbx := hc.below hB0
        go_enter Tryz.func36, Tryz.ntmps36
        go_wp2_with (first
          | (go_at_call 67; (with_reducible refine (hC _ hbx).mono ?_); rintro e w1 ⟨N, a1, ca, f1, cf, rfl, hb1, hN, hT⟩)
          | (go_at_call 87; (with_reducible refine (hTo _ _ _ _ _ _ hT).mono ?_); rintro e w2 ⟨a2, c2, f2, g2, rfl, hb2, ho2⟩; clear ho2))
        have hBE := (hB0.ch2 hb1).ch2 hb2
        have hzE := hBE.size
        refine bodyPost_ret (v := .tuple #[.slice none 0 0, .bool false, .int .i64 0]) (by simp [results, Tryz.results36, go_sem, *]) rfl (HP.out none 0 _ _ rfl ?_ (IntsAt.nilAt _) (Nat.le_refl _))
        (repeat (first | (with_reducible exact hBE) | ((with_reducible refine Below.setCell ?_ ?_ _); rotate_left; focus (first | omega | (simp; done) | (simp; omega))) | ((with_reducible refine Below.alloc ?_ ?_ _); rotate_left; focus (first | omega | (simp; done) | (simp; omega)))))
      | false =>
        rw [hTB] at hb hTo
        simp only [Bool.not_false] at hb
        subst hb
        simp only [true_and, if_true] at ho
        obtain ⟨M, hM⟩ : ∃ M : Nat, c.lim = M := ⟨c.lim.toNat, by omega⟩
        have htg : ¬ c.lim = 0 ∧ ¬ (leastN (merS c.s A B) : Int) ≤ c.lim := by
          unfold Cs.togB at hTB
          simpa using hTB
        have hwl := witS_many (hokM hT)
        have hMw : M + 1 ≤ (witS (merS c.s A B)).length := by omega
        have hMM : c.lim.toNat + 1 = M + 1 := by omega
        rw [hMM] at ho
        have hWi := fun w1 a ca f cf (h : SpansAt w1 a ca f cf (merS c.s A B).length (merS c.s A B)) => wwitness a ca f cf _ (merS c.s A B) w1 h (by omega) (hokM hT)
        have hSm : (merS c.s A B).length ≤ 100000 := by omega
        have hM40 : M ≤ 40 := by omega
        have hwS : (witS (merS c.s A B)).length ≤ 1000 := by have := witS_len (hokM hT); omega
        generalize merS c.s A B = S at *
        generalize witS S = WS at *
        have hK1 : S.length = c.ps.length - 1 := by omega
        have hps : c.ps.length ≤ 40 := by omega
        have hps2 : 0 < c.ps.length - 1 := by omega
        rw [hK1] at hTo hWi
        unfold RowPost spV at hWi
        subst ho
        have hOl : (WS.take (M + 1)).length = M + 1 := by rw [List.length_take]; omega
        have HP := Lib.hid (show ∀ a e w', e = .returned (.tuple #[.slice a (M + 1) (M + 1), .bool true, .int .i64 0]) → Below w.heap.size w w' → RowAt w' a (M + 1) ((WS.map (.int .i64)).take (M + 1)) → Post e w' from fun a e w' h1 h2 h3 => hP.out a (M + 1) e w' (by rw [hOl]; exact h1) h2 ⟨rfl, by omega, by rw [List.map_take]; exact h3⟩ (by omega))
        have HSm := Lib.hid hSm
        have HK1 := Lib.hid hK1
        have HwS := Lib.hid hwS
        have HMw := Lib.hid hMw
        obtain ⟨KW, hKW⟩ : ∃ KW, WS.length = KW := ⟨_, rfl⟩
        rw [hKW] at hWi hMw
        have HKW := Lib.hid hKW
        obtain ⟨WV, hWV⟩ : ∃ WV, WS.map (Value.int .i64) = WV := ⟨_, rfl⟩
        have hWVl : WV.length = KW := by rw [← hWV, List.length_map, hKW]
        rw [hWV] at hWi HP
        have HWVl := Lib.hid hWVl
        clear hP hokM hT hok hTB hsl hml hm hK1 hSm hlim htg hwl hMM hOl hKW hWV hWVl hwS
        obtain ⟨ware, lim, byr, a, cap, ps⟩ := c
        simp only at hM
        subst hM
        simp only [Cs.v] at *
        have hB0 := one_alloc w (Obj.cells #[.string ware, .int .i64 M, .int .i64 byr, .slice a ps.length cap] 24)
        have hbx := hc.below hB0
        have b0 : (((ps.length - 1 : Nat) : Int) == 0) = false := by simp; omega
        have hpn : ¬ ps.length - 1 = 0 := by omega
        go_enter Tryz.func36, Tryz.ntmps36
        go_wp2_with (first
          | (go_at_call 67; (with_reducible refine (hC _ hbx).mono ?_); rintro e w1 ⟨N, a1, ca, f1, cf, rfl, hb1, hN, hT⟩)
          | (go_at_call 87; (with_reducible refine (hTo _ _ _ _ _ _ hT).mono ?_); rintro e w2 ⟨a2, c2, f2, g2, rfl, hb2, ho2⟩; have HO2 := Lib.hid ho2; clear ho2))
        obtain ⟨w3, hw3⟩ : ∃ w3, w3 = w2.alloc (Obj.cells #[.slice a2 (ps.length - 1) c2, .slice f2 (ps.length - 1) g2] 83) := ⟨_, rfl⟩
        rw [← hw3]
        have hB12 : Below w.heap.size w w2 := (hB0.ch2 hb1).ch2 hb2
        have hBW : Below w.heap.size w w3 := by rw [hw3]; exact hB12.ch2 (one_alloc _ _)
        have hbox : w3.heap[w2.heap.size]? = some (.cells #[.slice a2 (ps.length - 1) c2, .slice f2 (ps.length - 1) g2] 83 (0, 0)) := by rw [hw3]; exact World.alloc_heap_new _ _
        obtain ⟨p0, p1, pf, pl⟩ := cell2w hbox
        have hT3 : TabAt w3 N ⟨ware, M, byr, a, cap, ps⟩ a1 ca f1 cf := by rw [hw3]; exact (hT.below hb2).below (one_alloc _ _)
        obtain ⟨r0, r1, r2, r3, r4, r5⟩ := hT3.get
        have hNl := hT3.lt
        have HSp := Lib.hid (show ∀ W, Below w3.heap.size w3 W → SpansAt W a2 c2 f2 g2 (ps.length - 1) S from fun W h => by
          have h2 := (HO2.out.up (one_alloc w2 (Obj.cells #[.slice a2 (ps.length - 1) c2, .slice f2 (ps.length - 1) g2] 83))).spans HSm.out
          rw [HK1.out, ← hw3] at h2
          exact h2.below h)
        simp only at r1
        generalize w2.heap.size = BX at *
        have x3 : (0 : Int) ≤ (M : Int) + 1 := by omega
        have x4 : IntKind.i64.wrap ((M : Int) + 1) = (M : Int) + 1 := IntWalk.i64_in _ (by omega)
        have x7 : ((M : Int) + 1).toNat = M + 1 := by omega
        clear hw3 hT3 hT hb1 hb2 hB12 hbox hc hC hTo HO2 b0 hpn hB0 hbx r0 r2 r3 r4 r5
        apply SLG.rule0 ?hm1 [] [39, 40, 41, 42, 43, 44, 45, 46, 47, 48, 49, 50, 51, 52, 53, 6, 7, 8] [SLF.pq 39 [] _, SL.aw 40 [0] [] (fun x => .row w3.heap.size 3 1 x KW WV), SLF.pq 41 [] _, SLF.pq 42 [2] _, SLF.pq 43 [3] _, SLF.pq 44 [4] _, SLF.pq 45 [5] _, SLF.pq 46 [6] _, SLF.pq 47 [] _, SLF.pq 48 [8] _, SLF.pq 49 [9] _, SLF.pq 50 [10] _, SLF.pq 51 [11] _, SLF.pq 52 [12] _, SL.aw 53 [1, 7, 13] [1] (fun x => .ex fun a5 : Option Addr => .sep (.pure (x = .slice a5 (M + 1) (M + 1))) (.lies a5 (M + 1) (WV.take (M + 1)))), SL.aw 6 [14] [14] (fun x => .ex fun a5 : Option Addr => .sep (.pure (x = .slice a5 (M + 1) (M + 1))) (.lies a5 (M + 1) (WV.take (M + 1)))), SLF.pq 7 [] _, SLF.pq 8 [] _] [15, 16, 17] ?hck1 ?hkp1 (fun _ => []) ?hin1 ?hdj1 ?hfr1 ?ob1 ?en1
        case hm1 => kernel_rfl
        case hin1 => exact SL.none_held rfl
        case hdj1 => simp
        case hfr1 => intro us; simp only [SL.frame, SL.put']; simp; exact rfl
        case ob1 =>
          refine ⟨?_, ?_, ?_, ?_, ?_, ?_, ?_, ?_, ?_, ?_, ?_, ?_, ?_, ?_, ?_, ?_, ?_, ?_, trivial⟩
          all_goals first
            | (intro us w' Fe hG hu hd hv Kx hK
               try dsimp only
               simp [SL.Used, SL.pu, SL.row, SL.box, SL.rowIn, SL.boxIn, SL.boxAt, SL.boxAtIn, SLF.pq, Act.put, SL.aw_sub, SL.aw_use, SL.aw_eat, SL.aw_V, SL.aw_quiet] at hu hK
               have hB5 : Below w3.heap.size w3 w' := hG.below'
               obtain ⟨hc5, hf5⟩ := bcell hB5
               have hs5 := hB5.size
               clear hv hG
               refine SLF.wpo_do (SLF.wanted_free rfl) ?hd1 ?_
               case hd1 => intro c h; cases h
               clear hd
               first
                 | (go_step; exact hK _ _ _ (SL.Chg.refl _ _) (by first | exact rfl | (simp only [hu]; exact rfl)) rfl (by simp) rfl)
                 | exact hK _ _ _ (SL.Chg.refl _ _) rfl rfl (by simp) rfl)
            | skip
          · refine SLG.ob_sp rfl rfl rfl fun us w' Fe hG hu hd Kx hK => ?_
            try dsimp only
            simp [SL.Used, SL.pu, SL.row, SL.box, SL.rowIn, SL.boxIn, SL.boxAt, SL.boxAtIn, SLF.pq, Act.put, SL.aw_sub, SL.aw_use, SL.aw_eat, SL.aw_V, SL.aw_quiet] at hu
            have hB5 : Below w3.heap.size w3 w' := hG.below'
            obtain ⟨hc5, hf5⟩ := bcell hB5
            have hs5 := hB5.size
            refine SLF.wpo_do (SLF.wanted_free rfl) ?hd1 ?_
            case hd1 => intro c h; cases h
            go_step
            refine (hWi _ _ _ _ _ (HSp.out _ hB5)).mono ?_
            rintro e w6 ⟨v, rfl, hb6, ho6⟩
            exact hK _ v w6 _ (by simp [Act.put]; done) (.of_below hb6) (SL.aw_in ⟨SL.row_base ho6 hs5, rfl⟩) (fun k hk => .inr (SL.row_bounds ho6 k hk))
          · refine SLG.ob_sp rfl rfl rfl fun us w' Fe hG hu hd Kx hK => ?_
            try dsimp only
            simp [SL.Used, SL.pu, SL.row, SL.box, SL.rowIn, SL.boxIn, SL.boxAt, SL.boxAtIn, SLF.pq, Act.put, SL.aw_sub, SL.aw_use, SL.aw_eat, SL.aw_V, SL.aw_quiet] at hu
            have hB5 : Below w3.heap.size w3 w' := hG.below'
            obtain ⟨hc5, hf5⟩ := bcell hB5
            have hs5 := hB5.size
            refine SLF.wpo_do (SLF.wanted_free rfl) ?hd1 ?_
            case hd1 => intro c h; cases h
            obtain ⟨h1, ⟨e7, _⟩, e13, _⟩ := hu
            obtain ⟨hro, e1⟩ := SL.aw_out h1
            obtain ⟨a5, c5, e2, _⟩ := owns_slice hro
            rw [e2] at hro e1
            obtain ⟨G, rfl, _, _, hc5⟩ := owns_some hro (by omega)
            have y1 : (M : Int) + 1 ≤ (c5 : Int) := by omega
            have y2 : (M : Int) + 1 ≤ (KW : Int) := by omega
            have hrl := rowTake (RowAt.of_owns hro) (M + 1) (M + 1) (fun h => by cases h)
            go_step
            exact hK _ _ _ _ (by simp [Act.put]; done) (SL.Chg.refl _ _) (SL.aw_in ⟨_, _, _, ⟨rfl, rfl⟩, ⟨hrl, rfl⟩, rfl⟩) (fun k hk => .inl (by simpa [SL.aw_eat, e1, Value.ownBlock] using hk))
          · refine SLG.ob_sp rfl rfl rfl fun us w' Fe hG hu hd Kx hK => ?_
            try dsimp only
            simp [SL.Used, SL.pu, SL.row, SL.box, SL.rowIn, SL.boxIn, SL.boxAt, SL.boxAtIn, SLF.pq, Act.put, SL.aw_sub, SL.aw_use, SL.aw_eat, SL.aw_V, SL.aw_quiet] at hu
            have hB5 : Below w3.heap.size w3 w' := hG.below'
            obtain ⟨hc5, hf5⟩ := bcell hB5
            have hs5 := hB5.size
            refine SLF.wpo_do (SLF.wanted_free rfl) ?hd1 ?_
            case hd1 => intro c h; cases h
            obtain ⟨a5, F1, F2, ⟨hx, rfl⟩, ⟨hl, rfl⟩, hF⟩ := SL.aw_out hu
            go_step
            exact hK _ _ _ _ (by simp [Act.put]; done) (SL.Chg.refl _ _) (SL.aw_in ⟨a5, _, _, ⟨hx, rfl⟩, ⟨hl, rfl⟩, rfl⟩) (fun k hk => .inl (by simpa [SL.aw_eat, hF, Value.ownBlock] using hk))
        case hck1 => kernel_rfl
        case hkp1 => kernel_rfl
        intro us w5 Fs hG hu hbd hd
        simp [SL.Used, SL.aw_sub, SLF.pq] at hu
        obtain ⟨h15, ⟨e7, _⟩, e8, _⟩ := hu
        obtain ⟨a5, F1, F2, ⟨hx, rfl⟩, ⟨hl, rfl⟩, hF⟩ := SL.aw_out h15
        have hB5 : Below w.heap.size w w5 := hBW.ch2 hG.below'
        have hFin := Lib.hid (HP.out a5 _ _ rfl hB5 hl)
        clear h15 hbd hd hG hl hF
        go_wp2_with fail
        refine bodyPost_ret (v := .tuple #[.slice a5 (M + 1) (M + 1), .bool true, .int .i64 0]) (by simp [results, Tryz.results36, go_sem, *]) rfl hFin.out
  · have h2 : (E != 0) = true := by simpa using h0
    have hC2 := fun w1 h => (hC w1 h).mono fun e w' hh => hh.1 h0
    have hJ : JB = false := by rw [hb]; simp [h0]
    subst hJ
    simp only [Bool.false_eq_true, false_and, if_false] at ho
    subst ho
    have HP := Lib.hid hP.out
    obtain ⟨ware, lim, byr, a, cap, ps⟩ := c
    simp only [Cs.v] at *
    have hB0 := one_alloc w (Obj.cells #[.string ware, .int .i64 lim, .int .i64 byr, .slice a ps.length cap] 24)
    have hbx := hc.below hB0
    clear h0 hz hz2 hC hP hb
    go_enter Tryz.func36, Tryz.ntmps36
    go_wp2_with (go_at_call 67; (with_reducible refine (hC2 _ hbx).mono ?_); rintro e w1 ⟨t, rfl, hb1⟩)
    have hBE := hB0.ch2 hb1
    refine bodyPost_ret (v := .tuple #[.slice none 0 0, .bool false, .int .i64 E]) (by simp [results, Tryz.results36, go_sem, *]) rfl (HP.out none 0 _ _ rfl ?_ (IntsAt.nilAt _) (Nat.le_refl _))
    (repeat (first | (with_reducible exact hBE) | ((with_reducible refine Below.setCell ?_ ?_ _); rotate_left; focus (first | omega | (simp; done) | (simp; omega))) | ((with_reducible refine Below.alloc ?_ ?_ _); rotate_left; focus (first | omega | (simp; done) | (simp; omega)))))
end Go.Proofs.YtodkbfbbpfghiaaGreat
