/-
  Lemmas and walks for the laws on roads and boards: what each function of the program answers, for every input.
-/
import Derived.Test.YtodkbfbbpfghiaaGreatPc13
import Derived.Test.YtodkbfbbpfghiaaGreatPc09
import Derived.Maps.OwnOps
import Derived.WalkArith
import Derived.Test.YtodkbfbbpfghiaaGreatPc14
import Derived.Test.YtodkbfbbpfghiaaGreatPc07
set_option linter.unusedSimpArgs false
set_option linter.unusedVariables false
set_option linter.unnecessarySimpa false
namespace Go.Proofs.YtodkbfbbpfghiaaGreat
open Go.RowKit Go.Shelf Go.Maps
set_option maxHeartbeats 4000000
set_option maxRecDepth 100000
def setD (xs : List Int) : DataW Unit := bidsD (xs.map fun x => (⟨0, 0, 0, x⟩ : Bd))
theorem setD_snoc (xs : List Int) (x : Int) : setD (xs ++ [x]) = (setD xs).put (.int .i64 x) (.lit (.bool true)) := by unfold setD; rw [List.map_append]; exact bidsD_snoc _ _
theorem setD_has (xs : List Int) (x : Int) : has (setD xs) (.int .i64 x) = true ↔ x ∈ xs := by
  have h := (bidsD_has (xs.map fun x => (⟨0, 0, 0, x⟩ : Bd)) (.map []) isMap_empty).2 x
  have h0 : has (.map [] : DataW Unit) (.int .i64 x) = false := rfl
  rw [h0] at h
  unfold setD bidsD
  rw [h]
  constructor
  · rintro (h | ⟨b, hb, rfl⟩)
    · cases h
    · obtain ⟨y, hy, rfl⟩ := List.mem_map.1 hb
      exact hy
  · intro hx
    exact .inr ⟨_, List.mem_map.2 ⟨x, hx, rfl⟩, rfl⟩
theorem wKeys (mb : Option Nat) (W : World) : Calls Tryz.prog 159 #[.map mb] W fun e w' => e = .returned (.func (.func 177) #[] #[.pointer (some ⟨W.heap.size, 0, none⟩)]) ∧ w' = W.alloc (.cells #[.map mb] 116) :=
  (callsIn_wide (n := 5)).1 (AnyZI.keys_in Tryz.keysA Fence.wide 5 trivial rfl mb W)
theorem wsortsA (m : Nat) : AnyZI.SortsIn Tryz.prog Tryz.sortedA_ren Fence.wide m :=
  ⟨fun blk off cap ss W hH hblk hsz => callsIn_wide.2 (AnyM.slices_Sort_int Tryz.sortA blk off cap ss W hH hblk hsz),
   fun p cap W => callsIn_wide.2 (AnyM.slices_Sort_int_none Tryz.sortA p cap W)⟩
theorem wSorted (b nn B : Nat) (D0 : DataW Unit) (R : Value → Option (DataW Unit × List MemPlace)) (W : World) (hown : W.ownsMap Tryz.prog 3 R b nn D0) (hmax : Maps.size D0 ≤ maxLen) (hbytes : Maps.size D0 * 8 ≤ 140737488355328) (hB : B < W.heap.size) (hc : W.cell? ⟨B, 0, none⟩ = some (.map (some b))) :
    Calls Tryz.prog 158 #[.func (.func 177) #[] #[.pointer (some ⟨B, 0, none⟩)]] W fun e w' => ∃ (v : Value) (ss : List Int), e = .returned v ∧ ss.Perm (intKeys D0) ∧
      w'.ownsRow W.heap.size 3 1 v ss.length ((ss.mergeSort (fun x y => decide (x ≤ y))).map encZ) ∧ Below W.heap.size W w' := by
  have hseq : SeqGives Fence.wide 2 Tryz.prog 177 #[.pointer (some ⟨B, 0, none⟩)] encZ (fun ss => ss.Perm (intKeys D0)) (Maps.size D0) W :=
    AnyZI.keys_gives (ρ := Tryz.keysA_ren) { Tryz.keysA with } Fence.wide _ trivial rfl (by omega) B b nn D0 _ hB hc hown
  refine ((callsIn_wide (n := 5)).1 (AnyZI.sorted_in Tryz.sortedA Fence.wide 5 trivial trivial trivial trivial rfl (by omega) (wsortsA _) (enters_of Tryz.func130 (by kernel_rfl) rfl) 177 #[.pointer (some ⟨B, 0, none⟩)] trivial (enters_of Tryz.func177 (by kernel_rfl) rfl) _ _ hmax hbytes _ hseq)).mono ?_
  rintro e w' ⟨v, ss, rfl, h1, h2, _, h4⟩
  exact ⟨v, ss, rfl, h1, h2, h4⟩
/-- What a function of ranges gives for the spans. -/
def gL (g : Int → Int → Int) (s : List Pn) : List Int := s.map fun p => g p.lo p.hi
theorem gL_take {g : Int → Int → Int} {s : List Pn} {k : Nat} (h : k < s.length) : (gL g s).take (k + 1) = (gL g s).take k ++ [g (s.getD k default).lo (s.getD k default).hi] := by
  unfold gL
  rw [List.take_succ_eq_append_getElem (by simpa using h)]
  simp [List.getD_eq_getElem?_getD, h]
theorem wends (a : Option Addr) (ca : Nat) (f : Option Addr) (cf n : Nat) (s : List Pn) (k : Nat) (g : Int → Int → Int) (w : World) (hs : SpansAt w a ca f cf n s) (hn : s.length ≤ 1000)
    (hent : ∀ args w, (callFunc k args).run Tryz.prog w = .ok (.enter k args) w)
    (hf : ∀ lo hi w, Calls Tryz.prog k #[.agg #[.int .i64 lo, .int .i64 hi]] w fun e w' => e = .returned (.int .i64 (g lo hi)) ∧ Below w.heap.size w w')
    (hg : ∀ p ∈ s, -1000000000 ≤ g p.lo p.hi ∧ g p.lo p.hi ≤ 1000000000) :
    Calls Tryz.prog 131 #[spV a ca f cf n, .func (.func k) #[] #[]] w (RowPost w 3 1 (ascOf (gL g s)).length ((ascOf (gL g s)).map (.int .i64))) := by
  obtain rfl := hs.len
  have hmm := @run_makeMap Tryz.prog
  have hgl : (gL g s).length = s.length := by simp [gL]
  unfold spV
  obtain ⟨Q, hQ⟩ : ∃ Q, RowPost w 3 1 (ascOf (gL g s)).length ((ascOf (gL g s)).map (.int .i64)) = Q := ⟨_, rfl⟩
  rw [hQ]
  have HQ := Lib.hid hQ
  have HGL := Lib.hid hgl
  clear hQ hgl
  go_enter Tryz.func131, Tryz.ntmps131
  go_wp2_with fail
  go_loopw [12] (fun i wr => ∃ j : Nat, j ≤ s.length ∧ i = .int .i64 j ∧ Below w.heap.size w wr ∧ wr.ownsMap Tryz.prog 3 (plainElem Tryz.prog 4) (w.heap.size + 1) j (setD ((gL g s).take j))) (fun i _ => s.length - (RowKit.intOf i).toNat)
  case atStart => exact ⟨0, Nat.zero_le _, rfl, by ((repeat (first | assumption | exact Below.refl _ _ | refine Below.alloc ?_ ?_ _ | refine Below.setCell ?_ ?_ _ | refine Below.drew ?_ | refine belowN ?_ | refine Below.up ?_ (by assumption) ?_)) <;> (first | assumption | omega | (simp; done) | (simp; omega))), by have := World.ownsMap_made (H := Unit) (w.alloc (Obj.cells #[.slice a s.length ca, .slice f s.length cf] 83)) Tryz.prog 3 (plainElem Tryz.prog 4); rw [World.size_alloc] at this; exact this⟩
  case round =>
    obtain ⟨j, hj, rfl, hB, hown⟩ := hrel
    have hnn : (0 : Int) ≤ j := by omega
    have hlt0 := hown.lt
    by_cases hlt : j < s.length
    · have i1 : (j : Int) < (s.length : Int) := by omega
      obtain ⟨b1, o1, b2, o2, rfl, rfl, bl1, bl2, c1, c2, c3⟩ := (hs.below hB).get hlt
      have Hs := Lib.hid (show setD ((gL g s).take (j + 1)) = _ by rw [gL_take hlt, setD_snoc])
      have hx := hg _ (Pn.mem hlt)
      generalize s.getD j default = p at *
      generalize setD ((gL g s).take j) = D at *
      have hfj := hf p.lo p.hi
      generalize g p.lo p.hi = x at *
      obtain ⟨x0, x1⟩ := hx
      have hkey : keyOf Tryz.prog 3 (.int .i64 x) = some (.int .i64 x) := keyOf_int_mk Tryz.underlying3 (WalkArith.wf_i64 (by omega))
      have Hkey := Lib.hid hkey
      clear hkey c3
      have hal := one_alloc wr (Obj.cells #[.int .i64 p.lo, .int .i64 p.hi] 33)
      go_wp2_with fail
      refine (hfj _).mono ?_
      rintro e w2 ⟨rfl, hb2⟩
      have hown2 := (hown.alloc (Obj.cells #[.int .i64 p.lo, .int .i64 p.hi] 33)).kept (below_grown hb2) (by simp)
      have hB2 : Below w.heap.size w w2 := hB.ch2 (hal.ch2 hb2)
      clear hown hb2
      go_wp2_with (at_mapUpdate; refine wpList_mapUpdate_own _ rfl _ _ _ 116 rfl 3 4 keyI Tryz.underlying116 _ (w.heap.size + 1) j _ rfl hown2 (by unfold maxLen; omega) _ _ _ rfl rfl Hkey.out _ [] (plainElem_bool Tryz.underlying4 true) ?_; intro w3 hown3 hgrow3)
      go_roundw
      case rel => exact ⟨j + 1, by omega, by go_num, hB2.grown hgrow3 hB2.size (by simp), by rw [Hs.out]; exact hown3⟩
      case measure => simp [RowKit.intOf]; omega
    · have hj2 : j = s.length := by omega
      subst hj2
      have hts : (gL g s).take s.length = gL g s := by rw [← HGL.out, List.take_length]
      rw [hts] at hown
      have Hperm := Lib.hid (CollectedI.perm (left := fun _ => false) (ss := ascOf (gL g s)) ⟨(ascOf_asc _).nodup, fun x => by rw [mem_ascOf, setD_has]; simp⟩ hown keyI Tryz.underlying3 (fun _ => rfl))
      clear hts
      go_wp2_with (first
        | (go_at_call 159; refine (wKeys _ _).mono ?_; rintro e w2 ⟨rfl, rfl⟩)
        | (go_at_call 158; refine (wSorted (w.heap.size + 1) s.length wr.heap.size _ _ _ (hown.alloc _) (by have := hown.size_le; unfold maxLen; omega) (by have := hown.size_le; omega) (by simp) (by simp [go_sem])).mono ?_; rintro e w3 ⟨v, ss, rfl, hp, ho, hb3⟩))
      rw [← HQ.out]
      have hss : (ss.mergeSort fun x y => decide (x ≤ y)) = ascOf (gL g s) := (((perm_sort ss).trans hp).trans Hperm.out.symm).eq_of_pairwise (le := (· ≤ ·)) (fun x y _ _ h1 h2 => by omega) (pw_sort ss) (ascOf_asc _).le
      have hl : ss.length = (ascOf (gL g s)).length := by rw [← hss, sort_len]
      have ho' := ho
      rw [hss, hl] at ho'
      exact ⟨v, rfl, hB.ch2 ((one_alloc wr _).ch2 hb3), SL.row_base ho' (by have := hB.size; simp; omega)⟩
end Go.Proofs.YtodkbfbbpfghiaaGreat
namespace Go.Proofs.YtodkbfbbpfghiaaGreat
open Go.RowKit Go.Shelf
set_option maxHeartbeats 4000000
set_option maxRecDepth 100000
/-- A sum, and the ranges that make it. -/
structure Bst where
  sum : Int
  a : Option Addr
  cap : Nat
  l : List (Int × Int)
instance : Inhabited Bst := ⟨⟨0, none, 0, []⟩⟩
def Bst.cs (b : Bst) : List Value := [.int .i64 b.sum, .slice b.a b.l.length b.cap]
def bsc (bs : List Bst) : List Value := bs.flatMap Bst.cs
theorem bsc_length (bs : List Bst) : (bsc bs).length = bs.length * 2 := flat_len (f := Bst.cs) (k := 2) (fun _ => rfl) bs
theorem bsc_get0 {bs : List Bst} {k : Nat} (hk : k < bs.length) : (bsc bs)[k * 2]? = some (.int .i64 (bs.getD k default).sum) := by
  have := flat_get (f := Bst.cs) (k := 2) (fun _ => rfl) bs k 0 hk (by omega)
  rw [Nat.add_zero] at this
  exact this
theorem bsc_get1 {bs : List Bst} {k : Nat} (hk : k < bs.length) : (bsc bs)[k * 2 + 1]? = some (.slice (bs.getD k default).a (bs.getD k default).l.length (bs.getD k default).cap) := by
  have := flat_get (f := Bst.cs) (k := 2) (fun _ => rfl) bs k 1 hk (by omega)
  exact this
theorem getD_setB {bs : List Bst} {i j : Nat} {b : Bst} (hi : i < bs.length) : (bs.set i b).getD j default = if i = j then b else bs.getD j default := by
  rw [List.getD_eq_getElem?_getD, List.getElem?_set]
  by_cases e : i = j
  · subst e; simp [hi]
  · simp [e]
theorem bsc_set {bs : List Bst} {k : Nat} (hk : k < bs.length) (b : Bst) : bsc (bs.set k b) = ((bsc bs).set (k * 2) (.int .i64 b.sum)).set (k * 2 + 1) (.slice b.a b.l.length b.cap) := by
  have h1 := flat_set (f := Bst.cs) (K := 2) (fun _ => rfl) (j := 0) (by omega) bs k hk (y := { (bs.getD k default) with sum := b.sum }) (v := .int .i64 b.sum) rfl
  have h2 := flat_set (f := Bst.cs) (K := 2) (fun _ => rfl) (j := 1) (by omega) (bs.set k { (bs.getD k default) with sum := b.sum }) k (by simpa using hk) (y := b) (v := .slice b.a b.l.length b.cap) (by rw [getD_setB hk, if_pos rfl]; rfl)
  rw [List.set_set] at h2
  unfold bsc
  rw [h2, h1, Nat.add_zero]
theorem bsc_made (n : Nat) : (madeCells (Value.agg #[.int .i64 0, .slice none 0 0]).cells (n * 2)).toList = bsc (List.replicate n default) := by
  apply List.ext_getElem?
  intro i
  by_cases hi : i < n * 2
  · have e : i = i / 2 * 2 + i % 2 := by omega
    have hg := flat_get (f := Bst.cs) (k := 2) (fun _ => rfl) (List.replicate n default) (i / 2) (i % 2) (by simp; omega) (by omega)
    rw [← e] at hg
    unfold bsc
    rw [hg]
    have hd : (List.replicate n (default : Bst)).getD (i / 2) default = default := by
      rw [List.getD_eq_getElem?_getD, List.getElem?_replicate]; split <;> rfl
    rw [hd]
    have h2 : i % 2 = 0 ∨ i % 2 = 1 := by omega
    simp only [madeCells, Array.toList_map, List.getElem?_map, Array.toList_range, List.getElem?_range hi, Option.map_some]
    have hc : (Value.agg #[.int .i64 0, .slice none 0 0]).cells = #[.int .i64 0, .slice none 0 0] := rfl
    rw [hc]
    rcases h2 with h | h
    · have : i % (#[Value.int .i64 0, .slice none 0 0] : Array Value).size = 0 := h
      rw [this, h]; rfl
    · have : i % (#[Value.int .i64 0, .slice none 0 0] : Array Value).size = 1 := h
      rw [this, h]; rfl
  · rw [List.getElem?_eq_none (by simp [size_madeCells]; omega), List.getElem?_eq_none (by rw [bsc_length]; simp; omega)]
theorem RowAt.recap {w : World} {a : Option Addr} {cap c2 : Nat} {vs : List Value} (h : RowAt w a cap vs) (hc : a = none → c2 = 0) : RowAt w a c2 vs := ⟨fun ha => ⟨(h.nil ha).1, hc ha⟩, h.at_⟩
/-- A best sum as it lies in a world. -/
structure BstAt (w : World) (K : Nat) (E : List Nat) (b : Bst) : Prop where
  rng : RngsAt w b.a b.l.length b.cap b.l
  room : b.l.length ≤ b.cap
  off : ∀ x, b.a = some x → x.block ∉ E
  sum : 0 ≤ b.sum ∧ b.sum ≤ 100 * K
  few : b.l.length ≤ K
theorem BstAt.zero (w : World) (K : Nat) (E : List Nat) : BstAt w K E default := ⟨⟨rfl, by decide, RowAt.nilAt w⟩, Nat.le_refl _, (fun x h => by cases h), ⟨by decide, by show (0 : Int) ≤ _; omega⟩, Nat.zero_le _⟩
theorem BstAt.chg {w w' : World} {K : Nat} {E : List Nat} {b : Bst} (h : BstAt w K E b) {F : List Nat} (hc : SL.Chg F w w') (hF : ∀ k ∈ F, k ∈ E) : BstAt w' K E b :=
  ⟨⟨h.rng.len, h.rng.small, h.rng.row.chg hc fun x hx hm => h.off x hx (hF _ hm)⟩, h.room, h.off, h.sum, h.few⟩
theorem BstAt.mono {w : World} {K K' : Nat} {E E' : List Nat} {b : Bst} (h : BstAt w K E b) (hK : K ≤ K') (hE : ∀ x, b.a = some x → x.block ∉ E → x.block ∉ E') : BstAt w K' E' b :=
  ⟨h.rng, h.room, fun x hx => hE x hx (h.off x hx), ⟨h.sum.1, by have := h.sum.2; omega⟩, Nat.le_trans h.few hK⟩
theorem BstAt.lt {w : World} {K : Nat} {E : List Nat} {b : Bst} (h : BstAt w K E b) : ∀ x, b.a = some x → x.block < w.heap.size := fun x hx => (h.rng.row.at_ x hx).2.1
def Bst.is (b : Bst) (q : Best) : Prop := b.sum = (q.1 : Nat) ∧ b.l = q.2
theorem innerS_snoc {s : List Pn} {D : Nat → Best} {h : Int} {now : Best} {L : List Int} {m : Nat} (hm : m < L.length) : innerS s D h now (L.take (m + 1)) =
    if 0 < dem s (L.getD m 0) h ∧ (innerS s D h now (L.take m)).1 < (D (before (hisL s) (L.getD m 0))).1 + dem s (L.getD m 0) h then ((D (before (hisL s) (L.getD m 0))).1 + dem s (L.getD m 0) h, (D (before (hisL s) (L.getD m 0))).2 ++ [(L.getD m 0, h)]) else innerS s D h now (L.take m) := by
  have e : L.take (m + 1) = L.take m ++ [L.getD m 0] := take_get hm
  rw [e]
  unfold innerS
  rw [List.foldl_append]
  rfl
theorem doneL_step {s : List Pn} {i : Nat} (j : Nat) : (doneL s (i + 1)).getD j (0, []) = if j = i + 1 then innerS s (fun j => (doneL s i).getD j (0, [])) ((hisL s).getD i 0) ((doneL s i).getD i (0, [])) (losL s) else (doneL s i).getD j (0, []) := by
  have hl := doneL_len s i
  show (doneL s i ++ [_]).getD j (0, []) = _
  rw [List.getD_eq_getElem?_getD]
  rcases Nat.lt_trichotomy j (i + 1) with h | h | h
  · rw [List.getElem?_append_left (by omega), if_neg (by omega)]
    rw [← List.getD_eq_getElem?_getD]
  · rw [if_pos h, List.getElem?_append_right (by omega), show j - (doneL s i).length = 0 by omega]
    rfl
  · rw [if_neg (by omega), List.getElem?_eq_none (by simp; omega), List.getD_eq_getElem?_getD, List.getElem?_eq_none (by omega)]
theorem ownsMap_stab {H : Type} {P : Program} {k : TypeId} {R : Value → Option (DataW H × List MemPlace)} {w w' : World} {b n : Nat} {D : DataW H} (h : w.ownsMap P k R b n D) (hb : w'.heap[b]? = w.heap[b]?) : w'.ownsMap P k R b n D := by
  obtain ⟨es, clock, hh, rest⟩ := h
  exact ⟨es, clock, hb.trans hh, rest⟩
theorem Bst.mem {bs : List Bst} {i : Nat} (h : i < bs.length) : bs.getD i default ∈ bs := by rw [List.getD_eq_getElem?_getD, List.getElem?_eq_getElem h]; exact List.getElem_mem _
theorem SL.Chg.newE {E F : List Nat} {a b c : World} (h : SL.Chg E a b) (k : SL.Chg F b c) (hF : ∀ n ∈ F, a.heap.size ≤ n) : SL.Chg E a c :=
  ⟨k.os.trans h.os, k.tape.trans h.tape, k.output.trans h.output, Nat.le_trans h.size k.size, fun i hi hn => (k.block i (Nat.lt_of_lt_of_le hi h.size) (fun hm => by have := hF i hm; omega)).trans (h.block i hi hn)⟩
theorem rcs_nil {l : List (Int × Int)} (h : rcs l = []) : l.length = 0 := by have := rcs_length l; rw [h] at this; simp at this; omega
theorem own_at {a : Option Addr} {x : Addr} {n c k : Nat} (hx : a = some x) (hk : x.block = k) : k ∈ (Value.slice a n c).ownBlock.toList := by rw [hx]; simp [Value.ownBlock, hk]
theorem chg_drewN {E : List Nat} {w w' : World} (h : SL.Chg E w w') (n : Nat) : SL.Chg E w (w'.drewN n) := ⟨h.os, h.tape, h.output, h.size, h.block⟩
end Go.Proofs.YtodkbfbbpfghiaaGreat
