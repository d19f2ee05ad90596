/-
  Lemmas and walks for the laws on bounds and their sums; the parts' own heads say what each proves, for every input.
-/
import Derived.Test.YtlkcfohmoeadbaaGreatPk02
import Derived.Lib.SlKeysI
import Derived.Test.YtlkcfohmoeadbaaGreatPk05
import Derived.Test.YtlkcfohmoeadbaaGreatPk12
import Derived.Maps.OwnOps
import Derived.Maps.OwnSet
import Derived.WalkArith
import Derived.Test.YtlkcfohmoeadbaaGreatPk06
import Derived.Test.YtlkcfohmoeadbaaGreatPk03
set_option linter.unusedSimpArgs false
set_option linter.unusedVariables false
set_option linter.unnecessarySimpa false
/-
  Ascending lists of record numbers, each once: as data, and as the keys of a map.
-/
namespace Go.Proofs.YtlkcfohmoeadbaaGreat
open Go.Maps

/-- An ascending list with a number, once. -/
def insI (n : Int) : List Int → List Int
  | [] => [n]
  | x :: l => if x < n then x :: insI n l else if x = n then x :: l else n :: x :: l
def Asc (l : List Int) : Prop := l.Pairwise (· < ·)

theorem mem_insI {n y : Int} : ∀ {l : List Int}, y ∈ insI n l ↔ y = n ∨ y ∈ l
  | [] => by simp [insI]
  | x :: l => by
    simp only [insI]
    split
    · simp only [List.mem_cons, mem_insI (l := l)]
      constructor
      · rintro (h | h | h) <;> simp [h]
      · rintro (h | h | h) <;> simp [h]
    · split
      · rename_i h; subst h; simp
      · simp
theorem Asc.insI {n : Int} : ∀ {l : List Int}, Asc l → Asc (insI n l)
  | [], _ => by simp [Asc, YtlkcfohmoeadbaaGreat.insI]
  | x :: l, h => by
    have h1 := List.pairwise_cons.1 h
    simp only [YtlkcfohmoeadbaaGreat.insI]
    split
    · rename_i hx
      refine List.pairwise_cons.2 ⟨fun y hy => ?_, Asc.insI h1.2⟩
      rcases mem_insI.1 hy with rfl | hy
      · exact hx
      · exact h1.1 y hy
    · split
      · exact h
      · rename_i h2 h3
        refine List.pairwise_cons.2 ⟨fun y hy => ?_, h⟩
        rcases List.mem_cons.1 hy with rfl | hy
        · omega
        · have := h1.1 y hy; omega

/-- The record numbers of bounds, ascending, each once; 0 is none. -/
def idsL (bs : List Bd) : List Int := bs.foldl (fun l b => if b.bid = 0 then l else insI b.bid l) []
theorem idsL_go (bs : List Bd) : ∀ l : List Int, Asc l → Asc (bs.foldl (fun l b => if b.bid = 0 then l else insI b.bid l) l) ∧ ∀ x, x ∈ bs.foldl (fun l b => if b.bid = 0 then l else insI b.bid l) l ↔ x ∈ l ∨ (x ≠ 0 ∧ ∃ b ∈ bs, b.bid = x) := by
  induction bs with
  | nil => intro l h; exact ⟨h, by simp⟩
  | cons b bs ih =>
    intro l h
    simp only [List.foldl_cons]
    split
    · rename_i h0
      obtain ⟨h1, h2⟩ := ih l h
      refine ⟨h1, fun x => ?_⟩
      rw [h2]
      constructor
      · rintro (h | ⟨h, c, hc, rfl⟩)
        · exact .inl h
        · exact .inr ⟨h, c, by simp [hc], rfl⟩
      · rintro (h | ⟨h, c, hc, rfl⟩)
        · exact .inl h
        · rcases List.mem_cons.1 hc with rfl | hc
          · exact absurd h0 h
          · exact .inr ⟨h, c, hc, rfl⟩
    · rename_i h0
      obtain ⟨h1, h2⟩ := ih _ (h.insI (n := b.bid))
      refine ⟨h1, fun x => ?_⟩
      rw [h2, mem_insI]
      constructor
      · rintro ((h | h) | ⟨h, c, hc, rfl⟩)
        · subst h; exact .inr ⟨h0, b, by simp, rfl⟩
        · exact .inl h
        · exact .inr ⟨h, c, by simp [hc], rfl⟩
      · rintro (h | ⟨h, c, hc, rfl⟩)
        · exact .inl (.inr h)
        · rcases List.mem_cons.1 hc with rfl | hc
          · exact .inl (.inl rfl)
          · exact .inr ⟨h, c, hc, rfl⟩
theorem idsL_asc (bs : List Bd) : Asc (idsL bs) := (idsL_go bs [] (by simp [Asc])).1
theorem mem_idsL {bs : List Bd} {x : Int} : x ∈ idsL bs ↔ x ≠ 0 ∧ ∃ b ∈ bs, b.bid = x := by
  have := (idsL_go bs [] (by simp [Asc])).2 x
  unfold idsL
  simpa using this

theorem Asc.nodup {l : List Int} (h : Asc l) : l.Nodup := h.imp (fun {a b} (h : a < b) => by omega)
theorem Asc.sort {l : List Int} (h : Asc l) : l.mergeSort leI = l := by
  apply List.mergeSort_of_pairwise
  refine h.imp (fun {a b} (h : a < b) => ?_)
  simp [leI]; omega

/-- The keys' datum. -/
def bidsD (bs : List Bd) : DataW Unit := bs.foldl (fun D b => D.put (.int .i64 b.bid) (.lit (.bool true))) (.map [])
theorem bidsD_has (bs : List Bd) : ∀ (D : DataW Unit), IsMap D → IsMap (bs.foldl (fun D b => D.put (.int .i64 b.bid) (.lit (.bool true))) D) ∧ ∀ x : Int, has (bs.foldl (fun D b => D.put (.int .i64 b.bid) (.lit (.bool true))) D) (.int .i64 x) = true ↔ has D (.int .i64 x) = true ∨ ∃ b ∈ bs, b.bid = x := by
  induction bs with
  | nil => intro D h; exact ⟨h, by simp⟩
  | cons b bs ih =>
    intro D h
    obtain ⟨h1, h2⟩ := ih (D.put (.int .i64 b.bid) (.lit (.bool true))) (h.put _ _)
    refine ⟨h1, fun x => ?_⟩
    simp only [List.foldl_cons]
    rw [h2]
    by_cases e : b.bid = x
    · subst e
      rw [has_put_same h (show WideAt.IsKeyLit (.int .i64 b.bid) from trivial)]
      simp
    · rw [has_put_other (fun h => e (by injection h with _ h; exact h.symm))]
      simp [e]
theorem bidsD_del_has (bs : List Bd) (x : Int) : has ((bidsD bs).del (.int .i64 0)) (.int .i64 x) = true ↔ x ∈ idsL bs := by
  rw [mem_idsL]
  by_cases e : x = 0
  · subst e; rw [has_del_same]; simp
  · rw [has_del_other (fun h => e (by injection h))]
    have h := (bidsD_has bs (.map []) isMap_empty).2 x
    have h0 : has (.map [] : DataW Unit) (.int .i64 x) = false := rfl
    rw [h0] at h
    unfold bidsD
    rw [h]
    simp [e]
theorem bidsD_snoc (bs : List Bd) (b : Bd) : bidsD (bs ++ [b]) = (bidsD bs).put (.int .i64 b.bid) (.lit (.bool true)) := by simp [bidsD]
theorem idsL_len (bs : List Bd) : (idsL bs).length ≤ bs.length := by
  have : ∀ (bs : List Bd) (l : List Int), (bs.foldl (fun l b => if b.bid = 0 then l else insI b.bid l) l).length ≤ l.length + bs.length := by
    intro bs
    induction bs with
    | nil => intro l; simp
    | cons b bs ih =>
      intro l
      simp only [List.foldl_cons, List.length_cons]
      split
      · have := ih l; omega
      · have := ih (insI b.bid l)
        have hi : ∀ (n : Int) (l : List Int), (insI n l).length ≤ l.length + 1 := by
          intro n l
          induction l with
          | nil => simp [insI]
          | cons x l ih => simp only [insI]; split <;> (try split) <;> simp_all
        have := hi b.bid l
        omega
  simpa [idsL] using this bs []
end Go.Proofs.YtlkcfohmoeadbaaGreat

/-
  Gauge, walked: idsOf.
-/
namespace Go.Proofs.YtlkcfohmoeadbaaGreat
open Go.RowKit Go.Shelf Go.Maps
set_option maxHeartbeats 1000000
set_option maxRecDepth 100000

theorem gKeys (mb : Option Nat) (W : World) : Calls Tryz.prog 77 #[.map mb] W fun e w' => e = .returned (.func (.func 87) #[] #[.pointer (some ⟨W.heap.size, 0, none⟩)]) ∧ w' = W.alloc (.cells #[.map mb] 97) :=
  (callsIn_wide (n := 5)).1 (AnyZI.keys_in Tryz.keysA Fence.wide 5 trivial rfl mb W)

theorem gsortsA (m : Nat) : AnyZI.SortsIn Tryz.prog Tryz.sortedA_ren Fence.wide m :=
  ⟨fun blk off cap ss W hH hblk hsz => callsIn_wide.2 (AnyM.slices_Sort_int Tryz.sortA blk off cap ss W hH hblk hsz),
   fun p cap W => callsIn_wide.2 (AnyM.slices_Sort_int_none Tryz.sortA p cap W)⟩

theorem gSorted (b nn B : Nat) (D0 : DataW Unit) (R : Value → Option (DataW Unit × List MemPlace)) (W : World) (hown : W.ownsMap Tryz.prog 3 R b nn D0) (hmax : Maps.size D0 ≤ maxLen) (hbytes : Maps.size D0 * 8 ≤ 140737488355328) (hB : B < W.heap.size) (hc : W.cell? ⟨B, 0, none⟩ = some (.map (some b))) :
    Calls Tryz.prog 76 #[.func (.func 87) #[] #[.pointer (some ⟨B, 0, none⟩)]] W fun e w' => ∃ (v : Value) (ss : List Int), e = .returned v ∧ ss.Perm (intKeys D0) ∧
      w'.ownsRow W.heap.size 3 1 v ss.length ((ss.mergeSort (fun x y => decide (x ≤ y))).map encZ) ∧ Below W.heap.size W w' := by
  have hseq : SeqGives Fence.wide 2 Tryz.prog 87 #[.pointer (some ⟨B, 0, none⟩)] encZ (fun ss => ss.Perm (intKeys D0)) (Maps.size D0) W :=
    AnyZI.keys_gives (ρ := Tryz.keysA_ren) { Tryz.keysA with } Fence.wide _ trivial rfl (by omega) B b nn D0 _ hB hc hown
  refine ((callsIn_wide (n := 5)).1 (AnyZI.sorted_in Tryz.sortedA Fence.wide 5 trivial trivial trivial trivial rfl (by omega) (gsortsA _) (enters_of Tryz.func86 (by kernel_rfl) rfl) 87 #[.pointer (some ⟨B, 0, none⟩)] trivial (enters_of Tryz.func87 (by kernel_rfl) rfl) _ _ hmax hbytes _ hseq)).mono ?_
  rintro e w' ⟨v, ss, rfl, h1, h2, _, h4⟩
  exact ⟨v, ss, rfl, h1, h2, h4⟩

theorem glawI : Keyed Tryz.prog 3 := int_keyed Tryz.underlying3

theorem gidsOf_any (a : Option Addr) (n cap : Nat) (bs : List Bd) (w : World) (hb : BdsAt w a n cap bs) (hs : bs.length ≤ 100000) (hw : ∀ b ∈ bs, 0 ≤ b.bid ∧ b.bid ≤ 1000000) :
    Calls Tryz.prog 50 #[.slice a n cap] w fun e w' => ∃ v, e = .returned v ∧ w'.ownsRow w.heap.size 3 1 v (idsL bs).length ((idsL bs).map (.int .i64)) ∧ Below w.heap.size w w' := by
  obtain rfl := hb.len
  have hmm := @run_makeMap Tryz.prog
  go_enter Tryz.func50, Tryz.ntmps50
  go_wp2_with fail
  go_loopw [9] (fun i wr => ∃ k : Nat, k ≤ bs.length ∧ i = .int .i64 k ∧ Below w.heap.size w wr ∧ wr.ownsMap Tryz.prog 3 (plainElem Tryz.prog 4) w.heap.size k (bidsD (bs.take k))) (fun i _ => bs.length - (intOf i).toNat)
  case atStart => exact ⟨0, Nat.zero_le _, rfl, by ((repeat (first | assumption | exact Below.refl _ _ | refine Below.alloc ?_ ?_ _ | refine Below.setCell ?_ ?_ _ | refine Below.drew ?_ | refine belowN ?_ | refine Below.up ?_ (by assumption) ?_)) <;> (first | assumption | omega | (simp; done) | (simp; omega))), World.ownsMap_made _ _ _ _⟩
  case round =>
    obtain ⟨k, hk, rfl, hB, hown⟩ := hrel
    have hlt0 := hown.lt
    by_cases hlt : k < bs.length
    · obtain ⟨b, off, rfl, hbl, d0, d1, d2, d3⟩ := (hb.below hB).get hlt
      have hx := hw (bs.getD k default) (by rw [List.getD_eq_getElem?_getD, List.getElem?_eq_getElem hlt]; exact List.getElem_mem _)
      have Hs := Lib.hid (show bidsD (bs.take (k + 1)) = (bidsD (bs.take k)).put (.int .i64 (bs.getD k default).bid) (.lit (.bool true)) by
        rw [List.take_succ_eq_append_getElem hlt, bidsD_snoc]; simp [List.getD_eq_getElem?_getD, List.getElem?_eq_getElem hlt])
      generalize bs.getD k default = x at *
      generalize bidsD (bs.take k) = D at *
      obtain ⟨x0, x1⟩ := hx
      have hkey : keyOf Tryz.prog 3 (.int .i64 x.bid) = some (.int .i64 x.bid) := keyOf_int_mk Tryz.underlying3 (WalkArith.wf_i64 (by omega))
      have Hkey := Lib.hid hkey
      clear hkey
      go_wp2_with (at_mapUpdate; refine wpList_mapUpdate_own _ rfl _ _ _ 97 rfl 3 4 glawI Tryz.underlying97 _ w.heap.size k _ rfl (hown.alloc _) (by unfold maxLen; omega) _ _ _ rfl rfl Hkey.out _ [] (plainElem_bool Tryz.underlying4 true) ?_; intro w1 hown1 hgrow1)
      go_roundw
      case rel => exact ⟨k + 1, by omega, by go_num, (hB.alloc (by omega) _).grown hgrow1 (by simp; omega) (by simp), by rw [Hs.out]; exact hown1⟩
      case measure => simp [intOf]; omega
    · have hkey : keyOf Tryz.prog 3 (.int .i64 0) = some (.int .i64 0) := keyOf_int_mk Tryz.underlying3 (WalkArith.wf_i64 (by omega))
      have Hkey := Lib.hid hkey
      clear hkey
      rw [List.take_of_length_le (by omega)] at hown
      have Hperm := Lib.hid (fun (w' : World) (b n : Nat) (h : w'.ownsMap Tryz.prog 3 (plainElem Tryz.prog 4) b n ((bidsD bs).del (.int .i64 0))) =>
        CollectedI.perm (left := fun _ => false) (ss := idsL bs) ⟨(idsL_asc bs).nodup, fun x => by rw [bidsD_del_has]; simp⟩ h glawI Tryz.underlying3 (fun _ => rfl))
      go_wp2_with (first
        | (at_delete; refine wpList_delete_own _ rfl _ _ 97 3 rfl 4 glawI Tryz.underlying97 _ w.heap.size k _ rfl hown _ _ rfl Hkey.out ?_; intro w1 hown1 hturn1)
        | (go_at_call 77; refine (gKeys _ _).mono ?_; rintro e w2 ⟨rfl, rfl⟩)
        | (go_at_call 76; refine (gSorted w.heap.size k w1.heap.size _ _ _ (hown1.alloc _) (by have := hown1.size_le; unfold maxLen; omega) (by have := hown1.size_le; omega) (by simp) (by simp [go_sem])).mono ?_; rintro e w3 ⟨v, ss, rfl, hp, ho, hb3⟩))
      go_ret
      have hss : ss.mergeSort leI = idsL bs := by
        rw [← (idsL_asc bs).sort]
        exact mergeSort_of_perm_i (hp.trans (Hperm.out _ _ _ hown1).symm)
      have hB1 : Below w.heap.size w w1 := hB.grown hturn1.grown (by omega) (by simp)
      have hl : ss.length = (idsL bs).length := by rw [← hss, List.length_mergeSort]
      have ho' := ho
      rw [show ss.mergeSort (fun x y => decide (x ≤ y)) = idsL bs from hss, hl] at ho'
      refine ⟨v, rfl, SL.row_base ho' (by have := hB1.size; simp; omega), (hB1.alloc hB1.size _).trans (hb3.mono (by have := hB1.size; simp; omega))⟩
end Go.Proofs.YtlkcfohmoeadbaaGreat

/-
  Gauge, walked: the library's Backward on ints.
-/
namespace Go.Proofs.YtlkcfohmoeadbaaGreat
open Go.RowKit Go.Shelf
set_option maxHeartbeats 1000000
set_option maxRecDepth 100000

theorem gback_any (a : Option Addr) (n cap : Nat) (w : World) : Calls Tryz.prog 82 #[.slice a n cap] w fun e w' => e = .returned (.func (.func 89) #[] #[.pointer (some ⟨w.heap.size, 0, none⟩)]) ∧ w' = w.alloc (.cells #[.slice a n cap] 27) := by
  have hmf := makeFunc_run
  go_enter Tryz.func82, Tryz.ntmps82
  go_wp2
  go_ret
  exact ⟨rfl, rfl⟩

theorem gback1_any (a : Option Addr) (n cap : Nat) (xs : List Int) (BX l : Nat) (J : Nat → World → Prop) (W : World) (hs : xs.length ≤ 100000)
    (hJI : ∀ k W, J k W → W.cell? ⟨BX, 0, none⟩ = some (.slice a n cap) ∧ IntsAt W a n cap xs) (h0 : J xs.length W)
    (hy : ∀ (k : Nat) (W1 : World), k < xs.length → J (k + 1) W1 → YieldAt Fence.wide 0 Tryz.prog l #[.int .i64 k, .int .i64 (xs.getD k 0)] W1 fun e W' => e = .returned (.bool true) ∧ J k W') :
    CallsIn Fence.wide 0 Tryz.prog 89 #[.func (.yield l) #[] #[], .pointer (some ⟨BX, 0, none⟩)] W fun e W' => (∃ v, e = .returned v) ∧ J 0 W' := by
  refine callsIn_of_wp Tryz.func89 rfl trivial ?_
  simp only [Tryz.ntmps89, List.size_toArray, List.length_cons, List.length_nil, Nat.reduceAdd, Nat.reduceSub, Array.replicate_succ, Array.replicate_zero, List.push_toArray, List.append_toArray, List.nil_append, List.cons_append]
  obtain ⟨c0, hx0⟩ := hJI _ _ h0
  obtain rfl := hx0.len
  have hwr : IntKind.i64.wrap ((xs.length : Int) - 1) = (xs.length : Int) - 1 := IntWalk.i64_in _ (by omega)
  gi_wp2_with fail
  gi_loopw [3] (fun i wr => ∃ k : Nat, k ≤ xs.length ∧ i = .int .i64 ((k : Int) - 1) ∧ J k wr) (fun i _ => ((intOf i) + 1).toNat)
  case atStart => exact ⟨xs.length, Nat.le_refl _, rfl, h0⟩
  case round =>
    obtain ⟨k, hk, rfl, hJ⟩ := hrel
    cases k with
    | zero =>
      gi_wp2_with fail
      go_end0
      exact ⟨⟨_, rfl⟩, hJ⟩
    | succ m =>
      have hm : ((m + 1 : Nat) : Int) - 1 = m := by omega
      have HY := Lib.hid (hy m _ (by omega) hJ)
      obtain ⟨c1, hx1⟩ := hJI _ _ hJ
      obtain ⟨b, off, rfl, hbl, d0⟩ := hx1.get (i := m) (by omega)
      generalize xs.getD m 0 = x at *
      rw [hm]
      have hnn : (0 : Int) ≤ m := by omega
      have hwm : IntKind.i64.wrap ((m : Int) - 1) = (m : Int) - 1 := IntWalk.i64_in _ (by omega)
      clear hm hJI hwr c0 hx0
      obtain ⟨fn, tmps, assign, body, hyy, hR⟩ := HY.out
      have HR := Lib.hid hR
      clear hR
      gi_wp2
      refine ⟨rfl, HR.out.mono ?_⟩
      rintro e W3 ⟨rfl, hJ3⟩
      gi_wp2
      go_roundw
      case rel => exact ⟨m, by omega, rfl, hJ3⟩
      case measure => simp [intOf]
end Go.Proofs.YtlkcfohmoeadbaaGreat

/-
  What stays where only blocks that hold no cells are written.
-/
namespace Go.Proofs.YtlkcfohmoeadbaaGreat
open Go.RowKit
/-- All blocks of cells stay as they are. -/
structure KeepC (W W' : World) : Prop where
  size : W.heap.size ≤ W'.heap.size
  cells : ∀ (k : Nat) (cs : Array Value) (t : TypeId) (f : Nat × Nat), W.heap[k]? = some (Obj.cells cs t f) → W'.heap[k]? = some (Obj.cells cs t f)
theorem KeepC.of_grown {W W' : World} {row : Option Nat} (hg : W.grownBy W' row) (hr : ∀ r, row = some r → ∃ o : Obj, W.heap[r]? = some o ∧ o.isCells = false) : KeepC W W' := by
  refine ⟨hg.size, fun k cs t f h => ?_⟩
  rw [hg.block k (Array.getElem?_eq_some_iff.1 h).1 (fun e => ?_)]
  · exact h
  · obtain ⟨o, ho, hc⟩ := hr k e.symm
    rw [h] at ho; cases ho; cases hc
theorem KeepC.of_below {W W' : World} (h : Below W.heap.size W W') : KeepC W W' :=
  ⟨h.size, fun k _ _ _ hk => (h.block k (Array.getElem?_eq_some_iff.1 hk).1).trans hk⟩
theorem KeepC.cell {W W' : World} (h : KeepC W W') {b o : Nat} {v : Value} (hc : W.cell? ⟨b, o, none⟩ = some v) : W'.cell? ⟨b, o, none⟩ = some v := by
  have hb : ∃ cs t f, W.heap[b]? = some (.cells cs t f) := by
    unfold World.cell? at hc
    simp only at hc
    cases hh : W.heap[b]? with
    | none => simp [hh] at hc
    | some ob => cases ob <;> simp [hh] at hc; exact ⟨_, _, _, rfl⟩
  obtain ⟨cs, t, f, hb⟩ := hb
  rw [World.cell?_of_block (w := W) ((h.cells _ _ _ _ hb).trans hb.symm)]
  exact hc
theorem BdsAt.keepC {w w' : World} {a : Option Addr} {n cap : Nat} {bs : List Bd} (h : BdsAt w a n cap bs) (hk : KeepC w w') : BdsAt w' a n cap bs := by
  refine ⟨h.len, h.small, h.nil, fun x hx => ?_⟩
  obtain ⟨h1, h2, h3⟩ := h.at_ x hx
  refine ⟨h1, Nat.lt_of_lt_of_le h2 hk.size, fun i hi => ?_⟩
  obtain ⟨q1, q2, q3, q4⟩ := h3 i hi
  exact ⟨hk.cell q1, hk.cell q2, hk.cell q3, hk.cell q4⟩
theorem row_keepC {w w' : World} {base : Nat} {t : TypeId} {size n : Nat} {v : Value} {xs : List Value} (h : w.ownsRow base t size v n xs) (hk : KeepC w w') : w'.ownsRow base t size v n xs := by
  obtain ⟨hl, ⟨hv, hn⟩ | ⟨g, cap', cur, hv, hbg, hg, hr⟩⟩ := h
  · exact ⟨hl, .inl ⟨hv, hn⟩⟩
  · exact ⟨hl, .inr ⟨g, cap', cur, hv, hbg, hk.cells _ _ _ _ hg, hr⟩⟩

/-- A callee's contract, in a round of a range over a function. -/
theorem inR {l n : Nat} {P : Program} {f : FuncId} {args : Array Value} {w : World} {R : Ending → World → Prop} (h : Calls P f args w R) : CallsIn (Fence.wide.inRound l) n P f args w R := CallsIn.inRound l (callsIn_wide.2 h)

/-- append, in a round of a range over a function. -/
theorem wpListIn_app {P : Program} {w : World} {l : Nat} {ops : Array Oper} {rest : List Oper} {o : Oper} {a : Act} {Q : Exit → Act → World → Prop} {t e : TypeId} {z : Value} {size bytes : Nat} (T : Elem P t e z size bytes)
    (hgd : o.guard = none) (s x : Operand) (ho : o.op = .call { callee := .builtin .append, args := #[s, x], argTypes := #[t, t] })
    {base : Nat} {v : Value} {n : Nat} {xs : List Value} (hown : w.ownsRow base e size v n xs) (hs : a.eval s = v)
    {sa : Option Addr} {m c : Nat} {news : List Value} (hx : a.eval x = .slice sa m c) (hsrc : RowAt w sa c news) (hl : news.length = m * size) (h1 : ∀ u ∈ news, u.oneCell' = true)
    (h63 : n + m ≤ maxLen) (hbytes : (n + m) * bytes ≤ 140737488355328) (hbase : base ≤ w.heap.size)
    (h : ∀ v' w', w'.ownsRow base e size v' (n + m) (xs ++ news) → w.grownBy w' v.ownBlock → Below base w w' → (v' = .slice none 0 0 ↔ v = .slice none 0 0 ∧ m = 0) → (v'.ownBlock = v.ownBlock ∨ v'.ownBlock = some w.heap.size) → wpListIn (Fence.wide.inRound l) 0 P ops Q rest (a.put o.dst v') w') : wpListIn (Fence.wide.inRound l) 0 P ops Q (o :: rest) a w :=
  wpListIn_plain hgd fun _ hK => SLF.wpIn_of_wp (ro := some l) (by rw [ho]; intro c h; cases h) (wp_app T s x ho hown hs hx hsrc hl h1 h63 hbytes hbase fun v' w' k1 k2 k3 k4 k5 => hK _ _ (h v' w' k1 k2 k3 k4 k5))
end Go.Proofs.YtlkcfohmoeadbaaGreat

/-
  The library's Reverse on ints that the call owns.
-/
namespace Go.Proofs.YtlkcfohmoeadbaaGreat
open Go.RowKit Go.Shelf Go.Sort

theorem take_putCells_i (cur : Array Value) (ts : List Int) (h : ts.length ≤ cur.size) : (putCells (Value.int .i64) 0 ts.toArray cur).toList.take ts.length = ts.map (Value.int .i64) := by
  apply List.ext_getElem?
  intro j
  by_cases hj : j < ts.length
  · rw [List.getElem?_take_of_lt hj, Array.getElem?_toList]
    have hc : j < cur.size := by omega
    simp only [putCells, Array.getElem?_mapIdx, Array.getElem?_eq_getElem hc, Option.map_some, Nat.zero_le, true_and, Nat.zero_add]
    rw [if_pos (by simpa using hj)]
    simp [hj]
  · rw [List.getElem?_eq_none (by simp; omega), List.getElem?_eq_none (by simp; omega)]

theorem greverse_any (v : Value) (n base : Nat) (xs : List Int) (w : World) (h : w.ownsRow base 3 1 v n (xs.map (.int .i64))) (hs : xs.length ≤ 100000) :
    Calls Tryz.prog 84 #[v] w fun e w' => e = .returned (.tuple #[]) ∧ w'.ownsRow base 3 1 v n (xs.reverse.map (.int .i64)) ∧ SL.Chg v.ownBlock.toList w w' := by
  obtain ⟨hl, ⟨rfl, hn⟩ | ⟨g, cap, cur, rfl, hbg, hg, h1, h2, h3, h4⟩⟩ := h
  · subst hn
    simp at hl
    subst hl
    refine (Any.slices_Reverse_int_empty Tryz.reverseA none 0 w).mono ?_
    rintro e w' ⟨rfl, rfl⟩
    exact ⟨rfl, World.ownsRow_nil _ _ _ _, .refl _ _⟩
  · have hn : xs.length = n := by simpa using hl
    subst hn
    simp only [Nat.mul_one] at h3 h4
    have hH : Holds (Value.int .i64) w g 0 xs.toArray := by
      intro j hj
      have hj' : j < xs.length := by simpa using hj
      refine ⟨?_, by simp [World.frozen?, hg]⟩
      have q : (cur.toList.take xs.length)[j]? = (xs.map (Value.int .i64))[j]? := by rw [h4]
      rw [List.getElem?_take_of_lt hj'] at q
      rw [Nat.zero_add, (SL.cells_of hg).1 j, ← Array.getElem?_toList, q]
      simp [hj']
    refine (Any.slices_Reverse_int Tryz.reverseA g 0 cap xs w hH (by omega)).mono ?_
    rintro e w' ⟨rfl, q, rfl⟩
    have hgl : g < w.heap.size := (Array.getElem?_eq_some_iff.1 hg).1
    have hheap : (putRow (Value.int .i64) (Sort.ahead w q) g 0 xs.reverse.toArray).heap[g]? = some (.cells (putCells (Value.int .i64) 0 xs.reverse.toArray cur) 3 (0, 0)) := by
      simp [putRow, mapBlock, Sort.ahead, Array.getElem?_modify, hg, onCells]
    refine ⟨rfl, ⟨by simp, .inr ⟨g, cap, _, rfl, hbg, hheap, h1, h2, by simp [putCells, h3], ?_⟩⟩, ⟨rfl, rfl, rfl, by simp [putRow, mapBlock, Sort.ahead], fun k hk hne => ?_⟩⟩
    · have := take_putCells_i cur xs.reverse (by simp; omega)
      simpa using this
    · have hgk : g ≠ k := fun e => hne (by simp [Value.ownBlock, e])
      simp [putRow, mapBlock, Sort.ahead, Array.getElem?_modify, hgk]
end Go.Proofs.YtlkcfohmoeadbaaGreat
