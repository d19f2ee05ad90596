/-
  Lemmas and walks for the laws on bounds and their sums; the parts' own heads say what each proves, for every input.
-/
import Derived.Test.YtlkcfohmoeadbaaGreatPk21
import Derived.Test.YtlkcfohmoeadbaaGreatPk09
import Derived.Test.YtlkcfohmoeadbaaGreatRows
import Derived.Test.YtlkcfohmoeadbaaGreatChecked
import Derived.Test.YtlkcfohmoeadbaaGreatPk02
import Derived.ProofKit
import Derived.SizedLaws
import Derived.Lib.SmallJoins
import Derived.Deep.Slices
import Derived.Deep.Fields
import Derived.Test.YtlkcfohmoeadbaaGreatPk20
set_option linter.unusedSimpArgs false
set_option linter.unusedVariables false
set_option linter.unnecessarySimpa false
/-
  The reference's solve, Solve, walked.
-/
namespace Go.Proofs.YtlkcfohmoeadbaaGreat
open Go.RowKit Go.Shelf
set_option maxHeartbeats 1000000
set_option maxRecDepth 100000

def rsol (p : Int) (bs : List Bd) : List Int × Bool := rsettle 1000000000 bs (p + 1).toNat (List.replicate p.toNat 0)

theorem run_make_ints (w : World) (p : Int) (h1 : 1 ≤ p) (h2 : p ≤ 60) : (Instr.makeSlice 27 (.int .i64 p) (.int .i64 p)).run Tryz.prog w = .ok (.slice (some ⟨w.heap.size, 0, none⟩) p.toNat p.toNat) (w.alloc (.cells (madeCells #[.int .i64 0] p.toNat) 3)) := by
  obtain ⟨i, hi, hz, hs, hb⟩ := info_parts (show (Tryz.prog.info? 3).map (fun i => (i.zero, i.size, i.bytes)) = some (some (.int .i64 0), 1, 8) by kernel_rfl)
  have h := run_make (P := Tryz.prog) (w := w) 27 3 i _ Tryz.underlying27 hi hz .i64 .i64 p p (by omega) (Int.le_refl _) (by rw [hb]; omega) (by omega)
  rw [hs, Nat.mul_one] at h
  exact h
theorem made_row (w : World) (n base : Nat) (hb : base ≤ w.heap.size) (hn : n ≤ 100) : (w.alloc (.cells (madeCells #[.int .i64 0] n) 3)).ownsRow base 3 1 (.slice (some ⟨w.heap.size, 0, none⟩) n n) n ((List.replicate n (0 : Int)).map (.int .i64)) := by
  have h := World.ownsRow_lit (base := base) (e := 3) (size := 1) w (madeCells #[.int .i64 0] n) n hb (by unfold maxLen; omega) (by rw [size_madeCells]; omega)
  rw [toList_madeCells_one] at h
  simpa using h
theorem gi_repl (n : Nat) (j : Int) : gi (List.replicate n 0) j = 0 := by
  unfold gi
  rw [List.getD_eq_getElem?_getD, List.getElem?_replicate]
  split <;> rfl

end Go.Proofs.YtlkcfohmoeadbaaGreat

/-
  Plain laws: the reference's sums and the program's are the same, where what matters lies below what stands for nothing.
-/
namespace Go.Proofs.YtlkcfohmoeadbaaGreat

theorem gi_take {l : List Int} {P : Nat} {j : Int} (h0 : 0 ≤ j) (h1 : j.toNat < P) : gi (l.take P) j = gi l j := by
  unfold gi
  simp [List.getD_eq_getElem?_getD, List.getElem?_take, h1]
theorem take_set' {l : List Int} {P i : Nat} {v : Int} : (l.set i v).take P = (l.take P).set i v := by
  rw [List.take_set]

/-- k bounds of a pass, side by side: what is low is seen by both in the same way. -/
theorem rpass_pass {p far : Int} {bs : List Bd} {s : RL} (hl : s.r.length = 60) (hp : p ≤ 60) (hin : ∀ b ∈ bs, b.inr) (hpt : Pts p bs) (hfar : far ≤ FAR)
    (hsee : ∀ j : Int, 0 ≤ j → j < p → gi s.r j < far ∨ FAR ≤ gi s.r j) (hlow : ∀ k, k ≤ bs.length → ∀ j : Int, 0 ≤ j → j < p → gi (s.pass FAR bs k).r j < FAR → gi (s.pass FAR bs k).r j < far) :
    ∀ k, k ≤ bs.length → (rpass far bs (s.r.take p.toNat) k).1 = (s.pass FAR bs k).r.take p.toNat ∧ ((rpass far bs (s.r.take p.toNat) k).2 = true → (s.pass FAR bs k).r = s.r) ∧ ((rpass far bs (s.r.take p.toNat) k).2 = false → ∃ j : Int, 0 ≤ j ∧ j < 60 ∧ gi (s.pass FAR bs k).r j < gi s.r j)
  | 0, _ => ⟨rfl, fun _ => rfl, fun h => by simp [rpass] at h⟩
  | k + 1, hk => by
    obtain ⟨h1, h2, h3⟩ := rpass_pass hl hp hin hpt hfar hsee hlow k (by omega)
    have hm : bs.getD k default ∈ bs := by
      rw [List.getD_eq_getElem?_getD, List.getElem?_eq_getElem (by omega)]
      exact List.getElem_mem _
    have hb := hin _ hm
    have hq := hpt _ hm
    have hlen := (RL.pass_le hl hin k (by omega)).1
    have hstep := RL.step_le (k := k) hlen hb
    have hop : opens far (rpass far bs (s.r.take p.toNat) k).1 (bs.getD k default) = opens FAR (s.pass FAR bs k).r (bs.getD k default) := by
      rw [h1]
      unfold opens
      rw [gi_take hq.1 (by omega), gi_take hq.2.2.1 (by omega)]
      have hlw := hlow k (by omega) _ hq.1 hq.2.1
      congr 1
      rw [Bool.eq_iff_iff]
      simp only [decide_eq_true_eq]
      constructor <;> intro h
      · omega
      · exact hlw h
    simp only [rpass, RL.pass]
    rw [hop]
    cases ho : opens FAR (s.pass FAR bs k).r (bs.getD k default) with
    | true =>
      simp only [if_true]
      refine ⟨?_, fun h => by simp at h, fun _ => ?_⟩
      · simp only [RL.step, ho, if_true, RL.upd]
        rw [take_set', h1, gi_take hq.1 (by omega)]
      · refine ⟨(bs.getD k default).tow, hb.t0, hb.t1, ?_⟩
        have a1 := hstep.2.1 ho
        have a2 := (RL.pass_le hl hin k (by omega)).2 _ hb.t0 hb.t1
        omega
    | false =>
      simp only [Bool.false_eq_true, if_false]
      have e : ((s.pass FAR bs k).step FAR k (bs.getD k default)) = s.pass FAR bs k := by unfold RL.step; rw [if_neg (by rw [ho]; simp)]
      rw [e]
      exact ⟨h1, h2, h3⟩

theorem rsettle_settle {p far : Int} {bs : List Bd} (hp : p ≤ 60) (hin : ∀ b ∈ bs, b.inr) (hpt : Pts p bs) (hfar : far ≤ FAR) (I : RL → Prop)
    (hI : ∀ s, I s → s.r.length = 60 ∧ (∀ j : Int, 0 ≤ j → j < p → gi s.r j < far ∨ FAR ≤ gi s.r j) ∧ (∀ k, k ≤ bs.length → ∀ j : Int, 0 ≤ j → j < p → gi (s.pass FAR bs k).r j < FAR → gi (s.pass FAR bs k).r j < far) ∧ I (s.pass FAR bs bs.length)) :
    ∀ (n : Nat) (s : RL), I s → (rsettle far bs n (s.r.take p.toNat)).2 = (settle FAR bs n s).2 ∧ ((settle FAR bs n s).2 = true → (rsettle far bs n (s.r.take p.toNat)).1 = (settle FAR bs n s).1.r.take p.toNat) ∧ ((settle FAR bs n s).2 = false → (rsettle far bs n (s.r.take p.toNat)).1 = [])
  | 0, s, _ => ⟨rfl, fun h => by simp [settle] at h, fun _ => rfl⟩
  | n + 1, s, hs => by
    obtain ⟨h1, h2, h3, h4⟩ := hI s hs
    obtain ⟨a1, a2, a3⟩ := rpass_pass h1 hp hin hpt hfar h2 h3 bs.length (Nat.le_refl _)
    simp only [rsettle, settle]
    cases hf : (rpass far bs (s.r.take p.toNat) bs.length).2 with
    | true =>
      rw [if_pos rfl, if_pos (a2 hf)]
      exact ⟨rfl, fun _ => a1, fun h => by simp at h⟩
    | false =>
      have hne : ¬ (s.pass FAR bs bs.length).r = s.r := fun e => by
        obtain ⟨j, _, _, h⟩ := a3 hf
        rw [e] at h
        exact absurd h (Int.lt_irrefl _)
      rw [if_neg (by simp), if_neg hne, a1]
      exact rsettle_settle hp hin hpt hfar I hI n _ h4

theorem rsol_gsol {p : Int} {bs : List Bd} (hs : Sys p bs) (hpt : Pts p bs) : (rsol p bs).2 = okB p bs ∧ (okB p bs = true → (rsol p bs).1 = solR p bs) ∧ (okB p bs = false → (rsol p bs).1 = []) := by
  have hp := hs.p2
  have h := rsettle_settle (far := 1000000000) hp hs.inr hpt (by unfold FAR; omega) (fun s => s.r.length = 60 ∧ ∀ j : Int, 0 ≤ j → j < 60 → gi s.r j ≤ 0)
    (fun s ⟨h1, h2⟩ => ⟨h1, fun j j0 j1 => .inl (by have := h2 j j0 (by omega); omega), fun k hk j j0 j1 _ => by
      have a := (RL.pass_le h1 hs.inr k hk).2 j j0 (by omega)
      have b := h2 j j0 (by omega)
      omega, (RL.pass_le h1 hs.inr bs.length (Nat.le_refl _)).1, fun j j0 j1 => by
      have a := (RL.pass_le h1 hs.inr bs.length (Nat.le_refl _)).2 j j0 j1
      have b := h2 j j0 j1
      omega⟩) (p + 1).toNat ⟨List.replicate 60 0, List.replicate 60 (-1), 0⟩ ⟨by simp, fun j _ _ => by show gi (List.replicate 60 0) j ≤ 0; rw [gi_repl]; omega⟩
  have e : (List.replicate 60 (0 : Int)).take p.toNat = List.replicate p.toNat 0 := by rw [List.take_replicate, Nat.min_eq_left (by omega)]
  simp only [] at h
  rw [e] at h
  exact h
end Go.Proofs.YtlkcfohmoeadbaaGreat

/-
  Arguments opened: a System by value is a number of points and a slice of bounds that lies in the world.
-/
namespace Go.Proofs.YtlkcfohmoeadbaaGreat
open Go.ChangeShapes Go.WideShapes Go.ChangeAt Go.RowKit Go.Joins Go.Deep
set_option maxRecDepth 100000

theorem Tryz.own : ownKnob Tryz.prog.godebug = none := by kernel_rfl
theorem Tryz.laidOut : laidOutB Tryz.prog = true := by kernel_rfl
theorem Tryz.cellsSys : Tryz.prog.cellsOf 24 = 2 := by kernel_rfl
theorem Tryz.cellsBd : Tryz.prog.cellsOf 26 = 4 := by kernel_rfl
theorem Tryz.bytesBd : Tryz.prog.bytesOf 26 = 32 := by kernel_rfl
theorem Tryz.cellsInt : Tryz.prog.cellsOf 3 = 1 := by kernel_rfl
theorem Tryz.cellTypesSys : Tryz.prog.cellTypes Tryz.prog.depth 24 = some [3, 22] := by kernel_rfl

section
variable {H : Type} {enc : TypeId × Value → H} {P : Program} {w : World} {base : Nat} {spare : Nat → Bool} {held : Bool}
/-- A slice of structs of one-cell fields, opened (after the guides' block on structs). -/
theorem slice_fields {t e : TypeId} {fs : Array Field} {fuel : Nat} {cs : List Value} {x : DataW H × List MemPlace} (ht : P.underlying t = some (.slice e)) (he : P.underlying e = some (.struct fs))
    (hone : oneCellFields P fs = true) (hC : P.cellsOf e = fs.size) (h : DataW.trod enc P w base spare held fuel t cs = some x) :
    (cs = [.slice none 0 0] ∧ x = (.nil, [])) ∨
    ∃ (a : Addr) (len cap m : Nat) (D : Nat → DataW H) (Pl : Nat → List MemPlace), cs = [.slice (some a) len cap] ∧ len ≤ cap ∧ m = (if spare a.block then cap else len) ∧
      x = (.slice ((List.range len).map D) ((List.range (m - len)).map fun j => D (len + j)), MemPlace.row a (m * fs.size) ++ (List.range m).flatMap Pl) ∧
      ∀ i, i < m → ∀ (j : Nat) (f : Field), fs[j]? = some f → ∃ (v : Value) (y : DataW H × List MemPlace) (n : Nat), w.cell? (a.add (i * fs.size + j)) = some v ∧ DataW.trod enc P w base spare held n f.type [v] = some y := by
  rcases open_slice ht h with h0 | ⟨a, len, cap, m, n, D, Pl, hcs, _, hl, _, hmm, hx, hi⟩
  · exact .inl h0
  · refine .inr ⟨a, len, cap, m, D, Pl, hcs, hl, hmm, by rw [hC] at hx; exact hx, fun i him j f hj => ?_⟩
    obtain ⟨cs', hc, ht'⟩ := hi i him
    rw [hC] at hc
    obtain ⟨ys, n', _, _, _, hyl, hf⟩ := DataW.trod_struct he ht'
    obtain ⟨_, hcl, hat⟩ := World.cells?_some hc
    obtain ⟨ho, hk⟩ := hone_of hone j f hj
    have hjl : j < fs.size := (Array.getElem?_eq_some_iff.1 hj).1
    have hcell := hat j hjl
    have hv : cs'[j]? = some (cs'[j]'(by omega)) := List.getElem?_eq_getElem (by omega)
    have h1 := hf j f hj
    rw [ho, hk] at h1
    have hone' : (cs'.drop j).take 1 = [cs'[j]'(by omega)] := by
      rw [List.drop_eq_getElem_cons (by omega)]
      rfl
    rw [hone'] at h1
    have hys : ys[j]? = some (ys[j]'(by omega)) := List.getElem?_eq_getElem (by omega)
    exact ⟨_, _, _, by rw [← Go.Deep.add_add, hcell, hv], h1.trans hys⟩

/-- An integer's cell, read. -/
theorem int_cell {t : TypeId} {k : IntKind} {n : Nat} {v : Value} {y : DataW H × List MemPlace} (ht : P.underlying t = some (.int k)) (h : DataW.trod enc P w base spare held n t [v] = some y) : ∃ x, v = .int k x ∧ (Lit.int k x).wf = true := by
  obtain ⟨x, e0, _, wa⟩ := DataW.trod_int ht h
  simp at e0
  exact ⟨x, e0, wa⟩
end

theorem slice_block {r : Reach} {w : World} {base : Nat} {x : Value} {a : Addr} {n cap : Nat} (h : Value.okWide Tryz.prog w r base 24 (.agg #[x, .slice (some a) n cap])) : a.spot = none ∧ a.block < w.heap.size := by
  simp only [Value.okWide, Tryz.underlying24] at h
  obtain ⟨cs, he, _, ts, h1, _, h2⟩ := h
  rw [Tryz.cellTypesSys] at h1
  obtain rfl := Option.some.inj h1
  obtain rfl : #[x, .slice (some a) n cap] = cs := by simpa using he
  obtain ⟨u, hu, h3⟩ := h2 1 (.slice (some a) n cap) rfl
  obtain rfl : 22 = u := by simpa using hu
  simp only [Cell.okWide, Tryz.underlying22, Cell.ok] at h3
  obtain ⟨_, _, _, hsp, row, cells, hsh, _⟩ := h3
  refine ⟨hsp, ?_⟩
  simp only [World.shape?] at hsh
  by_cases hlt : a.block < w.heap.size
  · exact hlt
  · rw [Array.getElem?_eq_none (by omega)] at hsh
    simp at hsh

/-- A System by value. -/
theorem sys_open {H : Type} {enc : TypeId × Value → H} {W : World} {base : Nat} {v : Value} {d : DataW H} {p : List MemPlace} (hv : Value.okWide Tryz.prog W .any base 24 v)
    (h : DataW.Trod enc Tryz.prog W 0 (fun _ => true) true 24 v d p) (hs : ∀ n ∈ d.weights Tryz.prog 24, n ≤ reachBytes) :
    ∃ (pts : Int) (a : Option Addr) (n cap : Nat) (bs : List Bd), v = .agg #[.int .i64 pts, .slice a n cap] ∧ BdsAt W a n cap bs ∧ n ≤ 140737488351232 := by
  have hv0 := hv
  obtain ⟨c0, c1, y0, y1, m, rfl, rfl, rfl, h0, h1⟩ := open_agg2 Tryz.underlying24 (by kernel_rfl) Tryz.cellsSys hv h
  obtain ⟨pts, rfl, _⟩ := int_cell Tryz.underlying3 h0
  rcases slice_fields Tryz.underlying22 Tryz.underlying26 (by kernel_rfl) Tryz.cellsBd h1 with ⟨hcs, hx⟩ | ⟨a, len, cap, m', D, Pl, hcs, hl, hm, hx, hat⟩
  · simp at hcs
    subst hcs
    exact ⟨pts, none, 0, 0, [], rfl, ⟨rfl, by simp, fun _ => ⟨rfl, rfl⟩, fun x hx => by simp at hx⟩, by omega⟩
  · simp at hcs
    subst hcs
    simp only [if_true] at hm
    subst hm
    subst hx
    have hbytes : m' * 32 ≤ reachBytes := by
      have := hs ((((List.range len).map D).length + ((List.range (m' - len)).map fun j => D (len + j)).length) * Tryz.prog.bytesOf 26) (by
        simp [DataW.weights, Tryz.underlying24, DataW.weightsEach, Tryz.underlying22])
      rw [Tryz.bytesBd] at this
      simp only [List.length_map, List.length_range] at this
      omega
    unfold reachBytes at hbytes
    obtain ⟨hsp, hblk⟩ := slice_block hv0
    have hk : ∀ i, i < m' → ∀ j, j < 4 → ∃ z, W.cell? (a.add (i * 4 + j)) = some (.int .i64 z) := fun i hi j hj => by
      have key := fun (f : Field) (hf : _) (ht : f.type = 3) => hat i hi j f hf
      match j, hj with
      | 0, _ => obtain ⟨v, y, n, e1, e2⟩ := hat i hi 0 _ rfl; obtain ⟨x, rfl, _⟩ := int_cell Tryz.underlying3 e2; exact ⟨x, e1⟩
      | 1, _ => obtain ⟨v, y, n, e1, e2⟩ := hat i hi 1 _ rfl; obtain ⟨x, rfl, _⟩ := int_cell Tryz.underlying3 e2; exact ⟨x, e1⟩
      | 2, _ => obtain ⟨v, y, n, e1, e2⟩ := hat i hi 2 _ rfl; obtain ⟨x, rfl, _⟩ := int_cell Tryz.underlying3 e2; exact ⟨x, e1⟩
      | 3, _ => obtain ⟨v, y, n, e1, e2⟩ := hat i hi 3 _ rfl; obtain ⟨x, rfl, _⟩ := int_cell Tryz.underlying3 e2; exact ⟨x, e1⟩
    obtain ⟨ab, ao, sp0⟩ := a
    simp only at hsp hblk
    subst hsp
    let Z : Nat → Int := fun k => match W.cell? ⟨ab, ao + k, none⟩ with | some (.int .i64 z) => z | _ => 0
    have hZ : ∀ i, i < m' → ∀ j, j < 4 → W.cell? ⟨ab, ao + (i * 4 + j), none⟩ = some (.int .i64 (Z (i * 4 + j))) := fun i hi j hj => by
      obtain ⟨z, hz⟩ := hk i hi j hj
      have hz' : W.cell? ⟨ab, ao + (i * 4 + j), none⟩ = some (.int .i64 z) := by
        by_cases h0 : i * 4 + j = 0
        · obtain ⟨rfl, rfl⟩ : i = 0 ∧ j = 0 := by omega
          simpa [Addr.add] using hz
        · have h0' : ¬ (i * 4 = 0 ∧ j = 0) := by omega
          simpa [Addr.add, h0, h0'] using hz
      simp only [Z, hz']
    refine ⟨pts, some ⟨ab, ao, none⟩, len, m', (List.range len).map fun i => ⟨Z (i * 4 + 0), Z (i * 4 + 1), Z (i * 4 + 2), Z (i * 4 + 3)⟩, rfl, ⟨by simp, by simp; omega, fun h => by simp at h, fun x hx => ?_⟩, by omega⟩
    obtain rfl := Option.some.inj hx
    refine ⟨rfl, hblk, fun i hi => ?_⟩
    simp only [List.length_map, List.length_range] at hi
    have e : ((List.range len).map fun i => (⟨Z (i * 4 + 0), Z (i * 4 + 1), Z (i * 4 + 2), Z (i * 4 + 3)⟩ : Bd)).getD i default = ⟨Z (i * 4 + 0), Z (i * 4 + 1), Z (i * 4 + 2), Z (i * 4 + 3)⟩ := by
      simp [List.getD, hi]
    rw [e]
    have c0 := hZ i (by omega) 0 (by omega)
    have c1 := hZ i (by omega) 1 (by omega)
    have c2 := hZ i (by omega) 2 (by omega)
    have c3 := hZ i (by omega) 3 (by omega)
    simp only [← Nat.add_assoc] at c0 c1 c2 c3
    exact ⟨by simpa using c0, c1, c2, c3⟩
end Go.Proofs.YtlkcfohmoeadbaaGreat

/-
  The law GaugeSolves, walked: it returns true.
-/
namespace Go.Proofs.YtlkcfohmoeadbaaGreat
open Go.RowKit Go.Shelf
set_option maxHeartbeats 2000000
set_option maxRecDepth 100000

theorem solR_small {p : Int} {bs : List Bd} (h : Sys p bs) : (solR p bs).length ≤ 100 := by
  have := h.p2
  unfold solR
  simp
  omega

end Go.Proofs.YtlkcfohmoeadbaaGreat
