/-
  The law Tried, walked, and its statement.
-/
import Derived.Test.YtodkbfbbpfghiaaGreatPc25
import Derived.Test.YtodkbfbbpfghiaaGreatPc14
import Derived.Test.YtodkbfbbpfghiaaGreatPc12
import Derived.Test.YtodkbfbbpfghiaaGreatRows
import Derived.OpenShut
set_option linter.unusedSimpArgs false
set_option linter.unusedVariables false
set_option linter.unnecessarySimpa false
namespace Go.Proofs.YtodkbfbbpfghiaaGreat
open Go.RowKit Go.Shelf Go.Lib
set_option maxHeartbeats 8000000
set_option maxRecDepth 100000
def fitsN (s : List Pn) (v : List Int) (n : Int) (k : Nat) : Bool := (List.range k).all fun i => v.getD i 0 != n || !clB s i v.length
theorem fitsN_succ (s : List Pn) (v : List Int) (n : Int) (k : Nat) : fitsN s v n (k + 1) = (fitsN s v n k && (v.getD k 0 != n || !clB s k v.length)) := by
  unfold fitsN
  rw [List.range_succ, List.all_append]
  simp
def tryN (s : List Pn) (K : Nat) (v : List Int) (many j : Nat) : Nat :=
  (List.range j).foldl (fun best (n : Nat) => if fitsB s v (n : Int) then min best (tryK s K (v ++ [((n : Nat) : Int)]) (max many (n + 1))) else best) (s.length + 1)
theorem tryN_succ (s : List Pn) (K : Nat) (v : List Int) (many j : Nat) : tryN s K v many (j + 1) = if fitsB s v (j : Int) then min (tryN s K v many j) (tryK s K (v ++ [(j : Int)]) (max many (j + 1))) else tryN s K v many j := by
  unfold tryN
  rw [List.range_succ, List.foldl_append]
  rfl
theorem tryN_le (s : List Pn) (K : Nat) (v : List Int) (many j : Nat) : tryN s K v many j ≤ s.length + 1 := fmin_le
theorem tryK_small (s : List Pn) : ∀ (K : Nat) (v : List Int) (many : Nat), many ≤ v.length → v.length + K = s.length → tryK s K v many ≤ s.length + 1
  | 0, v, many, h, hk => by unfold tryK; omega
  | K + 1, v, many, _, _ => by unfold tryK; exact fmin_le
theorem lfewest (c : Cs) (hok : c.chk = 0) (hm : c.ps.length ≤ 40) : ∀ (K : Nat) (al : Option Addr) (cl : Nat) (xs : List Int) (many : Nat) (w : World), CsAt w c → IntsAt w al xs.length cl xs → xs.length ≤ cl → xs.length + K = c.ps.length → many ≤ xs.length →
    Calls Tryz.prog 33 #[c.v, .slice al xs.length cl, .int .i64 many] w fun e w' => e = .returned (.int .i64 (tryK c.s K xs many : Nat)) ∧ Below w.heap.size w w' := by
  intro K
  induction K with
  | zero =>
    intro al cl xs many w hc hl hr hk hmn
    have j1 : ((xs.length : Int) == (c.ps.length : Int)) = true := by simp; omega
    simp only [Cs.v, tryK]
    clear hk
    go_enter Tryz.func33, Tryz.ntmps33
    go_wp2
    go_ret
    exact ⟨rfl, one_alloc _ _⟩
  | succ K ih =>
    intro al cl xs many w hc hl hr hk hmn
    have j1 : ((xs.length : Int) == (c.ps.length : Int)) = false := by simp; omega
    have fC := fun (x y : Int) W (h : CsAt W c) => wClash c x y W h
    have hsl : c.s.length = c.ps.length := pns_len _
    have HAsk := Lib.hid (fun (i j : Nat) (hi : i < c.ps.length) (hj : j < c.ps.length) => Cs.ask_of hok (l := [(i : Int), (j : Int)]) (by intro x hx; simp at hx; rcases hx with rfl | rfl <;> omega))
    have HT : Hid (tryN c.s K xs many (many + 1) = tryK c.s (K + 1) xs many) := Lib.hid rfl
    have HN := Lib.hid (tryN_succ c.s K xs many)
    have HNl := Lib.hid (tryN_le c.s K xs many)
    have HF : ∀ j : Nat, Hid (fitsN c.s xs j xs.length = fitsB c.s xs j) := fun j => Lib.hid rfl
    have HFs := fun j => Lib.hid (fitsN_succ c.s xs j)
    have HI := Lib.hid ih
    have HTs := Lib.hid (tryK_small c.s K)
    obtain ⟨Z, hZ⟩ : ∃ Z, tryK c.s (K + 1) xs many = Z := ⟨_, rfl⟩
    rw [hZ] at HT ⊢
    have h0 : tryN c.s K xs many 0 = c.ps.length + 1 := by rw [← hsl]; rfl
    have H0 := Lib.hid h0
    have S0 := LS.start w hc
    have X0 := Lib.hid (hl.below (one_alloc w (Obj.cells #[.string c.ware, .int .i64 c.lim, .int .i64 c.byr, .slice c.a c.ps.length c.cap] 24)))
    have hb0 : IntKind.i64.wrap ((c.ps.length : Int) + 1) = ((c.ps.length + 1 : Nat) : Int) := by rw [show ((c.ps.length + 1 : Nat) : Int) = (c.ps.length : Int) + 1 by omega]; exact IntWalk.i64_in _ (by omega)
    simp only [Cs.v] at fC HI ⊢
    have HSL := Lib.hid hsl
    have HK := Lib.hid hk
    have HR := Lib.hid hr
    have hll : xs.length ≤ 40 := by omega
    clear h0 hZ hsl hk ih hl hc hok hr
    go_enter Tryz.func33, Tryz.ntmps33
    obtain ⟨y0, y1, y2, y3, yl⟩ := S0.cells
    go_wp2_with fail
    obtain ⟨w1, hw1⟩ : ∃ w1, w.alloc (Obj.cells #[.string c.ware, .int .i64 c.lim, .int .i64 c.byr, .slice c.a c.ps.length c.cap] 24) = w1 := ⟨_, rfl⟩
    rw [hw1] at S0 X0 ⊢
    clear hw1 y0 y1 y2 y3 yl
    obtain ⟨y0, y1, y2, y3, yl⟩ := S0.cells
    have S0 := Lib.hid S0
    go_loopw [8, 9] (fun b n wr => ∃ j : Nat, j ≤ many + 1 ∧ b = .int .i64 (tryN c.s K xs many j : Nat) ∧ n = .int .i64 j ∧ Below w1.heap.size w1 wr) (fun _ n _ => many + 1 - (RowKit.intOf n).toNat)
    case atStart => exact ⟨0, Nat.zero_le _, by rw [H0.out]; simp, rfl, Below.refl _ _⟩
    case round =>
      obtain ⟨j, hj, rfl, rfl, hB⟩ := hrel
      have SR := Lib.hid (S0.out.ch hB)
      have XR := Lib.hid (X0.out.below hB)
      clear y0 y1 y2 y3 yl
      obtain ⟨y0, y1, y2, y3, yl⟩ := SR.out.cells
      have hnn : (0 : Int) ≤ j := by omega
      have hG := HNl.out j
      rw [HSL.out] at hG
      have HS := Lib.hid (HN.out j)
      have HF2 := HF j
      have HFs2 := HFs j
      obtain ⟨G, hGe⟩ : ∃ G, tryN c.s K xs many j = G := ⟨_, rfl⟩
      rw [hGe] at hG HS ⊢
      have HGe := Lib.hid hGe
      clear hGe
      by_cases hlt : j ≤ many
      · have i1 : decide ((j : Int) ≤ (many : Int)) = true := by simp; omega
        go_wp2_with fail
        obtain ⟨wo, hwo⟩ : ∃ wo : World, wo = wr := ⟨_, rfl⟩
        rw [← hwo] at SR XR hB y0 y1 y2 y3 yl ⊢
        clear hwo
        go_loopw [10, 11] (fun f i wq => ∃ k : Nat, k ≤ xs.length ∧ f = .bool (fitsN c.s xs j k) ∧ i = .int .i64 k ∧ Below wo.heap.size wo wq) (fun _ i _ => xs.length - (RowKit.intOf i).toNat)
        case atStart => exact ⟨0, Nat.zero_le _, rfl, rfl, Below.refl _ _⟩
        case round =>
          obtain ⟨k, hk2, rfl, rfl, hBq⟩ := hrel
          have SQ := Lib.hid (SR.out.ch hBq)
          have XQ := Lib.hid (XR.out.below hBq)
          clear y0 y1 y2 y3 yl
          obtain ⟨y0, y1, y2, y3, yl⟩ := SQ.out.cells
          have hnk : (0 : Int) ≤ k := by omega
          by_cases hlk : k < xs.length
          · have i2 : (k : Int) < (xs.length : Int) := by omega
            have fC2 := fC (k : Int) (xs.length : Int)
            rw [HAsk.out k xs.length (by have := HK.out; omega) (by have := HK.out; omega)] at fC2
            simp only [Int.toNat_natCast, decide_true, Bool.true_and] at fC2
            obtain ⟨b, o, rfl, hbl, d0⟩ := XQ.out.get hlk
            have HSk := Lib.hid (HFs2.out k)
            generalize fitsN c.s xs j k = F at *
            generalize xs.getD k 0 = x at *
            generalize clB c.s k xs.length = C at *
            obtain ⟨NB, hNB⟩ : ∃ NB, (x != (j : Int)) = NB := ⟨_, rfl⟩
            rw [hNB] at HSk
            have XC : ∀ w3, Below wr.heap.size wr w3 → w3.cell? ⟨b, o + k, none⟩ = some (.int .i64 x) := fun w3 h => ((bcell h).1 _ _ hbl).trans d0
            have HXC := Lib.hid XC
            clear XC
            cases F <;> cases NB <;> cases C
            all_goals
              go_wp2_with (go_at_call 51; (with_reducible refine (fC2 _ SQ.out.c1).mono ?_); rintro e w3 ⟨rfl, hb3⟩; have d3 := HXC.out _ hb3)
              go_roundw
              case rel => exact ⟨k + 1, by omega, by rw [HSk.out]; rfl, by go_num, hBq.ch2 hb3⟩
              case measure => simp [RowKit.intOf]; omega
          · have hk3 : k = xs.length := by omega
            subst hk3
            rw [HF2.out]
            have HS2 := HS.out
            cases hfit : fitsB c.s xs (j : Int)
            · rw [hfit] at HS2
              have HS2 := Lib.hid HS2
              clear hfit
              go_wp2_with fail
              go_roundw
              case rel => exact ⟨j + 1, by omega, by rw [HS2.out]; rfl, by go_num, hB.ch2 hBq⟩
              case measure => simp [RowKit.intOf]; omega
            · rw [hfit, if_pos rfl] at HS2
              have hih := HI.out
              obtain ⟨MX, hMX⟩ : ∃ MX : Nat, max many (j + 1) = MX := ⟨_, rfl⟩
              have hMXl : MX ≤ xs.length + 1 := by omega
              have hmx : max (many : Int) ((j : Int) + 1) = (MX : Int) := by omega
              have hT := HTs.out (xs ++ [(j : Int)]) MX (by simp; omega) (by simp; have := HK.out; have := HSL.out; omega)
              have hih2 := fun (q : Option Addr × Nat) (W : World) (h1 : CsAt W c) (h2 : RowAt W q.1 q.2 (xs.map (.int .i64) ++ [.int .i64 j])) (h3 : xs.length + 1 ≤ q.2) => hih q.1 q.2 (xs ++ [(j : Int)]) MX W h1 ⟨rfl, by simp; have := HK.out; omega, by simpa using h2⟩ (by simpa using h3) (by simp; have := HK.out; omega) (by simpa using hMXl)
              simp only [List.length_append, List.length_cons, List.length_nil, Nat.zero_add] at hih2
              rw [hMX] at HS2
              generalize tryK c.s K (xs ++ [(j : Int)]) MX = T at *
              obtain ⟨MN, hMN⟩ : ∃ MN : Nat, min G T = MN := ⟨_, rfl⟩
              have hmn2 : min (G : Int) (T : Int) = (MN : Int) := by omega
              rw [hMN] at HS2
              have HS2 := Lib.hid HS2
              have hrr := HR.out
              have hrow := XQ.out.row
              clear hMX hMN hT hfit hih
              go_wp2_with fail
              apply SLG.rule0 ?hm1 [] [57, 58, 59, 60, 61, 62, 63, 64, 65, 66, 67, 68, 69, 70, 71, 8] [SL.pu 57 [16] (.int .i64 G), SLF.pq 58 [] _, SLF.pq 59 [] _, SLF.pq 60 [] _, SLF.pq 61 [] _, SL.pu 62 [2, 3, 4] (.slice al xs.length xs.length), SLF.pq 63 [] _, SL.row 64 [6] [] 0 3 1 1 [.int .i64 j], SL.aw 65 [5, 7] [] (fun x => .ex fun q : Option Addr × Nat => .sep (.pure (x = .slice q.1 (xs.length + 1) q.2 ∧ xs.length + 1 ≤ q.2)) (.lies q.1 q.2 (xs.map (.int .i64) ++ [.int .i64 j]))), SLF.pq 66 [] _, SLF.pq 67 [] _, SLF.pq 68 [10] _, SLF.pq 69 [9, 11] _, SL.pu 70 [1, 8, 12] (.int .i64 T), SLF.pq 71 [0, 13] _, { SL.pu 8 [14, 16] (.int .i64 MN) with eat := [16] }, SL.pu 8 [] (.int .i64 G)] [15] ?hck1 ?hkp1 (fun _ => []) ?hin1 ?hdj1 ?hfr1 ?ob1 ?en1
              case hm1 => kernel_rfl
              case hin1 => exact (SL.pu_held rfl rfl ⟨rfl, rfl⟩)
              case hdj1 => simp
              case hfr1 => intro us; simp only [SL.frame, SL.put']; simp; exact rfl
              case ob1 =>
                refine ⟨?_, ?_, ?_, ?_, ?_, ?_, ?_, ?_, ?_, ?_, ?_, ?_, ?_, ?_, ?_, ?_, trivial⟩
                all_goals first
                  | (intro us w' Fe hG hu hd hv Kx hK
                     try dsimp only
                     simp [SL.Used, SL.pu, SL.row, SL.box, SL.rowIn, SL.boxIn, SL.boxAt, SL.boxAtIn, SLF.pq, Act.put, SL.aw_sub, SL.aw_use, SL.aw_eat, SL.aw_V, SL.aw_quiet] at hu hK
                     have hB5 : Below wr.heap.size wr w' := hG.below'
                     obtain ⟨hc5, hf5⟩ := bcell hB5
                     have hs5 := hB5.size
                     clear hv hG
                     refine SLF.wpo_do (SLF.wanted_free rfl) ?hd1 ?_
                     case hd1 => intro c h; cases h
                     clear hd
                     first
                       | (go_step; exact hK _ _ _ (SL.Chg.refl _ _) (by first | exact rfl | (simp only [hu]; exact rfl)) rfl (by simp) rfl)
                       | exact hK _ _ _ (SL.Chg.refl _ _) rfl rfl (by simp) rfl)
                  | skip
                · refine SLG.ob_sp rfl rfl rfl fun us w' Fe hG hu hd Kx hK => ?_
                  try dsimp only
                  simp [SL.Used, SL.pu, SL.row, SL.box, SL.rowIn, SL.boxIn, SL.boxAt, SL.boxAtIn, SLF.pq, Act.put, SL.aw_sub, SL.aw_use, SL.aw_eat, SL.aw_V, SL.aw_quiet] at hu
                  have hB5 : Below wr.heap.size wr w' := hG.below'
                  obtain ⟨hc5, hf5⟩ := bcell hB5
                  have hs5 := hB5.size
                  refine SLF.wpo_do (SLF.wanted_free rfl) ?hd1 ?_
                  case hd1 => intro c h; cases h
                  obtain ⟨e8, _⟩ := hu
                  go_step
                  exact hK _ _ _ [] (by simp [Act.put, e8]; done) (SL.Chg.refl _ _) ⟨rfl, rfl⟩ (fun j hj => by cases hj)
                · refine SLG.ob_sp rfl rfl rfl fun us w' Fe hG hu hd Kx hK => ?_
                  try dsimp only
                  simp [SL.Used, SL.pu, SL.row, SL.box, SL.rowIn, SL.boxIn, SL.boxAt, SL.boxAtIn, SLF.pq, Act.put, SL.aw_sub, SL.aw_use, SL.aw_eat, SL.aw_V, SL.aw_quiet] at hu
                  have hB5 : Below wr.heap.size wr w' := hG.below'
                  obtain ⟨hc5, hf5⟩ := bcell hB5
                  have hs5 := hB5.size
                  refine SLF.wpo_do (SLF.wanted_free rfl) ?hd1 ?_
                  case hd1 => intro c h; cases h
                  obtain ⟨⟨e59, _⟩, ⟨e60, _⟩, e61, _⟩ := hu
                  go_step
                  exact hK _ _ _ [] (by simp [Act.put]; done) (SL.Chg.refl _ _) ⟨rfl, rfl⟩ (fun j hj => by cases hj)
                · refine SLG.ob_sp rfl rfl rfl fun us w' Fe hG hu hd Kx hK => ?_
                  try dsimp only
                  simp [SL.Used, SL.pu, SL.row, SL.box, SL.rowIn, SL.boxIn, SL.boxAt, SL.boxAtIn, SLF.pq, Act.put, SL.aw_sub, SL.aw_use, SL.aw_eat, SL.aw_V, SL.aw_quiet] at hu
                  have hB5 : Below wr.heap.size wr w' := hG.below'
                  obtain ⟨hc5, hf5⟩ := bcell hB5
                  have hs5 := hB5.size
                  refine SLF.wpo_do (SLF.wanted_free rfl) ?hd1 ?_
                  case hd1 => intro c h; cases h
                  go_step
                  exact hK _ (.slice (some ⟨w'.heap.size, 0, none⟩) 1 1) _ _ (by simp [Act.put]; done) (.alloc _ _ _) ⟨World.ownsRow_lit w' #[.int .i64 j] 1 (by omega) (by decide) rfl, rfl⟩ (fun j hj => .inr (by simp [Value.ownBlock] at hj; subst hj; simp))
                · refine SLG.ob_sp rfl rfl rfl fun us w' Fe hG hu hd Kx hK => ?_
                  try dsimp only
                  simp [SL.Used, SL.pu, SL.row, SL.box, SL.rowIn, SL.boxIn, SL.boxAt, SL.boxAtIn, SLF.pq, Act.put, SL.aw_sub, SL.aw_use, SL.aw_eat, SL.aw_V, SL.aw_quiet] at hu
                  have hB5 : Below wr.heap.size wr w' := hG.below'
                  obtain ⟨hc5, hf5⟩ := bcell hB5
                  have hs5 := hB5.size
                  refine SLF.wpo_do (SLF.wanted_free rfl) ?hd1 ?_
                  case hd1 => intro c h; cases h
                  obtain ⟨⟨e62, _⟩, ho, e7⟩ := hu
                  obtain ⟨ra, rc, e64, _⟩ := owns_slice ho
                  rw [e64] at ho
                  refine wp_app_full elemI _ _ rfl e62 ((hrow.below hB5).recap (fun hn => by have := (hrow.nil hn).1; simpa using this)) (by simp) e64 (RowAt.of_owns ho) rfl (by unfold maxLen; omega) (by omega) ?_
                  intro a' c' w8 hat8 hb8 hcap8 hcase
                  have ha' : a' = some ⟨w'.heap.size, 0, none⟩ := by
                    rcases hcase with ⟨_, h, _⟩ | h
                    · cases h
                    · exact h
                  refine hK _ _ w8 _ (by simp [Act.put]; done) (.of_below hb8) (SL.aw_in ⟨(a', c'), _, _, ⟨⟨rfl, hcap8⟩, rfl⟩, ⟨hat8, rfl⟩, rfl⟩) (fun j hj => .inr ?_)
                  rw [ha'] at hj
                  simp [Value.ownBlock] at hj
                  subst hj
                  exact ⟨Nat.le_refl _, (hat8.at_ _ ha').2.1⟩
                · refine SLG.ob_sp rfl rfl rfl fun us w' Fe hG hu hd Kx hK => ?_
                  try dsimp only
                  simp [SL.Used, SL.pu, SL.row, SL.box, SL.rowIn, SL.boxIn, SL.boxAt, SL.boxAtIn, SLF.pq, Act.put, SL.aw_sub, SL.aw_use, SL.aw_eat, SL.aw_V, SL.aw_quiet] at hu
                  have hB5 : Below wr.heap.size wr w' := hG.below'
                  obtain ⟨hc5, hf5⟩ := bcell hB5
                  have hs5 := hB5.size
                  refine SLF.wpo_do (SLF.wanted_free rfl) ?hd1 ?_
                  case hd1 => intro c h; cases h
                  obtain ⟨⟨e58, _⟩, h8, e69, _⟩ := hu
                  obtain ⟨q, F1, F2, ⟨⟨hx, hq1⟩, rfl⟩, ⟨hat, rfl⟩, _⟩ := SL.aw_out h8
                  go_step
                  refine (hih2 q _ (SQ.out.c1.below hB5) hat hq1).mono ?_
                  rintro e w6 ⟨rfl, hb6⟩
                  exact hK _ _ w6 [] (by simp [Act.put]; done) (.of_below hb6) ⟨rfl, rfl⟩ (fun j hj => by cases hj)
                · refine SLG.ob_sp rfl rfl rfl fun us w' Fe hG hu hd Kx hK => ?_
                  try dsimp only
                  simp [SL.Used, SL.pu, SL.row, SL.box, SL.rowIn, SL.boxIn, SL.boxAt, SL.boxAtIn, SLF.pq, Act.put, SL.aw_sub, SL.aw_use, SL.aw_eat, SL.aw_V, SL.aw_quiet] at hu
                  have hB5 : Below wr.heap.size wr w' := hG.below'
                  obtain ⟨hc5, hf5⟩ := bcell hB5
                  have hs5 := hB5.size
                  refine SLF.wpo_do (SLF.wanted_free rfl) ?hd1 ?_
                  case hd1 => intro c h; cases h
                  obtain ⟨⟨e71, _⟩, _⟩ := hu
                  go_step
                  exact hK _ _ _ [] (by simp [Act.put, e71]; done) (SL.Chg.refl _ _) ⟨rfl, rfl⟩ (fun j hj => by cases hj)
              case hck1 => kernel_rfl
              case hkp1 => kernel_rfl
              intro us wE Fs hG hu hbd hd
              simp [SL.Used, SLF.pq] at hu
              obtain ⟨u8', _⟩ := hu
              have u8 : us 8 = Value.int .i64 MN := u8'
              have hBE := hG.below'
              simp only [u8]
              clear hbd hd hG
              go_wp2_with fail
              go_roundw
              case rel => exact ⟨j + 1, by omega, by rw [HS2.out], by go_num, (hB.ch2 hBq).ch2 hBE⟩
              case measure => simp [RowKit.intOf]; omega
      · have i1 : decide ((j : Int) ≤ (many : Int)) = false := by simp; omega
        have hj2 : j = many + 1 := by omega
        have hGZ : G = Z := by rw [← HGe.out, hj2]; exact HT.out
        subst hj2
        subst hGZ
        go_wp2_with fail
        go_ret
        exact ⟨rfl, (S0.out.ch hB).below⟩
theorem law_tried (c : Cs) (w : World) (hc : CsAt w c) (_ : c.ps.length ≤ c.cap) : Calls Tryz.prog 7 #[c.v] w fun e w' => e = .returned (.bool true) ∧ Below w.heap.size w w' := by
  have fSm := fun W (h : CsAt W c) => lsmall c 6 W h
  have fL := fun W (h : CsAt W c) => wLeast c W h
  by_cases h0 : c.chk = 0
  · obtain ⟨hmm, hok, hsl⟩ := (Cs.chk_zero.1 h0).many'
    have gF := fun W (h : CsAt W c) => lfewest c h0 (by omega) c.ps.length none 0 [] 0 W h (IntsAt.nilAt W) (by simp) (by simp) (by simp)
    rw [← hsl, tryK_least hok] at gF
    have hli : c.leastI = (leastN c.s : Int) := by unfold Cs.leastI; rw [if_pos h0]
    rw [hli, h0] at fL
    simp only [Cs.v, List.length_nil, Int.natCast_zero] at fSm fL gF ⊢
    generalize leastN c.s = N at *
    have e1 : ((N : Int) == (N : Int)) = true := by simp
    have S0 := LS.start w hc
    obtain ⟨y0, y1, y2, y3, yl⟩ := S0.cells
    have S0 := Lib.hid S0
    clear hmm hok hsl hli h0 hc
    go_enter Tryz.func7, Tryz.ntmps7
    go_wp2_with (first
      | (go_at_call 27; (with_reducible refine (fSm _ S0.out.c1).mono ?_); rintro e w1 ⟨b, rfl, hb1, _⟩; have S1 := (S0.out).ch hb1; clear y0 y1 y2 y3 yl; obtain ⟨y0, y1, y2, y3, yl⟩ := S1.cells; have S1 := Lib.hid S1; cases b; clear hb1)
      | (go_at_call 31; (with_reducible refine (fL _ S1.out.c1).mono ?_); rintro e w2 ⟨rfl, hb2⟩; have S2 := (S1.out).ch hb2; clear y0 y1 y2 y3 yl; obtain ⟨y0, y1, y2, y3, yl⟩ := S2.cells; have S2 := Lib.hid S2; clear hb2)
      | (go_at_call 17; (with_reducible refine (ltold _).mono ?_); rintro e w3 ⟨rfl, hb3⟩; have S3 := (S2.out).ch hb3; clear y0 y1 y2 y3 yl; obtain ⟨y0, y1, y2, y3, yl⟩ := S3.cells; have S3 := Lib.hid S3; clear hb3)
      | (go_at_call 33; (with_reducible refine (gF _ S3.out.c1).mono ?_); rintro e w4 ⟨rfl, hb4⟩; have S4 := (S3.out).ch hb4; have S4 := Lib.hid S4; clear hb4)
      | (go_at_call 17; (with_reducible refine (ltold _).mono ?_); rintro e wT ⟨rfl, hbT⟩))
    all_goals go_ret
    all_goals first
      | exact ⟨rfl, S4.out.below⟩
      | exact ⟨rfl, S1.out.below.ch2 hbT⟩
  · have b0 : (c.chk == 0) = false := by simpa using h0
    have b1 : (c.chk != 0) = true := by simpa using h0
    have S0 := LS.start w hc
    obtain ⟨y0, y1, y2, y3, yl⟩ := S0.cells
    have S0 := Lib.hid S0
    simp only [Cs.v] at fSm fL ⊢
    generalize c.chk = E at *
    generalize c.leastI = N at *
    clear h0 hc
    go_enter Tryz.func7, Tryz.ntmps7
    go_wp2_with (first
      | (go_at_call 27; (with_reducible refine (fSm _ S0.out.c1).mono ?_); rintro e w1 ⟨b, rfl, hb1, _⟩; have S1 := (S0.out).ch hb1; clear y0 y1 y2 y3 yl; obtain ⟨y0, y1, y2, y3, yl⟩ := S1.cells; have S1 := Lib.hid S1; cases b; clear hb1)
      | (go_at_call 31; (with_reducible refine (fL _ S1.out.c1).mono ?_); rintro e w2 ⟨rfl, hb2⟩; have S2 := (S1.out).ch hb2; clear y0 y1 y2 y3 yl; obtain ⟨y0, y1, y2, y3, yl⟩ := S2.cells; have S2 := Lib.hid S2; clear hb2)
      | (go_at_call 17; (with_reducible refine (ltold _).mono ?_); rintro e w3 ⟨rfl, hb3⟩; have S3 := (S2.out).ch hb3; clear y0 y1 y2 y3 yl; obtain ⟨y0, y1, y2, y3, yl⟩ := S3.cells; have S3 := Lib.hid S3; clear hb3)
      | (go_at_call 17; (with_reducible refine (ltold _).mono ?_); rintro e wT ⟨rfl, hbT⟩))
    all_goals go_ret
    all_goals first
      | exact ⟨rfl, S3.out.below⟩
      | exact ⟨rfl, S1.out.below.ch2 hbT⟩
end Go.Proofs.YtodkbfbbpfghiaaGreat
namespace Go.Proofs.YtodkbfbbpfghiaaGreat
open Go.ChangeShapes Go.WideShapes Go.ChangeAt Go.RowKit Go.Joins Go.Deep
set_option maxRecDepth 100000 in
theorem wholeTried_lifted (os : Os) (started : os.Started) (H : Type) (enc : TypeId × Value → H) :
    ReturnsInHanded {} Tryz.checked os 7 .any (Rows.wholeTriedSpec.pre6 enc Tryz.prog Tryz.f7 Rows.wholeTriedRow.domain false) (Rows.wholeTriedSpec.post enc Tryz.prog Tryz.f7 false true false false) := by
  refine returnsInHanded_of_change_sized (C := Tryz.checked) Tryz.own started (by kernel_rfl) Tryz.func7
    (ChangeSpec.witness6 (enc := enc) (C := Tryz.checked) false ⟨#[], #[.agg #[.string ⟨#[]⟩, .int .i64 0, .int .i64 0, .slice none 0 0]], []⟩ 8 (by kernel_rfl) (by kernel_rfl) (by kernel_rfl) (by kernel_rfl)) ?_
  intro W base args ds gs before hval0 hW _ hsz0 _
  have hsz : (DataW.weightsEach Tryz.prog (Tryz.f7.params.toList ++ Rows.wholeTriedSpec.plain.varTypes Tryz.prog) (ds ++ gs)).all (· ≤ reachBytes) = true := hsz0
  clear hsz0
  have hval : ∀ (j : Nat) t v, Tryz.f7.params[j]? = some t → args[j]? = some v → Value.okWide Tryz.prog W .any base t v := hval0
  have hW' := hW
  obtain ⟨p, q, hA0, hV, rfl, _, _⟩ := hW
  have hA : DataW.TrodAll enc Tryz.prog W 0 (fun _ => true) true Tryz.f7.params.toList args.toList ds p := hA0
  rw [Tryz.params7] at hA hval hsz
  obtain ⟨v0, d0, rfl, rfl, h0⟩ := trodAll_one hA
  obtain ⟨rfl, rfl⟩ := trodVars_none hV
  clear hA0 hval0
  simp only [List.append_nil] at hW'
  have hlt : ∀ x ∈ p, x.block < W.heap.size := fun x hx => by simpa using hW'.lt x hx
  obtain ⟨c0, rfl, hb0, hn0⟩ := case_open (hval 0 24 v0 rfl rfl) h0 (fun n hn => by
    have := List.all_eq_true.1 hsz _ (DataW.weights_mem_each (j := 0) rfl rfl n hn)
    simpa using this)
  refine (law_tried c0 W hb0 hn0).mono fun e W' ⟨he, hw⟩ => ?_
  subst he
  exact ⟨_, rfl, ⟨_, _, _, [], _, [], hW', trodAll_mk1 (shut_bool Tryz.underlying4 _), trodAll_mk1 (Below.trod Tryz.laidOut (by kernel_rfl) (of_decide_eq_true (by kernel_rfl)) h0 hw hlt), rfl, hw.frame _, fun h => by cases h⟩⟩
theorem wholeTried_holds : Rows.WholeTriedSaid :=
  OpenClaim.holds_of_wide 7 Tryz.f7 rfl rfl rfl rfl rfl rfl rfl ⟨rfl, rfl, rfl, rfl, rfl⟩ rfl rfl rfl rfl rfl (by kernel_rfl) Tryz.func7 (by kernel_rfl)
    (of_decide_eq_true (by kernel_rfl)) (by unfold Func.isWrapper; rw [if_neg (of_decide_eq_false (by kernel_rfl))]; exact ⟨rfl, rfl⟩)
    (fun os started H enc _ => wholeTried_lifted os started H enc)
#print axioms wholeTried_holds
end Go.Proofs.YtodkbfbbpfghiaaGreat
