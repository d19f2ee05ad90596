/- What the functions answer, for every input. -/
import Derived.Test.YtelkcohhagblaaaGreatRows
import Derived.WalkKit
set_option linter.unusedSimpArgs false
set_option linter.unusedVariables false
set_option linter.unnecessarySimpa false
namespace Go.Proofs.YtelkcohhagblaaaGreat
theorem Z7w {P:Prop}(h:P:=by
 refine SLG.ob_sp rfl rfl rfl fun us w' Fe hG hu hd Kx hK=>?_
 try dsimp only
 simp [SL.O] at hu
 have hB5:Below w.heap.size w w':=HBW.out.trans (hG.belowF HBW.out.size (by simp))
 obtain ⟨hc5,hf5⟩:=bcell hB5
 have hs5:=hB5.size
 obtain ⟨hc6,hf6⟩:=hG.cellsF;have p8:=(hc6 w.heap.size (0 +8) z0 hn0).trans d8;have p9:=(hc6 w.heap.size (0 +9) z0 hn0).trans d9;have p10:=(hc6 w.heap.size (0 +10) z0 hn0).trans d10;have q0:=(hc6 B0 0 zz0 hm0).trans k0;have q1:=(hc6 B1 0 zz1 hm1).trans k1;have q2:=(hc6 B2 0 zz2 hm2).trans k2
 exact Z66):P:=h
theorem Z7x {P:Prop}(h:P:=by
 intro us w' Fe hG hu hd hv Kx hK
 try dsimp only
 simp [SL.O] at hu hK
 have hB5:Below w3.heap.size w3 w':=hG.below'
 exact Z7r):P:=h
theorem Z7y {P:Prop}(h:P:=by
 refine SLG.ob_sp rfl rfl rfl fun us w' Fe hG hu hd Kx hK=>?_
 try dsimp only
 simp [SL.O] at hu
 have hB5:Below w5.heap.size w5 w':=hG.below'
 exact Z7m):P:=h
theorem Z7i {P:Prop}(h:P:=by
 intro us w' Fe hG hu hd hv Kx hK
 try dsimp only
 simp [SL.O] at hu hK
 have hB5:Below w.heap.size w w':=HBW.out.trans (hG.belowF HBW.out.size (by simp))
 obtain ⟨hc5,hf5⟩:=bcell hB5
 have hs5:=hB5.size
 obtain ⟨hc6,hf6⟩:=hG.cellsF;have p8:=(hc6 w.heap.size (0 +8) z0 hn0).trans d8;have p9:=(hc6 w.heap.size (0 +9) z0 hn0).trans d9;have p10:=(hc6 w.heap.size (0 +10) z0 hn0).trans d10;have q0:=(hc6 B0 0 zz0 hm0).trans k0;have q1:=(hc6 B1 0 zz1 hm1).trans k1;have q2:=(hc6 B2 0 zz2 hm2).trans k2
 clear hv
 exact Z2):P:=h
theorem Z7j {P:Prop}(h:P:=by
 refine SLG.ob_sp rfl rfl rfl fun us w' Fe hG hu hd Kx hK=>?_
 try dsimp only
 simp [SL.O] at hu
 have hB5:Below w.heap.size w w':=HBW.out.trans (hG.belowF HBW.out.size (by simp))
 obtain ⟨hc5,hf5⟩:=bcell hB5
 have hs5:=hB5.size
 obtain ⟨hc6,hf6⟩:=hG.cellsF;have p8:=(hc6 w.heap.size (0 +8) z0 hn0).trans d8;have p9:=(hc6 w.heap.size (0 +9) z0 hn0).trans d9;have p10:=(hc6 w.heap.size (0 +10) z0 hn0).trans d10;have q0:=(hc6 B0 0 zz0 hm0).trans k0;have q1:=(hc6 B1 0 zz1 hm1).trans k1;have q2:=(hc6 B2 0 zz2 hm2).trans k2
 exact Z7):P:=h
theorem Z7k {P:Prop}(h:P:=by
 intro us w' Fe hG hu hd hv Kx hK
 try dsimp only
 simp [SL.O] at hu hK
 have hB5:Below w.heap.size w w':=hBw1.trans (hG.belowF hBw1.size (by simp))
 obtain ⟨hc5,hf5⟩:=bcell hB5
 have hs5:=hB5.size
 obtain ⟨hc6,hf6⟩:=hG.cellsF;have p1:=(hc6 b (0 +11) zb1 hnb).trans d11;have p2:=(hc6 b (0 +12) zb1 hnb).trans d12;have p0:=(hc6 b 0 zb1 hnb).trans d0
 clear hv
 exact Z5z):P:=h
theorem Z7n {P:Prop}(h:P:=by
 refine SLG.ob_sp rfl rfl rfl fun us w' Fe hG hu hd Kx hK=>?_
 try dsimp only
 simp [SL.O] at hu
 have hB5:Below w.heap.size w w':=HBW.out.trans (hG.belowF HBW.out.size (by simp))
 obtain ⟨hc5,hf5⟩:=bcell hB5
 have hs5:=hB5.size
 obtain ⟨hc6,hf6⟩:=hG.cellsF;have p8:=(hc6 w.heap.size (0 +8) z0 hn0).trans d8;have p11:=(hc6 w.heap.size (0 +11) z0 hn0).trans d11;have p12:=(hc6 w.heap.size (0 +12) z0 hn0).trans d12
 exact Z66):P:=h
theorem Z7p {P:Prop}(h:P:=by
 refine SLG.ob_sp rfl rfl rfl fun us w' Fe hG hu hd Kx hK=>?_
 try dsimp only
 simp [SL.O] at hu
 have hB5:Below w.heap.size w w':=HBW.out.trans (hG.belowF HBW.out.size (by simp))
 obtain ⟨hc5,hf5⟩:=bcell hB5
 have hs5:=hB5.size
 obtain ⟨hc6,hf6⟩:=hG.cellsF;have p8:=(hc6 w.heap.size (0 +8) z0 hn0).trans d8;have p13:=(hc6 w.heap.size (0 +13) z0 hn0).trans d13
 exact Z66):P:=h
theorem Z7q {P:Prop}(h:P:=by
 intro us w' Fe hG hu hd hv Kx hK
 try dsimp only
 simp [SL.O] at hu hK
 have hB5:Below w.heap.size w w':=hBw.trans (hG.belowF hBw.size hF0)
 obtain ⟨hc5,hf5⟩:=bcell hB5
 have hs5:=hB5.size
 obtain ⟨hc6,hf6⟩:=hG.cellsF
 clear hv
 exact Z5z):P:=h
theorem Z7r {P:Prop}(h:P:=by
 obtain ⟨hc5,hf5⟩:=bcell hB5
 have hs5:=hB5.size
 clear hv hG
 exact Z5z):P:=h
theorem Z7s {P:Prop}(h:P:=by
 refine SLG.ob_sp rfl rfl rfl fun us w' Fe hG hu hd Kx hK=>?_
 try dsimp only
 simp [SL.O] at hu
 have hB5:Below w.heap.size w w':=hG.below'
 exact Z6b):P:=h
theorem Z7t {P:Prop}(h:P:=by
 rintro e w6 ⟨rfl,rfl⟩
 exact Z8):P:=h
theorem Z7v {P:Prop}(h:P:=by
 obtain ⟨hc5,hf5⟩:=bcell hB5
 have hs5:=hB5.size
 clear hv hG
 exact Z2):P:=h
theorem Z5u {P:Prop}(h:P:=by
 refine ⟨?_,?_,?_,?_,?_,?_,?_,?_,?_,?_,?_,?_,?_,?_,?_,?_,?_,?_,?_,?_,?_,?_,?_,?_,trivial⟩
 all_goals first
  | (intro us w' Fe hG hu hd hv Kx hK
     try dsimp only
     simp [SL.O] at hu hK
     have hB5:Below wr.heap.size wr w':=hG.below'
     exact Z7v)
  | skip):P:=h
theorem Z5x {P:Prop}(h:P:=by
 intro us w' Fe hG hu hd hv Kx hK
 try dsimp only
 simp [SL.O] at hu hK
 have hB5:Below w.heap.size w w':=HBW.out.trans (hG.belowF HBW.out.size (by simp))
 obtain ⟨hc5,hf5⟩:=bcell hB5
 have hs5:=hB5.size
 obtain ⟨hc6,hf6⟩:=hG.cellsF;have p3:=(hc6 w.heap.size (0 +3) z0 hn0).trans d3;have p4:=(hc6 w.heap.size (0 +4) z0 hn0).trans d4;have p5:=(hc6 w.heap.size (0 +5) z0 hn0).trans d5;have p6:=(hc6 w.heap.size (0 +6) z0 hn0).trans d6
 clear hv
 exact Z2):P:=h
theorem Z5y {P:Prop}(h:P:=by
 refine SLG.ob_sp rfl rfl rfl fun us w' Fe hG hu hd Kx hK=>?_
 try dsimp only
 simp [SL.O] at hu
 have hB5:Below w.heap.size w w':=HBW.out.trans (hG.belowF HBW.out.size (by simp))
 obtain ⟨hc5,hf5⟩:=bcell hB5
 have hs5:=hB5.size
 obtain ⟨hc6,hf6⟩:=hG.cellsF;have p3:=(hc6 w.heap.size (0 +3) z0 hn0).trans d3;have p4:=(hc6 w.heap.size (0 +4) z0 hn0).trans d4;have p5:=(hc6 w.heap.size (0 +5) z0 hn0).trans d5;have p6:=(hc6 w.heap.size (0 +6) z0 hn0).trans d6
 exact Z7):P:=h
theorem Z5z {P:Prop}(h:P:=by
 refine SLF.wpo_do (SLF.wanted_free rfl) ?hd ?_
 case hd=>intro c h;cases h
 exact Z4):P:=h
theorem Z63 {P:Prop}(h:P:=by
 refine SLG.ob_sp rfl rfl rfl fun us w' Fe hG hu hd Kx hK=>?_
 try dsimp only
 simp [SL.O] at hu
 have hB5:Below w.heap.size w w':=hBw.trans (hG.belowF hBw.size hF0)
 obtain ⟨hc5,hf5⟩:=bcell hB5
 have hs5:=hB5.size
 obtain ⟨hc6,hf6⟩:=hG.cellsF
 refine SLF.wpo_do (SLF.wanted_free rfl) ?hd ?_
 case hd=>intro c h;cases h
 obtain ⟨⟨e1,_⟩,⟨ho3,e3⟩,h8⟩:=hu
 obtain ⟨hr,e8⟩:=SL.aw_out h8
 obtain ⟨xa,xc,hsl,_⟩:=owns_slice ho3
 have hs6:Wa.heap.size≤w'.heap.size:=hG.size
 clear hc5 hf5 hc6 hf6
 refine wp_app elemB _ _ rfl hr e1 hsl (RowAt.of_owns (hsl ▸ ho3)) (by rfl) (bcs_one _) Z1s (by omega) (by omega) ?_
 intro v' w6 ho6 hg6 hb6 _ hat
 refine hK _ v' w6 _ Zh (.of_own hg6 (fun k e=>by simp [SL.aw_eat,e8,e])) (SL.aw_in ⟨ho6,rfl⟩) ?_
 intro k hk
 simp [SL.aw_eat,e8] at hk ⊢
 exact Z1a):P:=h
theorem Z6a {P:Prop}(h:P:=by
 refine ⟨?_,?_,?_,?_,?_,?_,?_,?_,?_,?_,?_,?_,?_,?_,?_,?_,trivial⟩
 all_goals first
  | (intro us w' Fe hG hu hd hv Kx hK
     try dsimp only
     simp [SL.O] at hu hK
     have hB5:Below w2.heap.size w2 w':=hG.below'
     obtain ⟨hc5,hf5⟩:=bcell hB5
     have hs5:=hB5.size
     have p0:=(hc5 w.heap.size (0 +1) z0).trans c0;have p1:=(hc5 b (o +m * 16 +1) hbl).trans c1
     clear hv hG
     exact Z2)
  | skip):P:=h
theorem Z6b {P:Prop}(h:P:=by
 obtain ⟨hc5,hf5⟩:=bcell hB5
 have hs5:=hB5.size
 refine SLF.wpo_do (SLF.wanted_free rfl) ?hd ?_
 case hd=>intro c h;cases h
 obtain ⟨e9,_⟩:=hu
 clear hc5 hf5
 exact Zd):P:=h
theorem Z6e {P:Prop}(h:P:=by
 intro us w' Fe hG hu hd hv Kx hK
 try dsimp only
 simp [SL.O] at hu hK
 have hB5:Below w.heap.size w w':=HBW.out.trans (hG.belowF HBW.out.size (by simp))
 obtain ⟨hc5,hf5⟩:=bcell hB5
 have hs5:=hB5.size
 obtain ⟨hc6,hf6⟩:=hG.cellsF;have p8:=(hc6 w.heap.size (0 +8) z0 hn0).trans d8;have p11:=(hc6 w.heap.size (0 +11) z0 hn0).trans d11;have p12:=(hc6 w.heap.size (0 +12) z0 hn0).trans d12
 clear hv
 exact Z2):P:=h
theorem Z6f {P:Prop}(h:P:=by
 intro us w' Fe hG hu hd hv Kx hK
 try dsimp only
 simp [SL.O] at hu hK
 have hB5:Below w.heap.size w w':=HBW.out.trans (hG.belowF HBW.out.size (by simp))
 obtain ⟨hc5,hf5⟩:=bcell hB5
 have hs5:=hB5.size
 obtain ⟨hc6,hf6⟩:=hG.cellsF;have p8:=(hc6 w.heap.size (0 +8) z0 hn0).trans d8;have p13:=(hc6 w.heap.size (0 +13) z0 hn0).trans d13
 clear hv
 exact Z2):P:=h
theorem Z6g {P:Prop}(h:P:=by
 refine SLG.ob_sp rfl rfl rfl fun us w' Fe hG hu hd Kx hK=>?_
 try dsimp only
 simp [SL.O] at hu
 have hB5:Below w.heap.size w w':=HBW.out.trans (hG.belowF HBW.out.size (by simp))
 obtain ⟨hc5,hf5⟩:=bcell hB5
 have hs5:=hB5.size
 obtain ⟨hc6,hf6⟩:=hG.cellsF;have p8:=(hc6 w.heap.size (0 +8) z0 hn0).trans d8;have p11:=(hc6 w.heap.size (0 +11) z0 hn0).trans d11;have p12:=(hc6 w.heap.size (0 +12) z0 hn0).trans d12
 exact Z7):P:=h
theorem Z6h {P:Prop}(h:P:=by
 intro us w' Fe hG hu hd hv Kx hK
 try dsimp only
 simp [SL.O] at hu hK
 have hB5:Below w.heap.size w w':=hbw.trans (hG.belowF hbw.size (by simp))
 obtain ⟨hc5,hf5⟩:=bcell hB5
 have hs5:=hB5.size
 obtain ⟨hc6,hf6⟩:=hG.cellsF;have d16:=(hc6 w.heap.size (0 +14) z0 hn1).trans d14;have d17:=(hc6 w.heap.size (0 +3) z0 hn1).trans d3
 clear hv
 exact Z2):P:=h
theorem Z6j {P:Prop}(h:P:=by
 refine SLG.ob_sp rfl rfl rfl fun us w' Fe hG hu hd Kx hK=>?_
 try dsimp only
 simp [SL.O] at hu
 have hB5:Below w.heap.size w w':=HBW.out.trans (hG.belowF HBW.out.size (by simp))
 obtain ⟨hc5,hf5⟩:=bcell hB5
 have hs5:=hB5.size
 obtain ⟨hc6,hf6⟩:=hG.cellsF;have p8:=(hc6 w.heap.size (0 +8) z0 hn0).trans d8;have p13:=(hc6 w.heap.size (0 +13) z0 hn0).trans d13
 exact Z7):P:=h
theorem Z6k {P:Prop}(h:P:=by
 refine SLG.ob_sp rfl rfl rfl fun us w' Fe hG hu hd Kx hK=>?_
 try dsimp only
 simp [SL.O] at hu
 have hB5:Below w.heap.size w w':=hbw.trans (hG.belowF hbw.size (by simp))
 obtain ⟨hc5,hf5⟩:=bcell hB5
 have hs5:=hB5.size
 obtain ⟨hc6,hf6⟩:=hG.cellsF;have d16:=(hc6 w.heap.size (0 +14) z0 hn1).trans d14;have d17:=(hc6 w.heap.size (0 +3) z0 hn1).trans d3
 exact Z7):P:=h
theorem Z6t {P:Prop}(h:P:=by
 refine wpList_store_row hgd _ x y ho w0.heap.size (ints l) hx hy _ old (World.alloc_heap_new w0 _) Z24 Z3z (ints_one l) ?_
 rw [World.setRow_alloc_new,hd]
 exact h):P:=h
theorem Z6u {P:Prop}(h:P:=by
 exact ⟨hN.grown ⟨by simp,fun _ _ _ _ h=>alKeep h⟩ (hN.below.ch2 (one_alloc _ _)),Hp.out⟩):P:=h
theorem Z6v {P:Prop}(h:P:=by
 rw [show s0.pass FAR bs (k +1)=s.step FAR k x from Hstep];simp [RL.step,ho]):P:=h
theorem Z6w {P:Prop}(h:P:=by
 split <;> first | rfl | exact hDk):P:=h
theorem Z6x {P:Prop}(h:P:=by
 unfold keptL;rw [List.mem_filter];exact ⟨hx,by simp [hk,hs]⟩):P:=h
theorem Z6y {P:Prop}(h:P:=by
 show D≠w.heap.size +1;omega):P:=h
theorem Z6z {P:Prop}(h:P:=by
 rintro pre W1 W2 row ⟨h1,h2⟩ hg hr
 exact ⟨gro _ _ _ _ _ h1 hg hr,h2⟩):P:=h
theorem Z71 {P:Prop}(h:P:=by
 simpa [SL.boxAt,e8] using qC):P:=h
theorem Z75 {P:Prop}(h:P:=by
 rintro x us u Wa Wb row ⟨b,h1,h2,h3⟩ hg hr
 exact Zv):P:=h
theorem Z76 {P:Prop}(h:P:=by
 obtain ⟨hj,he'⟩:=hop j o ho
 have:=h4 j hj i hi
 exact Z1d):P:=h
theorem Z78 {P:Prop}(h:P:=by
 rw [Hsu.out,hF.out];unfold limS;rw [Hl.out];rfl):P:=h
theorem Z79 {P:Prop}(h:P:=by
 injection hv with _ _ hv2
 omega):P:=h
theorem Z7c {P:Prop}(h:P:=by
 have hi:ops.length≤i:=by
  exact Z1p
 exact Z3t):P:=h
theorem Z7d {P:Prop}(h:P:=by
 have:=(Array.getElem?_eq_some_iff.1 hN.cB).1
 omega):P:=h
theorem Z7f {P:Prop}(h:P:=by
 simpa using hl):P:=h
theorem Z7g {P:Prop}(h:P:=by
 rw [List.drop_set_of_lt (by omega)]
 exact Z25):P:=h
theorem Z5 {P:Prop}(h:P:=by
 ((repeat (first | assumption | exact Below.refl _ _ | refine Below.alloc ?_ ?_ _ | refine Below.setCell ?_ ?_ _ | refine Below.drew ?_ | refine belowN ?_ | refine Below.up ?_ Z18 ?_)) <;> (first | assumption | omega | (simp;done) | (simp;omega)))):P:=h
theorem Z8 {P:Prop}(h:P:=by
 exact hK _ _ _ [] Zh (SL.Chg.refl _ _) ⟨rfl,rfl⟩ (fun j hj=>by cases hj)):P:=h
theorem Z9 {P:Prop}(h:P:=by
 first | assumption | omega | (simp;done) | (simp;omega)):P:=h
theorem Ze {P:Prop}(h:P:=by
 refine hK _ _ Z71 ⟨e2,qA,rfl⟩ ?_
 intro k hk
 left
 simpa [SL.boxAt,e8] using hk):P:=h
theorem Zf {P:Prop}(h:P:=by
 intro i x hx hDi hne
 by_cases hij:i=j
 ·subst hij
  rw [hs] at hx
  cases hx
  simp only [if_pos]
  refine ⟨by rw [hus];exact hAj,fun k hk=>?_⟩
  rcases hF k hk with h | ⟨h,h'⟩
  ·obtain ⟨_,_,_,_,_,h1,h2⟩:=hE k h
   exact ⟨h1,Nat.lt_of_lt_of_le h2 hch.size⟩
  ·exact ⟨.inr (Nat.le_trans hG.size h),h'⟩
 ·simp only [if_neg hij] at hDi ⊢
  have hne':∀ k y,k<ops.length→D k=true→Γ[k]?=some y→i ∉ y.eat:=fun k y hk hDk hy=>hne k y hk Z6w hy
  have hnj:i ∉ s.eat:=hne j s hjl (by simp) hs
  obtain ⟨h1,h2⟩:=hA i x hx hDi hne'
  have hsub:us' x.sub=us x.sub:=by
   rw [hus]
   split
   ·rename_i hd
    exfalso
    rcases hc.slot j o _ ho hd i x hx hij rfl with ⟨k,y,hk,hy,hiy,hkj⟩ | hji
    rotate_left
    ·by_cases hil:i<ops.length
     ·have:=hcl i j (hDi hil) hji
      rw [hD] at this;cases this
     ·have:(anc ops).getD i []=[]:=by
       simp only [List.getD_eq_getElem?_getD]
       rw [List.getElem?_eq_none (by rw [hc.ancLen];omega)]
       rfl
      rw [this] at hji
      cases hji
    rcases hkj with rfl | hkj
    ·rw [hs] at hy;cases hy;exact hnj hiy
    ·exact hne' k y hk (hancD k hkj) hy hiy
   ·rfl
  rw [hsub]
  refine ⟨x.st _ w w' _ h1 (fun k hk=>hch.block k (h2 k hk).2 fun hke=>?_) hch.size,fun k hk=>⟨(h2 k hk).1,Nat.lt_of_lt_of_le (h2 k hk).2 hch.size⟩⟩
  obtain ⟨e,y,he,hy,hke',_,_⟩:=hE k hke
  have hu:=hc.eatUse j s hjl hs e he
  exact hdis i e x y (fun h=>hnj (h ▸ he)) hx hy hDi (huse e hu).1 hne' (huse e hu).2 k hk hke'):P:=h
theorem Zg {P:Prop}(h:P:=by
 rintro e w6 ⟨rfl,hb6⟩
 exact hK _ _ _ [] Zh (.of_below hb6) ⟨rfl,rfl⟩ (fun j hj=>by cases hj)):P:=h
theorem Zh {P:Prop}(h:P:=by
 simp [Act.put];done):P:=h
theorem Zi {P:Prop}(h:P:=by
 intro i i' x x' hii hx hx' hDi hDi' hne hne' k hk hk'
 have up:∀ {i},(∀ k z,k<ops.length→(if k=j then true else D k)=true→Γ[k]?=some z→i ∉ z.eat)→(∀ k z,k<ops.length→D k=true→Γ[k]?=some z→i ∉ z.eat)∧i ∉ s.eat :=
  fun h=>⟨fun k y hk hDk hy=>h k y hk Z6w hy,h j s hjl (by simp) hs⟩
 obtain ⟨n1,n2⟩:=up hne
 obtain ⟨m1,m2⟩:=up hne'
 have key:∀ i' x',i'≠j→Γ[i']?=some x'→(i'<ops.length→D i'=true)→(∀ k z,k<ops.length→D k=true→Γ[k]?=some z→i' ∉ z.eat)→i' ∉ s.eat→∀ k ∈ F,k ∉ Fs i':=by
  intro i' x' hi' hx' hDi' m1 m2 k hk hk'
  rcases hF k hk with h | ⟨h,_⟩
  ·obtain ⟨e,y,he,hy,hke',_,_⟩:=hE k h
   have hu:=hc.eatUse j s hjl hs e he
   exact hdis i' e x' y (fun h=>m2 (h ▸ he)) hx' hy hDi' (huse e hu).1 m1 (huse e hu).2 k hk' hke'
  ·have:=((hA i' x' hx' hDi' m1).2 k hk').2
   omega
 by_cases hij:i=j
 ·have hij':i'≠j:=fun h=>hii (hij.trans h.symm)
  simp only [if_pos hij,if_neg hij'] at hk hk' hDi'
  exact key i' x' hij' hx' hDi' m1 m2 k hk hk'
 ·by_cases hij':i'=j
  ·simp only [if_neg hij,if_pos hij'] at hk hk' hDi
   exact key i x hij hx hDi n1 n2 k hk' hk
  ·simp only [if_neg hij,if_neg hij'] at hk hk' hDi hDi'
   exact hdis i i' x x' hii hx hx' hDi hDi' n1 m1 k hk hk'):P:=h
theorem Zj {P:Prop}(h:P:=by
 simp;omega):P:=h
theorem Zl {P:Prop}(h:P:=by
 rintro x us u W1 W2 row ⟨b,h1,h2,h3⟩ hg hr
 exact Zv):P:=h
theorem Zm {P:Prop}(h:P:=by
 intro k hk
 left
 simpa [SL.boxAt,e8] using hk):P:=h
theorem Zn {P:Prop}(h:P:=by
 simp only [keepOk,List.all_eq_true,Bool.and_eq_true,decide_eq_true_eq,List.mem_range,Bool.not_eq_true'] at hkeep
 have hk:∀ i ∈ keep,∀ k y,k<ops.length→Γ[k]?=some y→i ∉ y.eat:=fun i hi k y hk hy h=>by
  have:=(hkeep i hi).2 k hk
  rw [show Γ.getD k (pu 0 [] undef)=y from by simp [List.getD_eq_getElem?_getD,hy]] at this
  rw [← Bool.not_eq_true,List.contains_iff_mem] at this
  exact this h
 have hx:∀ i ∈ keep,∃ x,Γ[i]?=some x:=fun i hi=>⟨_,List.getElem?_eq_getElem (hkeep i hi).1⟩
 refine region hm F0 ds Γ Fs0 hck hin hdj hob fun us w' Fs hG hA hdis=>?_
 refine hend us w' Fs hG (used_of _ fun i x hi hx=>(hA i x hx (hk i hi)).1) (fun i hi=>?_) (fun i j hi hj hij=>?_)
 ·obtain ⟨x,hx⟩:=hx i hi
  exact (hA i x hx (hk i hi)).2
 ·obtain ⟨x,hxi⟩:=hx i hi
  obtain ⟨y,hyj⟩:=hx j hj
  exact hdis i j x y hij hxi hyj (hk i hi) (hk j hj)):P:=h
theorem Zo {P:Prop}(h:P:=by
 induction i using Nat.strongRecOn with
 | _ i ih =>
   intro hi
   by_cases h:listed.getD i false=true
   ·exact h
   ·exfalso
    have hi':i<listed.size:=by omega
    have hm:i ∈ Region.ready .any ops.toArray listed:=by
     simp only [Region.ready,List.mem_filter,List.mem_range,List.size_toArray,Bool.and_eq_true,Bool.not_eq_true']
     refine ⟨hi,?_,?_⟩
     ·simp [Array.getD,hi'] at h ⊢;exact h
     ·have ho:ops[i]?=some ops[i]:=List.getElem?_eq_getElem hi
      simp only [List.getElem?_toArray,ho,Option.map_some,Option.getD_some,Array.all_eq_true']
      intro e he
      by_cases hb:Region.binds .any e=true
      ·have hlt:=hc.low i _ ho e he hb
       simp [hb]
       have:=ih e.on hlt (by omega)
       simpa using this
      ·simp at hb;simp [hb]
    rw [hr] at hm
    cases hm):P:=h
theorem Zr {P:Prop}(h:P:=by
 intro a' w' hI'
 refine ih _ a' w' Z7f ?_ ?_
 ·have hv:listed.toList[j]'(by simpa using hj')=false:=by
   simp [Array.getD,hj'] at hD;simpa using hD
  rw [Array.toList_setIfInBounds]
  have:=List.count_set (l:=listed.toList) (i:=j) (a:=true) (b:=false) (by simpa [Array.length_toList] using hj')
  rw [this]
  simp [hv,hcnt]
 ·have:(fun i=>(listed.setIfInBounds j true).getD i false)=(fun i=>if i=j then true else listed.getD i false):=by
   funext i
   by_cases hij:i=j
   ·subst hij;simp [Array.getD,hj']
   ·simp only [if_neg hij]
    by_cases hi:i<listed.size
    ·simp [Array.getD,hi,Ne.symm hij]
    ·simp [Array.getD,hi]
  rw [this]
  exact hI'):P:=h
theorem Zt {P:Prop}(h:P:=by
 intro listed a w hl hcnt hI
 have hall:∀ i,i<ops.length→listed.getD i false=true:=fun i hi=>by
  have hi':i<listed.size:=by omega
  have:=List.count_eq_zero.1 hcnt
  cases hv:listed.getD i false with
  | true=>rfl
  | false =>
    exfalso
    apply this
    simp [Array.getD,hi'] at hv
    rw [← hv]
    simp
 refine ⟨?_,hend _ a w hall hI⟩
 rw [List.eq_nil_iff_forall_not_mem]
 intro i hi
 simp only [Region.ready,List.mem_filter,List.mem_range,List.size_toArray,Bool.and_eq_true,Bool.not_eq_true'] at hi
 have:=hall i hi.1
 have hi':i<listed.size:=by omega
 have h2:=hi.2.1
 simp [Array.getD,hi'] at this h2
 rw [this] at h2
 cases h2):P:=h
theorem Zv {P:Prop}(h:P:=by
 exact ⟨b,h1,(KeepC_w.of_grown hg fun r e=>(hr r e).2).cells _ _ _ _ h2,h3⟩):P:=h
theorem Z10 {P:Prop}(h:P:=by
 obtain ⟨hj,he'⟩:=hop j o ho
 have:=(h5 j hj).2
 rw [he',hd] at this
 simp only [List.all_eq_true,List.mem_range,Bool.or_eq_true,beq_iff_eq,bne_iff_ne,ne_eq,List.any_eq_true,Bool.and_eq_true,List.contains_iff_mem] at this
 have:=this i (List.getElem?_eq_some_iff.1 hx).1
 rw [hΓ i x hx] at this
 rcases this with ((h | h) | ⟨k,hk,h,h'⟩) | h
 ·exact absurd h hij
 ·exact absurd hsub h
 rotate_left
 ·exact .inr h
 ·left
  have hkl:k<Γ.length:=Nat.lt_of_lt_of_le hk h2
  refine ⟨k,Γ[k],hk,List.getElem?_eq_getElem hkl,?_,h'⟩
  rwa [hΓ k Γ[k] (List.getElem?_eq_getElem hkl)] at h):P:=h
theorem Z11 {P:Prop}(h:P:=by
 exact keeps_of_chg_w (E:=[]) (.of_below (one_alloc _ _)) (by simp)):P:=h
theorem Z13 {P:Prop}(h:P:=by
 have:∀ (l:List Value) (s:Nat),(∀ i,i<l.length→l[i]?=some (a0.tmps.getD (s +i) undef))→put' ds (fun s=>a0.tmps.getD s undef) s l=l:=by
  intro l
  induction l with
  | nil=>intro s _;rfl
  | cons x xs ih =>
    intro s h
    have h0:=h 0 (by simp)
    simp at h0
    simp only [put']
    rw [ih (s +1) (fun i hi=>by have:=h (i +1) Z37;simpa [Nat.add_assoc,Nat.add_comm 1 i] using this)]
    split
    ·rw [h0];simp
    ·rfl
 unfold frame
 rw [this a0.tmps.toList 0 (fun i hi=>by simp at hi;simp [hi])]):P:=h
theorem Z14 {P:Prop}(h:P:=by
 rintro e W2 ⟨⟨v,rfl⟩,(⟨s,hS,hi,hl,hk⟩ | ⟨s,hS,c,hi,hl,hk⟩)⟩
 ·exact ⟨none,_,by have:=run_endLoop (P:=P) hl (by rw [hrec];simp);rw [hrec] at this;exact this,hdone _ s _ (Nat.le_refl _) hS (hI.putObj _ hi (by omega) hl rfl) ((World.putObj_heap_other (by omega)).trans hk)⟩
 ·exact ⟨some c,_,by have:=run_endLoop (P:=P) hl (by rw [hrec];simp);rw [hrec] at this;exact this,wpIn_wide.2 (hstop _ c s _ (Nat.le_refl _) hS ((hIx c).putObj _ hi (by omega) hl rfl) ((World.putObj_heap_other (by omega)).trans hk))⟩):P:=h
theorem Z16 {P:Prop}(h:P:=by
 unfold chk at h
 split at h
 ·omega
 ·split at h
  ·omega
  ·split at h
   ·rename_i h3
    intro b hb
    have h4:=List.all_eq_true.1 h3 b hb
    simp only [Bd.ok,Bool.and_eq_true,withinB_iff] at h4
    omega
   ·omega):P:=h
theorem Z17 {P:Prop}(h:P:=by
 induction j using Nat.strongRecOn with
 | _ j ih =>
   intro i hi
   rcases Nat.lt_or_ge j ops.length with hj | hj
   ·obtain ⟨e,he,hb,h⟩:=hc.anc j _ (List.getElem?_eq_getElem hj) i hi
    have hl:=hc.low j _ (List.getElem?_eq_getElem hj) e he hb
    rcases h with rfl | h
    ·omega
    ·exact ih _ hl i h
   ·simp only [List.getD_eq_getElem?_getD] at hi
    rw [List.getElem?_eq_none (by rw [hc.ancLen];omega)] at hi
    cases hi):P:=h
theorem Z18 {P:Prop}(h:P:=by
 assumption):P:=h
theorem Z19 {P:Prop}(h:P:=by
 rintro D c pre x post W2 hD he h0 hdef
 exact h0.elim):P:=h
theorem Z1a {P:Prop}(h:P:=by
 rcases hat with h | h
 ·left;rw [← h];exact hk
 ·rw [h] at hk;simp at hk;subst hk;right;exact ⟨Nat.le_refl _,by have:=(SL.row_bounds ho6 w'.heap.size (by simp [h])).2;exact this⟩):P:=h
theorem Z1b {P:Prop}(h:P:=by
 exact ⟨W1.heap.size,rfl,World.alloc_heap_new _ _,hw⟩):P:=h
theorem Z1c {P:Prop}(h:P:=by
 intro hm
 rcases List.mem_cons.1 hm with e | hm
 ·omega
 ·obtain ⟨_,⟨hv,_⟩ | ⟨g,cap',cur,hv,_,hg,_⟩⟩:=hrow
  ·rw [hv] at hm;simp [Value.ownBlock] at hm
  ·rw [hv] at hm
   simp [Value.ownBlock] at hm
   subst hm
   rw [hg] at hb
   simp at hb):P:=h
theorem Z1d {P:Prop}(h:P:=by
 rw [he',List.any_eq_true] at this
 obtain ⟨e,he,hb⟩:=this
 simp only [Bool.and_eq_true,Bool.or_eq_true,beq_iff_eq,List.contains_iff_mem] at hb
 exact ⟨e,by simpa using he,hb.1,hb.2⟩):P:=h
theorem Z1f {P:Prop}(h:P:=by
 rw [List.getD_eq_getElem?_getD,List.getElem?_eq_getElem (by omega)]
 exact List.getElem_mem _):P:=h
theorem Z1h {P:Prop}(h:P:=by
 obtain ⟨h1,h2⟩:=hc.see j s hjl hs i hi
 have hil:i<ops.length:=by
  obtain ⟨e,he,hb,h'⟩:=hc.anc j o ho i h1
  have hlow:=hc.low j o ho e he hb
  rcases h' with rfl | h'
  ·omega
  ·exact anc_lt hc _ _ h'
 have hoi:ops[i]?=some ops[i]:=List.getElem?_eq_getElem hil
 exact hV i _ x hoi hx (hancD i h1) (h2 _ x hoi hx)):P:=h
theorem Z1j {P:Prop}(h:P:=by
 rintro e w' ⟨rfl,hb⟩
 exact ⟨by simp,hb⟩):P:=h
theorem Z1k {P:Prop}(h:P:=by
 obtain ⟨h1,h2,h3⟩:=hc.use j s hjl hs i hi
 refine ⟨fun hin=>?_,fun k y hk hDk hy hiy=>?_⟩
 ·rcases h1 with h1 | h1
  ·omega
  ·exact hancD i h1
 ·by_cases hkj:k=j
  ·subst hkj;rw [hD] at hDk;cases hDk
  ·have:=hcl k j hDk (hc.order j s hjl hs i hi k y hk hy hkj hiy)
   rw [hD] at this;cases this):P:=h
theorem Z1l {P:Prop}(h:P:=by
 have hb:∃ cs t f,W.heap[b]?=some (.cells cs t f):=by
  unfold World.cell? at hc
  simp only at hc
  cases hh:W.heap[b]? with
  | none=>simp [hh] at hc
  | some ob=>cases ob <;> simp [hh] at hc;exact ⟨_,_,_,rfl⟩
 obtain ⟨cs,t,f,hb⟩:=hb
 rw [World.cell?_of_block (w:=W) ((h.cells _ _ _ _ hb).trans hb.symm)]
 exact hc):P:=h
theorem Z1m {P:Prop}(h:P:=by
 have hi:ops.length≤i:=by
  rcases Nat.lt_or_ge i ops.length with h | h
  ·have:=hDi h;rw [hD] at this;cases this
  ·exact h
 have hj:ops.length≤j:=by
  rcases Nat.lt_or_ge j ops.length with h | h
  ·have:=hDj h;rw [hD] at this;cases this
  ·exact h
 exact hdj i j hij hi hj):P:=h
theorem Z1n {P:Prop}(h:P:=by
 obtain ⟨x,hx⟩:∃ x,Γ[i]?=some x:=⟨_,List.getElem?_eq_getElem (hc.use j s hjl hs i hi).2.2⟩
 obtain ⟨x',hx'⟩:∃ x,Γ[i']?=some x:=⟨_,List.getElem?_eq_getElem (hc.use j s hjl hs i' hi').2.2⟩
 exact hdis i i' x x' hii hx hx' (huse i hi).1 (huse i' hi').1 (huse i hi).2 (huse i' hi').2):P:=h
theorem Z1o {P:Prop}(h:P:=by
 refine ⟨hch.os.trans hG.os,hch.tape.trans hG.tape,hch.output.trans hG.output,Nat.le_trans hG.size hch.size,fun k hk hn=>?_⟩
 rw [hch.block k (Nat.lt_of_lt_of_le hk hG.size) (fun hke=>?_),hG.block k hk hn]
 obtain ⟨_,_,_,_,_,h,_⟩:=hE k hke
 rcases h with h | h
 ·exact hn h
 ·omega):P:=h
theorem Z1p {P:Prop}(h:P:=by
 rcases Nat.lt_or_ge i ops.length with h | h
 ·have:=hDi h;rw [hD] at this;cases this
 ·exact h):P:=h
theorem Z1q {P:Prop}(h:P:=by
 have h1:=(hbd 6 (by simp) k (by rw [hF];simp at hk ⊢;simp [hk])).1
 have h2:=(SL.row_bounds hr k hk).1
 rcases h1 with h1 | h1
 ·rcases List.mem_cons.1 h1 with e | h1
  ·omega
  ·exact .inl h1
 ·exact .inr h1):P:=h
theorem Z1s {P:Prop}(h:P:=by
 unfold maxLen;omega):P:=h
theorem Z1t {P:Prop}(h:P:=by
 obtain ⟨e,he,hke⟩:=List.mem_flatMap.1 hk
 have hu:=hc.eatUse j s hjl hs e he
 have hel:=(hc.use j s hjl hs e hu).2.2
 have:=(hA e Γ[e] (List.getElem?_eq_getElem hel) (huse e hu).1 (huse e hu).2).2 k hke
 exact ⟨e,Γ[e],he,List.getElem?_eq_getElem hel,hke,this.1,this.2⟩):P:=h
theorem Z1u {P:Prop}(h:P:=by
 rw [World.size_alloc] at e1
 rw [World.size_alloc,World.size_alloc] at e2
 exact ⟨alKeep (alKeep (World.alloc_heap_new _ _)),alKeep e1,e2⟩):P:=h
theorem Z1v {P:Prop}(h:P:=by
 obtain ⟨q1,q2⟩:=of_err hb2
 exact of_leaves (B:=w2.heap.size +1 +1) rfl (by omega) (by omega) ⟨by simp,by simp⟩ (alKeep (one_set q1 _)) ((q2.setCell (show w.heap.size≤w.heap.size +1 by omega) _).ch2 (one_alloc _ _)) (fun W' hb=>HP.out 1 W' hb rfl)):P:=h
theorem Z1w {P:Prop}(h:P:=by
 exact hend us w2 Fs hG (fun i x hx hne=>hA i x hx (fun hi=>hall i hi) (fun k y hk _ hy=>hne k y hk hy))
  (fun i j x y hij hx hy n1 n2=>hdis i j x y hij hx hy (fun hi=>hall i hi) (fun hj=>hall j hj) (fun k z hk _ hz=>n1 k z hk hz) (fun k z hk _ hz=>n2 k z hk hz))):P:=h
theorem Z1x {P:Prop}(h:P:=by
 have e:l=l.take k ++l[k]::l.drop (k +1):=by rw [List.getElem_cons_drop,List.take_append_drop]
 conv=>lhs;rw [e]
 rw [List.takeWhile_append_of_pos (by rw [List.any_eq_false] at h;intro x hx;have:=h x hx;simpa using this),List.takeWhile_cons]
 simp [hf]
 omega):P:=h
theorem Z1y {P:Prop}(h:P:=by
 have hl3:=hk3.same _ _ (by omega) hlb rfl
 have hr3:=run_endRound (P:=P) jump hl3
 refine ⟨by rw [hrec] at hr3 ⊢;exact hr3,hl3,World.putObj_heap_same (low hl3),(World.putObj_heap_other (by omega)).trans (hk3.same _ _ (Nat.le_refl _) hdb rfl)⟩):P:=h
theorem Z1z {P:Prop}(h:P:=by
 intro i oi x hoi hx hDi hdi
 by_cases hij:i=j
 ·subst hij
  rw [hs] at hx
  cases hx
  rw [hus]
  exact hVj
 ·simp only [if_neg hij] at hDi
  rw [hus,if_neg (hc.single i j oi o _ hoi ho hij hdi)]
  exact hV i oi x hoi hx hDi hdi):P:=h
theorem Z20 {P:Prop}(h:P:=by
 have:=(h5 j hj).1.2 i
 rw [hΓ j s hs] at this
 have:=this hi k hk
 rw [hΓ k y hy] at this
 rcases this with (h | h) | h
 ·exact absurd h hkj
 ·rw [← Bool.not_eq_true,List.contains_iff_mem] at h
  exact absurd hiy h
 ·exact h):P:=h
theorem Z21 {P:Prop}(h:P:=by
 obtain ⟨r',ht',hB',hr'⟩:=hm e (by simp [he])
 refine ⟨r',ht',hB',?_⟩
 have hne:r'≠r:=fun heq=>by
  have:=hp.1 e he
  rw [ht,ht',heq] at this
  exact this rfl
 rw [World.putObj_heap_other hne]
 exact hr'):P:=h
theorem Z23 {P:Prop}(h:P:=by
 rw [hlk.sid] at hs
 rcases hk with hk | hk
 ·exact (hlk.wms x Z6x).lo
 ·exact (hlk.tms x Z6x).lo):P:=h
theorem Z25 {P:Prop}(h:P:=by
 have:=congrArg (List.drop 1) h5
 simpa [List.drop_drop,Nat.add_comm] using this):P:=h
theorem Z26 {P:Prop}(h:P:=by
 have:=SL.row_set HO.out (p:=⟨w.heap.size,0,none⟩) (fun h=>by
  have:=(SL.row_bounds HO.out _ h).1
  simp at this
  omega) (.slice sa (pre.length +1) sc)
 rw [Hic.out,List.length_append]
 exact this):P:=h
theorem Z27 {P:Prop}(h:P:=by
 rintro W1 k hk ⟨a1,a2⟩ hd
 have hg:=grownBy_putObj' W1 k (.deferred none)
 exact ⟨(KeepC_w.of_grown hg fun r e=>by cases e;exact ⟨_,hd,rfl⟩).cells _ _ _ _ a1,a2.grown hg a2.size (fun r e=>by cases e;omega)⟩):P:=h
theorem Z28 {P:Prop}(h:P:=by
 rintro W3 r hr ⟨a1,a2⟩ hd
 have hg:=grownBy_putObj' W3 r (.deferred none)
 exact ⟨a1.grown hg a1.size (fun k hk=>by cases hk;omega),row_keepC_w a2 (.of_grown hg fun k hk=>by cases hk;exact ⟨_,hd,rfl⟩)⟩):P:=h
theorem Z29 {P:Prop}(h:P:=by
 rintro c s W1 W2 row h0 hg hr
 exact h0):P:=h
theorem Z2b {P:Prop}(h:P:=by
 refine List.pairwise_cons.2 ⟨fun M hM k hk hm=>?_,List.pairwise_singleton _ _⟩
 rw [List.mem_singleton.1 hM,List.mem_singleton.1 hk] at hm
 have:=(hb1 _ hm).1
 omega):P:=h
theorem Z2d {P:Prop}(h:P:=by
 cases hd:o.dst with
 | none=>simp [us',hd]
 | some d =>
   simp only [us',hd,Option.some.injEq]
   by_cases e:t=d
   ·rw [if_pos e,if_pos e.symm]
   ·rw [if_neg e,if_neg (fun h=>e h.symm)]):P:=h
theorem Z2e {P:Prop}(h:P:=by
 simp [List.getD_eq_getElem?_getD,List.getElem?_eq_getElem hi]):P:=h
theorem Z2f {P:Prop}(h:P:=by
 intro k i hk hi
 by_cases hik:i=j
 ·simp [hik]
 ·simp only [if_neg hik]
  by_cases hkj:k=j
  ·subst hkj;exact hancD i hi
  ·simp only [if_neg hkj] at hk
   exact hcl k i hk hi):P:=h
theorem Z2g {P:Prop}(h:P:=by
 have:=(Array.getElem?_eq_some_iff.1 hN.cI).1
 omega):P:=h
theorem Z2h {P:Prop}(h:P:=by
 unfold gi fars
 rw [List.getD_eq_getElem?_getD,List.getElem?_replicate,if_pos (by omega)]
 rfl):P:=h
theorem Z2i {P:Prop}(h:P:=by
 refine ⟨hg.size,fun k cs t f h=>?_⟩
 rw [hg.block k (Array.getElem?_eq_some_iff.1 h).1 (fun e=>?_)]
 ·exact h
 ·obtain ⟨o,ho,hc⟩:=hr k e.symm
  rw [h] at ho;cases ho;cases hc):P:=h
theorem Z2j {P:Prop}(h:P:=by
 exact HP.out 1 _ (((one_alloc w _).ch2 hb1).ch2 (one_alloc _ _)) rfl):P:=h
theorem Z2l {P:Prop}(h:P:=by
 obtain ⟨c,hc,hl,hk⟩:=hs
 exact ⟨c,hIx c s A B row hc hg' (nocells (B:=B) hr),(far hg' hr (by omega) (low hl)).trans hl,(far hg' hr (by omega) (low hk)).trans hk⟩):P:=h
theorem Z2m {P:Prop}(h:P:=by
 have:=(h5 j hj).1.1.1.2 i
 rw [hΓ j s hs] at this
 obtain ⟨a,b⟩:=this hi
 refine ⟨a,fun o x ho hx=>?_⟩
 rw [(hop i o ho).2,hΓ i x hx] at b
 exact b):P:=h
theorem Z2o {P:Prop}(h:P:=by
 have:=(h5 j (hop j o' hoj).1).1.1.2 i (hop i o hoi).1
 rcases this with h | h
 ·exact hij h
 ·rw [(hop i o hoi).2,(hop j o' hoj).2,hdi,hdj] at h
  simp at h):P:=h
theorem Z2p {P:Prop}(h:P:=by
 rintro e w' ⟨rfl,rfl⟩
 exact ⟨_,rfl,Below.refl _ _,World.ownsRow_nil _ _ _ _⟩):P:=h
theorem Z2s {P:Prop}(h:P:=by
 obtain ⟨_,⟨h0,_⟩ | ⟨g,c,cur,hv,_⟩⟩:=ho
 ·injection h0 with h0
  exact absurd h0 hne
 ·injection hv with hv1
  exact ⟨g,hv1⟩):P:=h
theorem Z2u {P:Prop}(h:P:=by
 exact hN.grown ⟨by simp,fun _ _ _ _ h=>alKeep h⟩ (hN.below.ch2 (one_alloc _ _))):P:=h
theorem Z2v {P:Prop}(h:P:=by
 have:=congrArg (fun l=>l[0]?) h.rest
 simp only [List.getElem?_drop,Nat.add_zero] at this
 rw [List.getD_eq_getElem?_getD,List.getD_eq_getElem?_getD,this]):P:=h
theorem Z2w {P:Prop}(h:P:=by
 have:=gD_self (Sys.of_chk hc) hok (a:=(i:Int)) (by omega) (by omega)
 simp only [Int.natCast_zero,Int.add_zero]
 rw [this]
 unfold FAR;omega):P:=h
theorem Z2x {P:Prop}(h:P:=by
 obtain ⟨hj,he'⟩:=hop j o ho
 have:=h3 j hj e (by rw [he'];simpa using he)
 rcases this with h | h
 ·rw [hb] at h;cases h
 ·exact h):P:=h
theorem Z2y {P:Prop}(h:P:=by
 cases hd:o.dst with
 | none=>simp [us',hd,Act.put]
 | some d=>rw [frame_put _ _ _ _ _ (hc.dst o (List.mem_of_getElem? ho) d hd)];simp [us',hd]):P:=h
theorem Z2z {P:Prop}(h:P:=by
 simp [Act.put, *];done):P:=h
theorem Z30 {P:Prop}(h:P:=by
 rw [hz3];exact hb2):P:=h
theorem Z31 {P:Prop}(h:P:=by
 rw [List.set_append_right _ _ (by simp)]
 rw [show 60 - k=(60 - (k +1)) +1 by omega,List.replicate_succ]
 simp [List.replicate_succ']):P:=h
theorem Z32 {P:Prop}(h:P:=by
 have:=List.head_dropWhile_not (p:=fun x=>!f x) (l:=xs) (by rw [hd];simp)
 simp only [hd,List.head_cons] at this
 simpa using this):P:=h
theorem Z33 {P:Prop}(h:P:=by
 rw [show ((fr.toNat:Nat):Int)=fr by have:=h.pf;omega,show fr +(((tw - fr).toNat:Nat):Int)=tw by have:=h.pl;omega] at this
 exact this):P:=h
theorem Z34 {P:Prop}(h:P:=by
 exact hK _ undef _ _ rfl trivial (chg_setRow _ _ _ (by simp [SLF.at_,hF])) ⟨setRow_heap _ _ _ _ _ _ hh,rfl⟩ (by simp [SLF.at_,hF])):P:=h
theorem Z35 {P:Prop}(h:P:=by
 rw [Hn.out,← Hds.out];simp [dubKs]):P:=h
theorem Z37 {P:Prop}(h:P:=by
 simpa using hi):P:=h
theorem Z38 {P:Prop}(h:P:=by
 obtain ⟨e,he,hb,h⟩:=hc.anc j o ho i hi
 rcases h with rfl | h
 ·exact hpre e he hb
 ·exact hcl _ _ (hpre e he hb) h):P:=h
theorem Z39 {P:Prop}(h:P:=by
 rw [← hW1];have:=World.alloc_heap_new (w.alloc (.deferred (some []))) (.loop (rec .ready none));rwa [World.size_alloc] at this):P:=h
theorem Z3a {P:Prop}(h:P:=by
 intro j hj
 rcases List.mem_cons.1 hj with e | hm
 ·omega
 ·have:=(hb1 j hm).1;omega):P:=h
theorem Z3b {P:Prop}(h:P:=by
 obtain ⟨_,⟨h0,_⟩ | ⟨g,c,cur,hv,_,_,hnc,_⟩⟩:=ho
 ·cases h0
 ·exact Z79):P:=h
theorem Z3c {P:Prop}(h:P:=by
 simp [Act.eval,SL.frame,SL.put']):P:=h
theorem Z3e {P:Prop}(h:P:=by
 simp [SL.boxAt,e8]):P:=h
theorem Z3g {P:Prop}(h:P:=by
 have:=congrArg List.length hd.out.kept
 rw [hJ,List.take_length,List.length_take] at this
 omega):P:=h
theorem Z3h {P:Prop}(h:P:=by
 rcases List.mem_cons.1 hj with e | hm
 ·left;omega
 ·right;exact row_cellsT hrow j hm):P:=h
theorem Z3i {P:Prop}(h:P:=by
 have:=(h5 j hj).1.1.1.1.2 i
 rw [hΓ j s hs] at this
 obtain ⟨⟨a,b⟩,c⟩:=this hi
 exact ⟨a,b,c⟩):P:=h
theorem Z3k {P:Prop}(h:P:=by
 show w.heap.size +1≠w.heap.size +1 +1;omega):P:=h
theorem Z3l {P:Prop}(h:P:=by
 have:=(SL.row_bounds ho2 _ hm).1
 simp at this
 omega):P:=h
theorem Z3m {P:Prop}(h:P:=by
 simp [SL.aw_use]):P:=h
theorem Z3n {P:Prop}(h:P:=by
 rw [List.filter_eq_self]
 intro x hx
 rw [List.any_eq_false] at hA
 simpa using hA x hx):P:=h
theorem Z3o {P:Prop}(h:P:=by
 show w.heap.size≠w.heap.size +1 +1;omega):P:=h
theorem Z3p {P:Prop}(h:P:=by
 rw [fars_len];omega):P:=h
theorem Z3q {P:Prop}(h:P:=by
 intro z hz
 left
 simpa [SL.boxAt,e12] using hz):P:=h
theorem Z3r {P:Prop}(h:P:=by
 have:=hz7.size;simp;omega):P:=h
theorem Z3s {P:Prop}(h:P:=by
 rw [List.append_nil] at hsplit
 have:=hall y (by rw [hsplit];exact hy)
 simp [hf] at this):P:=h
theorem Z3t {P:Prop}(h:P:=by
 obtain ⟨h1,h2⟩:=hin i x hi hx
 exact ⟨h1,fun k hk=>⟨.inl (h2 k hk).1,(h2 k hk).2⟩⟩):P:=h
theorem Z3u {P:Prop}(h:P:=by
 exact (hbe.trans (hG6.belowW (by omega) fun k hk=>by have:=hbr k hk;omega)).setCell (by simp) _):P:=h
theorem Z3v {P:Prop}(h:P:=by
 simpa using h):P:=h
theorem Z3w {P:Prop}(h:P:=by
 rw [ics_one1];exact hu):P:=h
theorem Z3x {P:Prop}(h:P:=by
 rw [HR.out,He.out];rfl):P:=h
theorem Z3z {P:Prop}(h:P:=by
 rw [ints_size,hl,ho']):P:=h
theorem Z40 {P:Prop}(h:P:=by
 rcases hat with e | e
 ·exact .inl e
 ·exact .inr ⟨_,e,by simp⟩):P:=h
theorem Z41 {P:Prop}(h:P:=by
 rw [← hW1];exact (Below.heap_alloc _ _ _ (by simp)).trans (World.alloc_heap_new w _)):P:=h
theorem Z42 {P:Prop}(h:P:=by
 rw [World.size_alloc,World.size_alloc,World.size_alloc];exact hb5):P:=h
theorem Z43 {P:Prop}(h:P:=by
 unfold keptL;rw [List.mem_filter];exact ⟨hx,by simp [hk,he]⟩):P:=h
theorem Z44 {P:Prop}(h:P:=by
 have:=hb6.size;omega):P:=h
theorem Z45 {P:Prop}(h:P:=by
 rcases List.mem_cons.1 hy with h | h
 ·left;omega
 ·right;exact hcl y h):P:=h
theorem Z46 {P:Prop}(h:P:=by
 simpa using hk):P:=h
theorem Z47 {P:Prop}(h:P:=by
 rcases List.mem_cons.1 hm with e | hm
 ·omega
 ·have:=(hb1 j hm).1;omega):P:=h
theorem Z48 {P:Prop}(h:P:=by
 rcases List.mem_cons.1 hk with e | hm
 ·omega
 ·have:=(hb1 k hm).1;omega):P:=h
theorem Z49 {P:Prop}(h:P:=by
 rw [← hW1];exact ((Below.refl _ w).alloc (Nat.le_refl _) _).alloc (by simp) _):P:=h
theorem Z4a {P:Prop}(h:P:=by
 rw [List.mem_take_iff_getElem];exact ⟨i,by omega,rfl⟩):P:=h
theorem Z4d {P:Prop}(h:P:=by
 have:=(h5 j hj).1.1.1.1.1 i
 rw [hΓ j s hs] at this
 exact this hi):P:=h
theorem Z4e {P:Prop}(h:P:=by
 rw [Bool.false_and,if_neg (by simp),List.append_nil]):P:=h
theorem Z4f {P:Prop}(h:P:=by
 simpa [List.getD_eq_getElem?_getD,List.getElem?_eq_getElem hk] using hx):P:=h
theorem Z4g {P:Prop}(h:P:=by
 exact hK _ _ _ _ rfl trivial (SL.Chg.refl _ _) ⟨rfl,rfl⟩ (by simp)):P:=h
theorem Z4h {P:Prop}(h:P:=by
 rw [e];exact hV):P:=h
theorem Z4j {P:Prop}(h:P:=by
 simpa using ho):P:=h
theorem Z4k {P:Prop}(h:P:=by
 rw [hz0];omega):P:=h
theorem Z4l {P:Prop}(h:P:=by
 have h1:=congrArg List.length he
 simp at h1 ⊢
 omega):P:=h
theorem Z4n {P:Prop}(h:P:=by
 exact askE_in hc hok (by omega) (by omega) (by omega) (by omega)):P:=h
theorem Z4p {P:Prop}(h:P:=by
 have:=(Array.getElem?_eq_some_iff.1 hcI).1
 omega):P:=h
theorem Z4q {P:Prop}(h:P:=by
 unfold waysB;rw [List.length_append];omega):P:=h
theorem Z4r {P:Prop}(h:P:=by
 rw [HR.out,if_neg (by rw [He0];exact h0)]):P:=h
theorem Z4s {P:Prop}(h:P:=by
 rintro e w' ⟨v,rfl,ho,_,hb⟩
 exact ⟨v,rfl,hb,ho⟩):P:=h
theorem Z4u {P:Prop}(h:P:=by
 simp only [List.mem_cons];exact .inr hk'):P:=h
theorem Z50 {P:Prop}(h:P:=by
 simp [SL.boxAt,e12]):P:=h
theorem Z51 {P:Prop}(h:P:=by
 rw [hF];simp):P:=h
theorem Z52 {P:Prop}(h:P:=by
 rintro pre W1 W2 row h1 hg hr
 exact gro _ _ _ _ h1 hg hr):P:=h
theorem Z54 {P:Prop}(h:P:=by
 rcases hb with rfl | rfl <;> simp [Bd.ok,withinB] <;> omega):P:=h
theorem Z55 {P:Prop}(h:P:=by
 rw [ics_length,List.length_take];omega):P:=h
theorem Z56 {P:Prop}(h:P:=by
 have:=(h1 o ho).2
 rw [hd] at this
 simpa using this):P:=h
theorem Z58 {P:Prop}(h:P:=by
 rw [if_neg (by simp),List.append_nil]):P:=h
theorem Z59 {P:Prop}(h:P:=by
 exact HP.out _ _ (hB5.ch2 hb4) (SL.row_base ho4 hB5.size)):P:=h
theorem Z5c {P:Prop}(h:P:=by
 rw [World.size_alloc,World.size_alloc] at h
 exact h):P:=h
theorem Z5d {P:Prop}(h:P:=by
 exact ⟨Wa.heap.size,rfl,World.alloc_heap_new _ _,hw⟩):P:=h
theorem Z5e {P:Prop}(h:P:=by
 exact hK _ _ _ _ rfl (SL.Chg.refl _ _) rfl rfl (by simp)):P:=h
theorem Z5f {P:Prop}(h:P:=by
 simp [Act.eval,SL.frame,SL.put',u1]):P:=h
theorem Z5g {P:Prop}(h:P:=by
 rintro (h | h | h) <;> simp [h]):P:=h
theorem Z5h {P:Prop}(h:P:=by
 unfold maxLen;have:=Hln.out;omega):P:=h
theorem Z5i {P:Prop}(h:P:=by
 have:=hb1.size;simp at this;omega):P:=h
theorem Z5j {P:Prop}(h:P:=by
 simp at ho hs
 subst ho;subst hs
 exact h.1):P:=h
theorem Z5k {P:Prop}(h:P:=by
 rw [← hW1,hrec];exact run_enterLoop_outer _ _ _ _ _):P:=h
theorem Z5l {P:Prop}(h:P:=by
 simpa using hsz):P:=h
theorem Z5m {P:Prop}(h:P:=by
 symm
 rw [List.filter_eq_self]
 exact hall):P:=h
theorem Z5n {P:Prop}(h:P:=by
 rintro c s Wa Wb row h0 hg hr
 exact h0):P:=h
theorem Z5o {P:Prop}(h:P:=by
 simpa using hs):P:=h
theorem Z5p {P:Prop}(h:P:=by
 exact HP.out _ _ ((hB0.ch2 hb7).ch2 hb8) (by simp)):P:=h
end Go.Proofs.YtelkcohhagblaaaGreat
namespace Go.Proofs.YtelkcohhagblaaaGreat.SL
open Go Go.RowKit
/-- What is said of one operation: the slot that it speaks of; the operations (by number) that it uses, and takes over; what holds of the slot's value, of the world, and of the blocks that it holds for itself. -/
structure Sp where
 sub:Nat
 use:List Nat
 eat:List Nat
 A:Value→World→List Nat→Prop
 see:List Nat:=[]
 V:Value→Prop:=fun _=>True
 quiet:Bool:=false
 st:∀ (v:Value) (w w':World) (F:List Nat),A v w F→(∀ k ∈ F,w'.heap[k]?=w.heap[k]?)→w.heap.size≤w'.heap.size→A v w' F

/-- A value, and nothing of memory. -/
def pu (s:Nat) (u:List Nat) (v:Value):Sp:={ sub:=s,use:=u,eat:=[],A:=fun x _ F=>x=v∧F=[],st:=fun _ _ _ _ h _ _=>h }

/-- Only the blocks E may have been written. -/
structure Chg (E:List Nat) (w w':World):Prop where
 os:w'.os=w.os
 tape:w'.tape=w.tape
 output:w'.output=w.output
 size:w.heap.size≤w'.heap.size
 block:∀ k,k<w.heap.size→k ∉ E→w'.heap[k]?=w.heap[k]?
theorem Chg.refl (E:List Nat) (w:World):Chg E w w:=⟨rfl,rfl,rfl,Nat.le_refl _,fun _ _ _=>rfl⟩
theorem Chg.of_below {E:List Nat} {w w':World} (h:Below w.heap.size w w'):Chg E w w':=⟨h.os,h.tape,h.output,h.size,fun k hk _=>h.block k hk⟩
theorem Chg.of_grown {w w':World} {k0:Nat} {E:List Nat} (h:w.grownBy w' (some k0)) (hE:k0 ∈ E):Chg E w w' :=
 ⟨h.os,h.tape,h.output,h.size,fun k hk hn=>h.block k hk (fun e=>hn (by cases e;exact hE))⟩
theorem Chg.alloc (E:List Nat) (w:World) (o:Obj):Chg E w (w.alloc o):=.of_below ((Below.refl _ _).alloc (Nat.le_refl _) _)
theorem Chg.setCell {E:List Nat} (w:World) {p:Addr} (h:p.block ∈ E) (v:Value):Chg E w (w.setCell p v) :=
 ⟨rfl,rfl,rfl,by simp [World.setCell],fun k hk hn=>Below.heap_setCell _ _ _ _ (fun e=>hn (by rw [e];exact h))⟩
theorem Chg.trans {E:List Nat} {a b c:World} (h:Chg E a b) (k:Chg E b c):Chg E a c :=
 ⟨k.os.trans h.os,k.tape.trans h.tape,k.output.trans h.output,Nat.le_trans h.size k.size,fun i hi hn=>(k.block i (Nat.lt_of_lt_of_le hi h.size) hn).trans (h.block i hi hn)⟩

/-- The frame: a0, but the slots in ds hold us. -/
def put' (ds:List Nat) (us:Nat→Value):Nat→List Value→List Value
 | _,[]=>[]
 | s,x::xs=>(if ds.contains s then us s else x)::put' ds us (s +1) xs
def frame (a0:Act) (ds:List Nat) (us:Nat→Value):Act:={ tmps:=(put' ds us 0 a0.tmps.toList).toArray,defers:=a0.defers }
theorem put'_set (ds:List Nat) (us:Nat→Value) (d:Nat) (v:Value) (hd:d ∈ ds):∀ (l:List Value) (s:Nat),s≤d→(put' ds us s l).set (d - s) v=put' ds (fun x=>if x=d then v else us x) s l
 | [],s,_=>by simp [put']
 | x::xs,s,hs=>by
   by_cases e:s=d
   ·subst e
    simp only [Nat.sub_self,put',List.set_cons_zero]
    rw [if_pos (by simpa using hd)]
    simp only [if_pos]
    congr 1
    have:∀ (l:List Value) (t:Nat),s<t→put' ds us t l=put' ds (fun x=>if x=s then v else us x) t l:=by
     intro l
     induction l with
     | nil=>intro t _;rfl
     | cons y ys ih =>
       intro t ht
       simp only [put']
       rw [ih (t +1) (by omega)]
       congr 1
       split
       ·rw [if_neg (by omega)]
       ·rfl
    exact this xs (s +1) (by omega)
   ·have h1:d - s=(d - (s +1)) +1:=by omega
    rw [h1]
    simp only [put',List.set_cons_succ]
    rw [put'_set ds us d v hd xs (s +1) (by omega)]
    congr 1
    split
    ·simp
    ·rfl
theorem frame_put (a0:Act) (ds:List Nat) (us:Nat→Value) (d:Nat) (v:Value) (hd:d ∈ ds):(frame a0 ds us).put (some d) v=frame a0 ds (fun x=>if x=d then v else us x):=by
 have h:=put'_set ds us d v hd a0.tmps.toList 0 (Nat.zero_le _)
 simp only [Nat.sub_zero] at h
 simp [frame,Act.put,h]
section
variable (P:Program) (a0:Act) (w0:World) (F0:List Nat) (ds:List Nat)

/-- What one operation owes. -/
def Ob (Γ:List Sp) (o:Oper) (s:Sp):Prop :=
 ∀ (us:Nat→Value) (w:World) (Fe:Nat→List Nat),Chg F0 w0 w→(∀ i x,i ∈ s.use→Γ[i]?=some x→x.A (us x.sub) w (Fe i))→(∀ i j,i ∈ s.use→j ∈ s.use→i≠j→∀ k ∈ Fe i,k ∉ Fe j)→(∀ i x,i ∈ s.see→Γ[i]?=some x→x.V (us x.sub)) →
   o.wp P (frame a0 ds us) w (fun a' w'=>∃ v F,a'=(frame a0 ds us).put o.dst v∧s.V (if o.dst=some s.sub then v else us s.sub)∧Chg (s.eat.flatMap Fe) w w' ∧
    s.A (if o.dst=some s.sub then v else us s.sub) w' F∧∀ k ∈ F,k ∈ s.eat.flatMap Fe∨(w.heap.size≤k∧k<w'.heap.size)) (fun _ _ _=>False)
def Obs (Γ:List Sp):List Oper→List Sp→Prop
 | o::os,s::ss=>Ob P a0 w0 F0 ds Γ o s∧Obs Γ os ss
 | _,_=>True
end

/-- All that is forced ahead of each operation. -/
def anc (ops:List Oper):List (List Nat) :=
 ops.foldl (fun acc o=>acc ++[((o.after.toList.filterMap fun e=>if Region.binds .any e then some e.on else none).flatMap fun i=>i::acc.getD i []).eraseDups]) []

/-- The check: n operations; Γ has their words first, then those that hold from the beginning. -/
def check (ops:List Oper) (Γ:List Sp) (ds:List Nat):Bool :=
 let n:=ops.length
 let an:=anc ops
 let A:=fun j=>an.getD j []
 (ops.all fun o=>o.guard.isNone && (match o.dst with | some d=>ds.contains d | none=>true)) && decide (n≤Γ.length) && (an.length == n) &&
 ((List.range n).all fun j=>((ops.getD j default).after.toList.all fun e=>!Region.binds .any e || decide (e.on<j))) &&
 ((List.range n).all fun j=>((A j).all fun i=>(ops.getD j default).after.toList.any fun e=>Region.binds .any e && (e.on == i || (A e.on).contains i))) &&
 (List.range n).all fun j =>
  let s:=Γ.getD j (pu 0 [] undef)
  (s.eat.all s.use.contains) && (s.use.all fun i=>(decide (n≤i) || (A j).contains i) && i != j && decide (i<Γ.length)) &&
  (s.see.all fun i=>(A j).contains i && decide ((ops.getD i default).dst=some (Γ.getD i (pu 0 [] undef)).sub)) &&
  ((List.range n).all fun i=>i == j || match (ops.getD i default).dst,(ops.getD j default).dst with | some d,some d'=>d != d' | _,_=>true) &&
  (s.use.all fun i=>(List.range n).all fun k=>k == j || !((Γ.getD k (pu 0 [] undef)).eat.contains i) || (A k).contains j) &&
  (match (ops.getD j default).dst with
   | some d=>(List.range Γ.length).all fun i=>i == j || (Γ.getD i (pu 0 [] undef)).sub != d || (List.range n).any (fun k=>(Γ.getD k (pu 0 [] undef)).eat.contains i && (k == j || (A j).contains k)) || (A i).contains j
   | none=>true)
section
variable {P:Program} {a0:Act} {w0:World} {F0:List Nat} {ds:List Nat} {Γ:List Sp} {ops:List Oper}
theorem Obs_get:∀ (os:List Oper) (ss:List Sp) (j:Nat) (o:Oper) (s:Sp),Obs P a0 w0 F0 ds Γ os ss→os[j]?=some o→ss[j]?=some s→Ob P a0 w0 F0 ds Γ o s
 | [],_,_,_,_,_,h,_=>by simp at h
 | _::_,[],_,_,_,_,_,h=>by simp at h
 | o::os,s::ss,0,_,_,h,ho,hs=>by
   exact Z5j
 | o::os,s::ss,j +1,o',s',h,ho,hs=>Obs_get os ss j o' s' h.2 Z4j Z5o

/-- What holds when the operations in D have been carried out. -/
structure Inv (a0:Act) (w0:World) (F0 ds:List Nat) (Γ:List Sp) (ops:List Oper) (D:Nat→Bool) (a:Act) (w:World):Prop where
 body:∃ (us:Nat→Value) (Fs:Nat→List Nat),a=frame a0 ds us∧Chg F0 w0 w ∧
  (∀ i x,Γ[i]?=some x→(i<ops.length→D i=true)→(∀ k y,k<ops.length→D k=true→Γ[k]?=some y→i ∉ y.eat)→x.A (us x.sub) w (Fs i)∧∀ k ∈ Fs i,(k ∈ F0∨w0.heap.size≤k)∧k<w.heap.size) ∧
  (∀ i j x y,i≠j→Γ[i]?=some x→Γ[j]?=some y→(i<ops.length→D i=true)→(j<ops.length→D j=true) →
   (∀ k z,k<ops.length→D k=true→Γ[k]?=some z→i ∉ z.eat)→(∀ k z,k<ops.length→D k=true→Γ[k]?=some z→j ∉ z.eat)→∀ k ∈ Fs i,k ∉ Fs j) ∧
  (∀ i o x,ops[i]?=some o→Γ[i]?=some x→D i=true→o.dst=some x.sub→x.V (us x.sub))
 closed:∀ j i,D j=true→i ∈ (anc ops).getD j []→D i=true
theorem wp_weak {o:Oper} {a:Act} {w:World} {K K':Act→World→Prop} {Q:Exit→Act→World→Prop} (h:∀ a w,K a w→K' a w) (hh:o.wp P a w K (fun _ _ _=>False)):o.wp P a w K' Q:=by
 unfold Oper.wp at *
 generalize (execOp a.eval o).run P w=r at *
 cases r with
 | ok n w' =>
   cases n <;> simp only [Oper.upon] at hh ⊢ <;>
    first
     | exact h _ _ hh
     | exact Calls.mono hh (fun e w'' he=>by
      cases e with
      | returned v=>exact h _ _ he
      | panicked c=>exact he.elim
      | outgrown=>obtain ⟨_,_,hf⟩:=he;exact hf.elim)
     | exact Rows.mono hh (fun _ _ he=>h _ _ he)
 | halt x w'=>cases x <;> simp only [Oper.upon] at hh ⊢
structure Chk (ops:List Oper) (Γ:List Sp) (ds:List Nat):Prop where
 guard:∀ o ∈ ops,o.guard=none
 dst:∀ o ∈ ops,∀ d,o.dst=some d→d ∈ ds
 len:ops.length≤Γ.length
 ancLen:(SL.anc ops).length=ops.length
 low:∀ j o,ops[j]?=some o→∀ e ∈ o.after,Region.binds .any e=true→e.on<j
 anc:∀ j o,ops[j]?=some o→∀ i ∈ (anc ops).getD j [],∃ e ∈ o.after,Region.binds .any e=true∧(e.on=i∨i ∈ (SL.anc ops).getD e.on [])
 eatUse:∀ j s,j<ops.length→Γ[j]?=some s→∀ i ∈ s.eat,i ∈ s.use
 use:∀ j s,j<ops.length→Γ[j]?=some s→∀ i ∈ s.use,(ops.length≤i∨i ∈ (SL.anc ops).getD j [])∧i≠j∧i<Γ.length
 see:∀ j s,j<ops.length→Γ[j]?=some s→∀ i ∈ s.see,i ∈ (SL.anc ops).getD j []∧∀ o x,ops[i]?=some o→Γ[i]?=some x→o.dst=some x.sub
 single:∀ (i j:Nat) (o o':Oper) (d:Tmp),ops[i]?=some o→ops[j]?=some o'→i≠j→o.dst=some d→o'.dst≠some d
 order:∀ j s,j<ops.length→Γ[j]?=some s→∀ i ∈ s.use,∀ k y,k<ops.length→Γ[k]?=some y→k≠j→i ∈ y.eat→j ∈ (SL.anc ops).getD k []
 slot:∀ j o d,ops[j]?=some o→o.dst=some d→∀ i x,Γ[i]?=some x→i≠j→x.sub=d→(∃ k y,k<ops.length∧Γ[k]?=some y∧i ∈ y.eat∧(k=j∨k ∈ (SL.anc ops).getD j []))∨j ∈ (SL.anc ops).getD i []
theorem chk_of (h:check ops Γ ds=true):Chk ops Γ ds:=by
 simp only [check,Bool.and_eq_true,List.all_eq_true,List.mem_range,decide_eq_true_eq,Option.isNone_iff_eq_none,Bool.or_eq_true,Bool.not_eq_true',beq_iff_eq,List.contains_iff_mem,bne_iff_ne,ne_eq] at h
 obtain ⟨⟨⟨⟨⟨h1,h2⟩,h2'⟩,h3⟩,h4⟩,h5⟩:=h
 have hop:∀ j o,ops[j]?=some o→j<ops.length∧ops.getD j default=o:=fun j o ho=>⟨(List.getElem?_eq_some_iff.1 ho).1,by simp [List.getD_eq_getElem?_getD,ho]⟩
 have hΓ:∀ j s,Γ[j]?=some s→Γ.getD j (pu 0 [] undef)=s:=fun j s hs=>by simp [List.getD_eq_getElem?_getD,hs]
 refine ⟨fun o ho=>(h1 o ho).1,fun o ho d hd=>?_,h2,h2',fun j o ho e he hb=>?_,fun j o ho i hi=>?_,fun j s hj hs i hi=>?_,fun j s hj hs i hi=>?_,fun j s hj hs i hi=>?_,fun i j o o' d hoi hoj hij hdi hdj=>?_,fun j s hj hs i hi k y hk hy hkj hiy=>?_,fun j o d ho hd i x hx hij hsub=>?_⟩
 ·exact Z56
 ·exact Z2x
 ·exact Z76
 ·exact Z4d
 ·exact Z3i
 ·exact Z2m
 ·exact Z2o
 ·exact Z20
 ·exact Z10
theorem anc_lt (hc:Chk ops Γ ds):∀ (j i:Nat),i ∈ (anc ops).getD j []→i<ops.length:=by
 intro j
 exact Z17
theorem step (hob:Obs P a0 w0 F0 ds Γ ops Γ) (hc:Chk ops Γ ds) {D:Nat→Bool} {a:Act} {w:World} {j:Nat} {o:Oper} (hI:Inv a0 w0 F0 ds Γ ops D a w)
 (ho:ops[j]?=some o) (hD:D j=false) (hpre:∀ e ∈ o.after,Region.binds .any e=true→D e.on=true) :
 o.wp P a w (Inv a0 w0 F0 ds Γ ops (fun i=>if i=j then true else D i)) (fun _ _ _=>False):=by
 obtain ⟨⟨us,Fs,rfl,hG,hA,hdis,hV⟩,hcl⟩:=hI
 have hjl:j<ops.length:=(List.getElem?_eq_some_iff.1 ho).1
 have hjΓ:j<Γ.length:=Nat.lt_of_lt_of_le hjl hc.len
 obtain ⟨s,hs⟩:∃ s,Γ[j]?=some s:=⟨_,List.getElem?_eq_getElem hjΓ⟩
 have hancD:∀ i ∈ (anc ops).getD j [],D i=true:=fun i hi=>by
  exact Z38
 -- what it uses is there, and nobody has taken it over
 have huse:∀ i ∈ s.use,(i<ops.length→D i=true)∧(∀ k y,k<ops.length→D k=true→Γ[k]?=some y→i ∉ y.eat):=fun i hi=>by
  exact Z1k
 have hdu:∀ i i',i ∈ s.use→i' ∈ s.use→i≠i'→∀ k ∈ Fs i,k ∉ Fs i':=fun i i' hi hi' hii=>by
  exact Z1n
 have hsee:∀ i x,i ∈ s.see→Γ[i]?=some x→x.V (us x.sub):=fun i x hi hx=>by
  exact Z1h
 refine wp_weak ?_ (Obs_get ops Γ j o s hob ho hs us w Fs hG (fun i x hi hx=>(hA i x hx (huse i hi).1 (huse i hi).2).1) hdu hsee)
 rintro a' w' ⟨v,F,rfl,hVj,hch,hAj,hF⟩
 have hE:∀ k ∈ s.eat.flatMap Fs,∃ e x,e ∈ s.eat∧Γ[e]?=some x∧k ∈ Fs e∧(k ∈ F0∨w0.heap.size≤k)∧k<w.heap.size:=fun k hk=>by
  exact Z1t
 let us':Nat→Value:=match o.dst with | some d=>fun x=>if x=d then v else us x | none=>us
 have hfr:(frame a0 ds us).put o.dst v=frame a0 ds us':=by
  exact Z2y
 have hus:∀ t,us' t=if o.dst=some t then v else us t:=fun t=>by
  exact Z2d
 refine ⟨⟨us',fun i=>if i=j then F else Fs i,hfr,?_,?_,?_,?_⟩,?_⟩
 ·exact Z1o
 ·exact Zf
 ·exact Zi
 ·exact Z1z
 ·exact Z2f
theorem any_of (hob:Obs P a0 w0 F0 ds Γ ops Γ) (hc:Chk ops Γ ds) {Q:Exit→Act→World→Prop}
 (hend:∀ (D:Nat→Bool) a w,(∀ i,i<ops.length→D i=true)→Inv a0 w0 F0 ds Γ ops D a w→Q .normal a w) :
 ∀ (fuel:Nat) (listed:Array Bool) (a:Act) (w:World),listed.size=ops.length→listed.toList.count false=fuel→Inv a0 w0 F0 ds Γ ops (fun i=>listed.getD i false) a w→wpAny P .any ops.toArray Q fuel listed a w:=by
 have ready_nil:∀ listed:Array Bool,listed.size=ops.length→Region.ready .any ops.toArray listed=[]→∀ i,i<ops.length→listed.getD i false=true:=by
  intro listed hl hr i
  exact Zo
 intro fuel
 induction fuel with
 | zero =>
   exact Zt
 | succ fuel ih =>
   intro listed a w hl hcnt hI
   refine ⟨fun hr=>hend _ a w (ready_nil listed hl hr) hI,fun j hj=>?_⟩
   simp only [Region.ready,List.mem_filter,List.mem_range,List.size_toArray,Bool.and_eq_true,Bool.not_eq_true'] at hj
   obtain ⟨hjl,hun,hall⟩:=hj
   have ho:ops[j]?=some ops[j]:=List.getElem?_eq_getElem hjl
   have hj':j<listed.size:=by omega
   simp only [List.getElem?_toArray,ho,Option.map_some,Option.getD_some,Array.all_eq_true'] at hall
   have hD:listed.getD j false=false:=by
    simp [Array.getD,hj'] at hun ⊢;exact hun
   unfold wpOp
   simp only [List.getElem?_toArray,ho]
   rw [if_pos (by simp [Region.wanted,hc.guard _ (List.mem_of_getElem? ho)])]
   left
   refine wp_weak ?_ (step hob hc hI ho hD fun e he hb=>by
    have:=hall e he
    simpa [hb] using this)
   exact Zr
end

/-- THE RULE: a region that draws its order. -/
theorem region {P:Program} (hm:P.follows .mixedOrders=true) {id:Nat} {ops:List Oper} {a0:Act} {w:World} {Q:Exit→Act→World→Prop} (F0 ds:List Nat) (Γ:List Sp) (Fs0:Nat→List Nat)
 (hck:check ops Γ ds=true)
 (hin:∀ i x,ops.length≤i→Γ[i]?=some x→x.A (a0.tmps.getD x.sub undef) w.drew (Fs0 i)∧∀ k ∈ Fs0 i,k ∈ F0∧k<w.heap.size)
 (hdj:∀ i j,i≠j→ops.length≤i→ops.length≤j→∀ k ∈ Fs0 i,k ∉ Fs0 j)
 (hob:Obs P a0 w.drew F0 ds Γ ops Γ)
 (hend:∀ (us:Nat→Value) (w':World) (Fs:Nat→List Nat),Chg F0 w.drew w' →
  (∀ i x,Γ[i]?=some x→(∀ k y,k<ops.length→Γ[k]?=some y→i ∉ y.eat)→x.A (us x.sub) w' (Fs i)∧∀ k ∈ Fs i,(k ∈ F0∨w.heap.size≤k)∧k<w'.heap.size) →
  (∀ i j x y,i≠j→Γ[i]?=some x→Γ[j]?=some y→(∀ k z,k<ops.length→Γ[k]?=some z→i ∉ z.eat)→(∀ k z,k<ops.length→Γ[k]?=some z→j ∉ z.eat)→∀ k ∈ Fs i,k ∉ Fs j) →
  Q .normal (frame a0 ds us) w') :
 (Code.region id ops.toArray true).wp P Q a0 w:=by
 have hc:=chk_of hck
 refine wp_region_any hm ?_
 have hfr:frame a0 ds (fun s=>a0.tmps.getD s undef)=a0:=by
  exact Z13
 have:(Array.replicate ops.toArray.size false).toList.count false=ops.toArray.size:=by simp
 refine any_of hob hc ?_ ops.toArray.size _ _ _ (by simp) this ?_
 ·intro D a w2 hall hI
  obtain ⟨⟨us,Fs,rfl,hG,hA,hdis,_⟩,_⟩:=hI
  exact Z1w
 ·have hD:∀ i,(Array.replicate ops.toArray.size false).getD i false=false:=fun i=>by
   simp only [Array.getD];split <;> simp
  refine ⟨⟨fun s=>a0.tmps.getD s undef,Fs0,hfr.symm,Chg.refl _ _,fun i x hx hDi _=>?_,fun i j x y hij hx hy hDi hDj _ _=>?_,fun i o x _ _ hDi _=>?_⟩,fun k i hk _=>?_⟩
  ·exact Z7c
  ·exact Z1m
  ·rw [hD] at hDi;cases hDi
  ·rw [hD] at hk;cases hk
theorem row_stab {w w':World} {base:Nat} {t:TypeId} {size n:Nat} {v:Value} {xs:List Value} (h:w.ownsRow base t size v n xs) (hk:∀ k ∈ v.ownBlock.toList,w'.heap[k]?=w.heap[k]?):w'.ownsRow base t size v n xs:=by
 obtain ⟨hl,⟨hv,hn⟩ | ⟨g,cap',cur,hv,hbg,hg,hr⟩⟩:=h
 ·exact ⟨hl,.inl ⟨hv,hn⟩⟩
 ·exact ⟨hl,.inr ⟨g,cap',cur,hv,hbg,by rw [hk g (by rw [hv];simp [Value.ownBlock])];exact hg,hr⟩⟩

/-- A row that the region makes, or hands on. -/
def row (s:Nat) (u e:List Nat) (base:Nat) (t:TypeId) (size n:Nat) (xs:List Value):Sp :=
 { sub:=s,use:=u,eat:=e,A:=fun x w F=>w.ownsRow base t size x n xs∧F=x.ownBlock.toList,st:=fun _ _ _ _ h hk _=>⟨row_stab h.1 (h.2 ▸ hk),h.2⟩ }
/-- A box that the region makes, or fills. -/
def box (s:Nat) (u e:List Nat) (base:Nat) (t:TypeId) (cs:Array Value):Sp :=
 { sub:=s,use:=u,eat:=e,A:=fun x w F=>∃ N,x=.pointer (some ⟨N,0,none⟩)∧base≤N∧w.heap[N]?=some (.cells cs t (0,0))∧F=[N],
   st:=by rintro v w w' F ⟨N,rfl,hb,h,rfl⟩ hk _;exact ⟨N,rfl,hb,by rw [hk N (by simp)];exact h,rfl⟩ }
/-- A value made of a row: f of the slice. -/
def rowIn (s:Nat) (u e:List Nat) (base:Nat) (t:TypeId) (size n:Nat) (xs:List Value) (f:Value→Value):Sp :=
 { sub:=s,use:=u,eat:=e,A:=fun x w F=>∃ y,x=f y∧w.ownsRow base t size y n xs∧F=y.ownBlock.toList,
   st:=by rintro v w w' F ⟨y,rfl,h,rfl⟩ hk _;exact ⟨y,rfl,row_stab h hk,rfl⟩ }
/-- A box whose cells hold a row: f of the slice. -/
def boxIn (s:Nat) (u e:List Nat) (base:Nat) (bt t:TypeId) (size n:Nat) (xs:List Value) (f:Value→Array Value):Sp :=
 { sub:=s,use:=u,eat:=e,A:=fun x w F=>∃ N y,x=.pointer (some ⟨N,0,none⟩)∧base≤N∧w.heap[N]?=some (.cells (f y) bt (0,0))∧w.ownsRow base t size y n xs∧F=N::y.ownBlock.toList,
   st:=by
    rintro v w w' F ⟨N,y,rfl,hb,h,h2,rfl⟩ hk _
    exact ⟨N,y,rfl,hb,by rw [hk N (by simp)];exact h,row_stab h2 (fun k hk'=>hk k Z4u),rfl⟩ }

/-- What is known of the operations that are used. -/
def Used (Γ:List Sp) (us:Nat→Value) (w:World) (Fe:Nat→List Nat):List Nat→Prop
 | []=>True
 | i::l=>(match Γ[i]? with | some x=>x.A (us x.sub) w (Fe i) | none=>True)∧Used Γ us w Fe l
theorem used_of {Γ:List Sp} {us:Nat→Value} {w:World} {Fe:Nat→List Nat}:∀ (l:List Nat),(∀ i x,i ∈ l→Γ[i]?=some x→x.A (us x.sub) w (Fe i))→Used Γ us w Fe l
 | [],_=>trivial
 | i::l,h=>⟨by
    cases hx:Γ[i]? with
    | some x=>exact h i x (by simp) hx
    | none=>trivial,used_of l (fun j x hj hx=>h j x (by simp [hj]) hx)⟩
def Seen (Γ:List Sp) (us:Nat→Value):List Nat→Prop
 | []=>True
 | i::l=>(match Γ[i]? with | some x=>x.V (us x.sub) | none=>True)∧Seen Γ us l
theorem seen_of {Γ:List Sp} {us:Nat→Value}:∀ (l:List Nat),(∀ i x,i ∈ l→Γ[i]?=some x→x.V (us x.sub))→Seen Γ us l
 | [],_=>trivial
 | i::l,h=>⟨by
    cases hx:Γ[i]? with
    | some x=>exact h i x (by simp) hx
    | none=>trivial,seen_of l (fun j x hj hx=>h j x (by simp [hj]) hx)⟩
theorem ob {P:Program} {a0:Act} {w0:World} {F0 ds:List Nat} {Γ:List Sp} {o:Oper} {s:Sp}
 (h:∀ (us:Nat→Value) (w:World) (Fe:Nat→List Nat),Chg F0 w0 w→Used Γ us w Fe s.use→(∀ i j,i ∈ s.use→j ∈ s.use→i≠j→∀ k ∈ Fe i,k ∉ Fe j)→Seen Γ us s.see →
  ∀ K:Act→World→Prop,(∀ a' v w' F,a'=(frame a0 ds us).put o.dst v→s.V (if o.dst=some s.sub then v else us s.sub)→Chg (s.eat.flatMap Fe) w w'→s.A (if o.dst=some s.sub then v else us s.sub) w' F→(∀ k ∈ F,k ∈ s.eat.flatMap Fe∨(w.heap.size≤k∧k<w'.heap.size))→K a' w') →
    o.wp P (frame a0 ds us) w K (fun _ _ _=>False)):Ob P a0 w0 F0 ds Γ o s :=
 fun us w Fe hG hu hd hv=>h us w Fe hG (used_of _ hu) hd (seen_of _ hv) _ fun _ v _ F h0 hv h1 h2 h3=>⟨v,F,h0,hv,h1,h2,h3⟩
theorem Chg.cells {w w':World} (h:Chg [] w w'):(∀ b o,b<w.heap.size→w'.cell? ⟨b,o,none⟩=w.cell? ⟨b,o,none⟩)∧(∀ b o,b<w.heap.size→w'.frozen? ⟨b,o,none⟩=w.frozen? ⟨b,o,none⟩) :=
 ⟨fun b o hb=>World.cell?_of_block (w:=w) (h.block b hb (by simp)),fun b o hb=>World.frozen?_of_block (w:=w) (h.block b hb (by simp))⟩
theorem Chg.below {w w':World} (h:Chg [] w w'):Below w.heap.size w w':=⟨h.os,h.tape,h.output,h.size,fun k hk=>h.block k hk (by simp)⟩
theorem Chg.below' {w w':World} (h:Chg [] w.drew w'):Below w.heap.size w w':=⟨h.os,h.tape,h.output,h.size,fun k hk=>h.block k hk (by simp)⟩
theorem row_base {w:World} {base base':Nat} {t:TypeId} {size n:Nat} {v:Value} {xs:List Value} (h:w.ownsRow base t size v n xs) (hb:base'≤base):w.ownsRow base' t size v n xs:=by
 obtain ⟨hl,⟨hv,hn⟩ | ⟨g,cap',cur,hv,hbg,hr⟩⟩:=h
 ·exact ⟨hl,.inl ⟨hv,hn⟩⟩
 ·exact ⟨hl,.inr ⟨g,cap',cur,hv,Nat.le_trans hb hbg,hr⟩⟩
theorem row_bounds {w:World} {base:Nat} {t:TypeId} {size n:Nat} {v:Value} {xs:List Value} (h:w.ownsRow base t size v n xs):∀ k ∈ v.ownBlock.toList,base≤k∧k<w.heap.size:=by
 intro k hk
 exact h.lt k Z46
theorem Chg.of_own {w w':World} {v:Value} {E:List Nat} (h:w.grownBy w' v.ownBlock) (hE:∀ k,v.ownBlock=some k→k ∈ E):Chg E w w' :=
 ⟨h.os,h.tape,h.output,h.size,fun k hk hn=>h.block k hk (fun e=>hn (hE k e.symm))⟩

/-- A box's cells. -/
theorem cells_of {w:World} {N:Nat} {cs:Array Value} {t:TypeId} (h:w.heap[N]?=some (.cells cs t (0,0))):(∀ i,w.cell? ⟨N,i,none⟩=cs[i]?)∧(∀ i,w.frozen? ⟨N,i,none⟩=false) :=
 ⟨fun i=>cell_of_row w N i cs t (0,0) h,fun i=>frozen_of_row w N i cs t h⟩
theorem heap_set {w:World} {N i:Nat} {cs:Array Value} {t:TypeId} (h:w.heap[N]?=some (.cells cs t (0,0))) (v:Value):(w.setCell ⟨N,i,none⟩ v).heap[N]?=some (.cells (cs.setIfInBounds i v) t (0,0)) :=
 heap_setCell_same w N i cs t v h
theorem row_set {w:World} {base:Nat} {t:TypeId} {size n:Nat} {v:Value} {xs:List Value} (h:w.ownsRow base t size v n xs) {p:Addr} (hn:p.block ∉ v.ownBlock.toList) (u:Value):(w.setCell p u).ownsRow base t size v n xs :=
 row_stab h fun _ hk=>Below.heap_setCell _ _ _ _ fun e=>hn (e ▸ hk)
def keepOk (n:Nat) (Γ:List Sp) (keep:List Nat):Bool:=keep.all fun i=>decide (i<Γ.length) && (List.range n).all fun k=>!((Γ.getD k (pu 0 [] undef)).eat.contains i)

/-- THE RULE, for use: what is kept at the end is named. -/
theorem rule {P:Program} (hm:P.follows .mixedOrders=true) {id:Nat} {ops:List Oper} {a0:Act} {w:World} {Q:Exit→Act→World→Prop} (F0 ds:List Nat) (Γ:List Sp) (keep:List Nat)
 (hck:check ops Γ ds=true) (hkeep:keepOk ops.length Γ keep=true) (Fs0:Nat→List Nat)
 (hin:∀ i x,ops.length≤i→Γ[i]?=some x→x.A (a0.tmps.getD x.sub undef) w.drew (Fs0 i)∧∀ k ∈ Fs0 i,k ∈ F0∧k<w.heap.size)
 (hdj:∀ i j,i≠j→ops.length≤i→ops.length≤j→∀ k ∈ Fs0 i,k ∉ Fs0 j)
 (hob:Obs P a0 w.drew F0 ds Γ ops Γ)
 (hend:∀ (us:Nat→Value) (w':World) (Fs:Nat→List Nat),Chg F0 w.drew w'→Used Γ us w' Fs keep →
  (∀ i ∈ keep,∀ k ∈ Fs i,(k ∈ F0∨w.heap.size≤k)∧k<w'.heap.size)→(∀ i j,i ∈ keep→j ∈ keep→i≠j→∀ k ∈ Fs i,k ∉ Fs j) →
  Q .normal (frame a0 ds us) w') :
 (Code.region id ops.toArray true).wp P Q a0 w:=by
 exact Zn

/-- Where nothing is held from the beginning. -/
theorem none_held {ops:List Oper} {Γ:List Sp} {a0:Act} {w:World} {F0:List Nat} {Fs0:Nat→List Nat} (h:Γ.length=ops.length) :
 ∀ i x,ops.length≤i→Γ[i]?=some x→x.A (a0.tmps.getD x.sub undef) w.drew (Fs0 i)∧∀ k ∈ Fs0 i,k ∈ F0∧k<w.heap.size:=by
 intro i x hi hx
 rw [List.getElem?_eq_none (by omega)] at hx
 cases hx
theorem Chg.belowF {F0:List Nat} {w w':World} {B:Nat} (h:Chg F0 w.drew w') (hB:B≤w.heap.size) (hF:∀ k ∈ F0,B≤k):Below B w w' :=
 ⟨h.os,h.tape,h.output,h.size,fun k hk=>h.block k (Nat.lt_of_lt_of_le hk hB) (fun hm=>by have:=hF k hm;omega)⟩
theorem Chg.cellsF {F0:List Nat} {w w':World} (h:Chg F0 w.drew w'):(∀ b o,b<w.heap.size→b ∉ F0→w'.cell? ⟨b,o,none⟩=w.cell? ⟨b,o,none⟩)∧(∀ b o,b<w.heap.size→b ∉ F0→w'.frozen? ⟨b,o,none⟩=w.frozen? ⟨b,o,none⟩) :=
 ⟨fun b _ hb hn=>World.cell?_of_block (w:=w) (h.block b hb hn),fun b _ hb hn=>World.frozen?_of_block (w:=w) (h.block b hb hn)⟩

/-- A box that was there, at N. -/
def boxAt (s:Nat) (u e:List Nat) (N:Nat) (t:TypeId) (cs:Array Value):Sp :=
 { sub:=s,use:=u,eat:=e,A:=fun x w F=>x=.pointer (some ⟨N,0,none⟩)∧w.heap[N]?=some (.cells cs t (0,0))∧F=[N],
   st:=by rintro v w w' F ⟨rfl,h,rfl⟩ hk _;exact ⟨rfl,by rw [hk N (by simp)];exact h,rfl⟩ }
/-- A box that was there, at N; its cells hold a row. -/
def boxAtIn (s:Nat) (u e:List Nat) (N:Nat) (bt:TypeId) (base:Nat) (t:TypeId) (size n:Nat) (xs:List Value) (f:Value→Array Value):Sp :=
 { sub:=s,use:=u,eat:=e,A:=fun x w F=>∃ y,x=.pointer (some ⟨N,0,none⟩)∧w.heap[N]?=some (.cells (f y) bt (0,0))∧w.ownsRow base t size y n xs∧F=N::y.ownBlock.toList,
   st:=by
    rintro v w w' F ⟨y,rfl,h,h2,rfl⟩ hk _
    exact ⟨y,rfl,by rw [hk N (by simp)];exact h,row_stab h2 (fun k hk'=>hk k Z4u),rfl⟩ }

/-- One box is held from the beginning. -/
theorem one_held {ops:List Oper} {Γ:List Sp} {a0:Act} {w:World} {x:Sp} {N:Nat} (h:Γ.length=ops.length +1) (hx:Γ[ops.length]?=some x)
 (hA:x.A (a0.tmps.getD x.sub undef) w.drew [N]) (hN:N<w.heap.size) :
 ∀ i y,ops.length≤i→Γ[i]?=some y→y.A (a0.tmps.getD y.sub undef) w.drew ((fun i=>if i=ops.length then [N] else []) i)∧∀ k ∈ (fun i=>if i=ops.length then [N] else []) i,k ∈ [N]∧k<w.heap.size:=by
 intro i y hi hy
 by_cases e:i=ops.length
 ·subst e
  rw [hx] at hy
  cases hy
  simp only [if_pos]
  exact ⟨hA,fun k hk=>⟨hk,by simp at hk;omega⟩⟩
 ·rw [List.getElem?_eq_none (by omega)] at hy
  cases hy
theorem one_apart {n N:Nat}:∀ i j,i≠j→n≤i→n≤j→∀ k ∈ (fun i=>if i=n then [N] else []) i,k ∉ (fun i=>if i=n then [N] else []) j:=by
 intro i j hij _ _ k hk
 simp only at hk ⊢
 split at hk
 ·rw [if_neg (by omega)];simp
 ·simp at hk
end Go.Proofs.YtelkcohhagblaaaGreat.SL
namespace Go.Proofs.YtelkcohhagblaaaGreat
/-- What matters of a part: its span, its foot. -/
structure Pn where
 lo:Int
 hi:Int
 ft:Bool
deriving DecidableEq
instance:Inhabited Pn:=⟨⟨0,0,false⟩⟩

/-- Two parts clash. -/
def clB (s:List Pn) (a b:Nat):Bool:=a != b && ((s.getD a default).ft && (s.getD b default).ft || decide ((s.getD a default).hi<(s.getD b default).lo) || decide ((s.getD b default).hi<(s.getD a default).lo))
def inB (l h:Int) (p:Pn):Bool:=decide (l≤p.lo) && decide (p.hi≤h)
def feet (s:List Pn) (l h:Int):Nat:=s.countP fun p=>inB l h p && p.ft
def some1 (s:List Pn) (l h:Int):Nat:=if s.any (inB l h) then 1 else 0
/-- How many vessels a range needs. -/
def dem (s:List Pn) (l h:Int):Nat:=max (feet s l h) (some1 s l h)

/-- The greatest of a number and of what those with something give. -/
def fmax {α:Type} (c:α→Bool) (f:α→Nat) (l:List α) (m:Nat):Nat:=l.foldl (fun m p=>if c p then max m (f p) else m) m
/-- The best sum for colours up to h, out of those for fewer. -/
def stepB (s:List Pn) (b:Nat→Nat) (h:Nat):Nat :=
 if s.any (fun p=>decide (p.hi=(h:Int))) then fmax (fun p=>decide (p.lo≤(h:Int))) (fun p=>b p.lo.toNat +dem s p.lo h) s (b h) else b h
def bestL (s:List Pn):Nat→List Nat
 | 0=>[0]
 | h +1=>bestL s h ++[stepB s (fun i=>(bestL s h).getD i 0) h]
def BB (s:List Pn) (h:Nat):Nat:=(bestL s h).getD h 0
end Go.Proofs.YtelkcohhagblaaaGreat
