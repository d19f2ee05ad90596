/- What the functions answer, for every input. -/
import Derived.Test.YtelkcohhagblaaaGreatSe04
import Derived.BigRegionIn
import Derived.ChangeKeysEq
import Derived.Laws.StructEq
import Derived.Deep.MidRow
import Derived.Deep.WholeRow
import Derived.Test.YtelkcohhagblaaaGreatSe03
set_option linter.unusedSimpArgs false
set_option linter.unusedVariables false
set_option linter.unnecessarySimpa false
namespace Go.Proofs.YtelkcohhagblaaaGreat
theorem Z7z {P:Prop}(h:P:=by
 simp only at y0 y1 y2 y3 y4 y5 y6 y7 y8 y9 y10 y11 y12 y13 y14 y15
 clear hc6 hf6 hc5 hf5
 go_step
 exact Z8):P:=h
theorem Z80 {P:Prop}(h:P:=by
 go_step
 refine (hI w').mono ?_
 exact Z7t):P:=h
theorem Z7h {P:Prop}(h:P:=by
 refine SLG.ob_sp rfl rfl rfl fun us w' Fe hG hu hd Kx hK=>?_
 try dsimp only
 simp [SL.O] at hu
 have hB5:Below w.heap.size w w':=HBW.out.trans (hG.belowF HBW.out.size (by simp))
 obtain ⟨hc5,hf5⟩:=bcell hB5
 have hs5:=hB5.size
 obtain ⟨hc6,hf6⟩:=hG.cellsF;have p8:=(hc6 w.heap.size (0 +8) z0 hn0).trans d8;have p9:=(hc6 w.heap.size (0 +9) z0 hn0).trans d9;have p10:=(hc6 w.heap.size (0 +10) z0 hn0).trans d10;have q0:=(hc6 B0 0 zz0 hm0).trans k0;have q1:=(hc6 B1 0 zz1 hm1).trans k1;have q2:=(hc6 B2 0 zz2 hm2).trans k2
 refine SLF.wpo_do (SLF.wanted_free rfl) ?hd ?_
 case hd=>intro c h;cases h
 clear hu
 obtain ⟨⟨y0,y1,y2,y3,y4,y5,y6,y7,y8,y9,y10,y11,y12,y13,y14,y15⟩,yf,yl⟩:=ItmCells.of_heap (x:=⟨0,0,0,⟨#[]⟩,0,0,0,false,x.sh,x.fr,x.tw,x.lo,x.hi,⟨#[]⟩,0,0⟩) ((hG.block _ z2 hn2).trans HB2.out)
 exact Z7z):P:=h
theorem Z7l {P:Prop}(h:P:=by
 obtain ⟨hc5,hf5⟩:=bcell hB5
 have hs5:=hB5.size
 refine SLF.wpo_do (SLF.wanted_free rfl) ?hd ?_
 case hd=>intro c h;cases h
 obtain ⟨⟨e1,_⟩,⟨e2,_⟩,e3,_⟩:=hu
 have hcall:=HW.out w' hB5
 clear hc5 hf5
 go_step
 refine hcall.mono ?_
 rintro e w6 ⟨v,rfl,hb6,ho6⟩
 exact hK _ _ w6 _ Zh (.of_below hb6) (SL.aw_in ⟨v,[],_,⟨rfl,rfl⟩,⟨SL.row_base ho6 hs5,rfl⟩,rfl⟩) (fun k hk=>.inr (SL.row_bounds ho6 k Z46))):P:=h
theorem Z7m {P:Prop}(h:P:=by
 obtain ⟨hc5,hf5⟩:=bcell hB5
 have hs5:=hB5.size
 refine SLF.wpo_do (SLF.wanted_free rfl) ?hd ?_
 case hd=>intro c h;cases h
 go_step
 exact hK _ _ _ _ Zh (.alloc _ _ _) ⟨_,rfl,hs5,World.alloc_heap_new _ _,rfl⟩ (by simp)):P:=h
theorem Z7o {P:Prop}(h:P:=by
 obtain ⟨hc5,hf5⟩:=bcell hB5
 have hs5:=hB5.size
 refine SLF.wpo_do (SLF.wanted_free rfl) ?hd ?_
 case hd=>intro c h;cases h
 obtain ⟨⟨e0,_⟩,h4,⟨e5,_⟩,e6,_⟩:=hu
 obtain ⟨v,F1,F2,⟨e4,rfl⟩,⟨hr,rfl⟩,hF⟩:=SL.aw_out h4
 obtain ⟨xa,xc,rfl,_⟩:=owns_slice hr
 have hcall:=HE.out w' xa xc (BdsAt.of_owns hr (by omega))
 clear hc5 hf5 h4 hr hF
 go_step
 refine hcall.mono ?_
 exact Zg):P:=h
theorem Z7u {P:Prop}(h:P:=by
 refine SLF.wpo_do (SLF.wanted_free rfl) ?hd ?_
 case hd=>intro c h;cases h
 obtain ⟨e8,_⟩:=hu
 go_step
 refine (hNm w').mono ?_
 exact Zg):P:=h
theorem Z5s {P:Prop}(h:P:=by
 refine ⟨?_,?_,?_,?_,?_,?_,?_,?_,?_,?_,?_,?_,?_,?_,?_,?_,?_,trivial⟩
 all_goals first
  | (intro us w' Fe hG hu hd hv Kx hK
     try dsimp only
     simp [SL.O] at hu hK
     have hB5:Below w5.heap.size w5 w':=hG.below'
     exact Z7r)
  | skip
 ·refine SLG.ob_sp rfl rfl rfl fun us w' Fe hG hu hd Kx hK=>?_
  try dsimp only
  simp [SL.O] at hu
  have hB5:Below w5.heap.size w5 w':=hG.below'
  exact Z7l
 ·refine SLG.ob_sp rfl rfl rfl fun us w' Fe hG hu hd Kx hK=>?_
  try dsimp only
  simp [SL.O] at hu
  have hB5:Below w5.heap.size w5 w':=hG.below'
  exact Z7o
 ·exact Z7y
 ·exact Z7y
 ·exact Zp
 ·exact Zq
 ·refine SLG.ob_sp rfl rfl rfl fun us w' Fe hG hu hd Kx hK=>?_
  try dsimp only
  simp [SL.O] at hu
  have hB5:Below w5.heap.size w5 w':=hG.below'
  exact Z6b):P:=h
theorem Z5t {P:Prop}(h:P:=by
 refine SLG.ob_sp rfl rfl rfl fun us w' Fe hG hu hd Kx hK=>?_
 try dsimp only
 simp [SL.O] at hu
 have hB5:Below w.heap.size w w':=HBW.out.trans (hG.belowF HBW.out.size (by simp))
 obtain ⟨hc5,hf5⟩:=bcell hB5
 have hs5:=hB5.size
 obtain ⟨hc6,hf6⟩:=hG.cellsF;have p3:=(hc6 w.heap.size (0 +3) z0 hn0).trans d3;have p4:=(hc6 w.heap.size (0 +4) z0 hn0).trans d4;have p5:=(hc6 w.heap.size (0 +5) z0 hn0).trans d5;have p6:=(hc6 w.heap.size (0 +6) z0 hn0).trans d6
 refine SLF.wpo_do (SLF.wanted_free rfl) ?hd ?_
 case hd=>intro c h;cases h
 clear hu
 obtain ⟨⟨y0,y1,y2,y3,y4,y5,y6,y7,y8,y9,y10,y11,y12,y13,y14,y15⟩,yf,yl⟩:=ItmCells.of_heap (x:=⟨0,0,0,x.wa,x.pit,x.ly,x.co,x.ft,0,0,0,0,0,⟨#[]⟩,0,0⟩) ((hG.block _ z2 hn2).trans HB2.out)
 exact Z7z):P:=h
theorem Z5v {P:Prop}(h:P:=by
 refine SLG.ob_sp rfl rfl rfl fun us w' Fe hG hu hd Kx hK=>?_
 try dsimp only
 simp [SL.O] at hu
 have hB5:Below w.heap.size w w':=HBW.out.trans (hG.belowF HBW.out.size (by simp))
 obtain ⟨hc5,hf5⟩:=bcell hB5
 have hs5:=hB5.size
 obtain ⟨hc6,hf6⟩:=hG.cellsF;have p3:=(hc6 w.heap.size (0 +3) z0 hn0).trans d3;have p4:=(hc6 w.heap.size (0 +4) z0 hn0).trans d4;have p5:=(hc6 w.heap.size (0 +5) z0 hn0).trans d5;have p6:=(hc6 w.heap.size (0 +6) z0 hn0).trans d6
 first
  | (refine SLF.wpo_do (SLF.wanted_free rfl) ?hd ?_;(case hd=>intro c h;cases h))
  | (refine SLF.wpo_do (SLF.wanted_by rfl rfl ?hv) ?hd ?_;(case hv=>simp [hu];done);(case hd=>intro c h;cases h))
  | (refine' SLF.wpo_not (SLG.wanted_not rfl rfl ?hv ?hn) ?_;(case hv=>simp [hu];exact rfl);(case hn=>first | (simp;done) | (simp [undef];done)))
 obtain ⟨e8,_⟩:=hu
 go_step
 refine (hP w').mono ?_
 exact Z7t):P:=h
theorem Z60 {P:Prop}(h:P:=by
 refine SLG.ob_no rfl rfl rfl fun us w' Fe hG hu hd Kx hK=>?_
 try dsimp only
 simp [SL.O] at hu
 have hB5:Below w.heap.size w w':=HBW.out.trans (hG.belowF HBW.out.size (by simp))
 obtain ⟨hc5,hf5⟩:=bcell hB5
 have hs5:=hB5.size
 obtain ⟨hc6,hf6⟩:=hG.cellsF;have p8:=(hc6 w.heap.size (0 +8) z0 hn0).trans d8;have p11:=(hc6 w.heap.size (0 +11) z0 hn0).trans d11;have p12:=(hc6 w.heap.size (0 +12) z0 hn0).trans d12
 refine SLF.wpo_do (SLF.wanted_free rfl) ?hd ?_
 case hd=>intro c h;cases h
 obtain ⟨⟨e6,_⟩,e2,hbl,e8⟩:=hu
 obtain ⟨⟨y0,y1,y2,y3,y4,y5,y6,y7,y8,y9,y10,y11,y12,y13,y14,y15⟩,yf,yl⟩:=ItmCells.of_heap (x:=Itm.zero) hbl
 simp only [Itm.zero] at y0 y1 y2 y3 y4 y5 y6 y7 y8 y9 y10 y11 y12 y13 y14 y15
 have HB:=Lib.hid hbl
 clear hc6 hf6 hc5 hf5 hbl p8 p11 p12
 go_step
 obtain ⟨qA,qC⟩:=sixteen (v0:=.int .i64 0) (v1:=.int .i64 0) (v2:=.int .u8 0) (v3:=.string ⟨#[]⟩) (v4:=.int .i64 0) (v5:=.int .i64 0) (v6:=.int .i64 0) (v7:=.bool false) (v8:=.int .i64 x.sh) (v9:=.int .i64 0) (v10:=.int .i64 0) (v11:=.int .i64 x.lo) (v12:=.int .i64 x.hi) (v13:=.string ⟨#[]⟩) (v14:=.int .i64 0) (v15:=.int .i64 0) HB.out
 exact Ze):P:=h
theorem Z61 {P:Prop}(h:P:=by
 refine SLG.ob_no rfl rfl rfl fun us w' Fe hG hu hd Kx hK=>?_
 try dsimp only
 simp [SL.O] at hu
 have hB5:Below w.heap.size w w':=HBW.out.trans (hG.belowF HBW.out.size (by simp))
 obtain ⟨hc5,hf5⟩:=bcell hB5
 have hs5:=hB5.size
 obtain ⟨hc6,hf6⟩:=hG.cellsF;have p8:=(hc6 w.heap.size (0 +8) z0 hn0).trans d8;have p13:=(hc6 w.heap.size (0 +13) z0 hn0).trans d13
 refine SLF.wpo_do (SLF.wanted_free rfl) ?hd ?_
 case hd=>intro c h;cases h
 obtain ⟨⟨e6,_⟩,e2,hbl,e8⟩:=hu
 obtain ⟨⟨y0,y1,y2,y3,y4,y5,y6,y7,y8,y9,y10,y11,y12,y13,y14,y15⟩,yf,yl⟩:=ItmCells.of_heap (x:=Itm.zero) hbl
 simp only [Itm.zero] at y0 y1 y2 y3 y4 y5 y6 y7 y8 y9 y10 y11 y12 y13 y14 y15
 have HB:=Lib.hid hbl
 clear hc6 hf6 hc5 hf5 hbl p8 p13
 go_step
 obtain ⟨qA,qC⟩:=sixteen (v0:=.int .i64 0) (v1:=.int .i64 0) (v2:=.int .u8 0) (v3:=.string ⟨#[]⟩) (v4:=.int .i64 0) (v5:=.int .i64 0) (v6:=.int .i64 0) (v7:=.bool false) (v8:=.int .i64 x.sh) (v9:=.int .i64 0) (v10:=.int .i64 0) (v11:=.int .i64 0) (v12:=.int .i64 0) (v13:=.string x.st) (v14:=.int .i64 0) (v15:=.int .i64 0) HB.out
 exact Ze):P:=h
theorem Z62 {P:Prop}(h:P:=by
 refine SLG.ob_no rfl rfl rfl fun us w' Fe hG hu hd Kx hK=>?_
 try dsimp only
 simp [SL.O] at hu
 have hB5:Below w.heap.size w w':=hbw.trans (hG.belowF hbw.size (by simp))
 obtain ⟨hc5,hf5⟩:=bcell hB5
 have hs5:=hB5.size
 obtain ⟨hc6,hf6⟩:=hG.cellsF;have d16:=(hc6 w.heap.size (0 +14) z0 hn1).trans d14;have d17:=(hc6 w.heap.size (0 +3) z0 hn1).trans d3
 refine SLF.wpo_do (SLF.wanted_free rfl) ?hd ?_
 case hd=>intro c h;cases h
 obtain ⟨⟨e6,_⟩,e2,hbl,e8⟩:=hu
 obtain ⟨⟨y0,y1,y2,y3,y4,y5,y6,y7,y8,y9,y10,y11,y12,y13,y14,y15⟩,yf,yl⟩:=ItmCells.of_heap (x:=Itm.zero) hbl
 simp only [Itm.zero] at y0 y1 y2 y3 y4 y5 y6 y7 y8 y9 y10 y11 y12 y13 y14 y15
 have HB:=Lib.hid hbl
 clear hc6 hf6 hc5 hf5 d16 d17 hbl
 go_step
 obtain ⟨qA,qC⟩:=sixteen (v0:=.int .i64 0) (v1:=.int .i64 0) (v2:=.int .u8 0) (v3:=.string x.wa) (v4:=.int .i64 0) (v5:=.int .i64 0) (v6:=.int .i64 0) (v7:=.bool false) (v8:=.int .i64 0) (v9:=.int .i64 0) (v10:=.int .i64 0) (v11:=.int .i64 0) (v12:=.int .i64 0) (v13:=.string ⟨#[]⟩) (v14:=.int .i64 x.li) (v15:=.int .i64 0) HB.out
 exact Ze):P:=h
theorem Z64 {P:Prop}(h:P:=by
 refine SLG.ob_sp rfl rfl rfl fun us w' Fe hG hu hd Kx hK=>?_
 try dsimp only
 simp [SL.O] at hu
 have hB5:Below w.heap.size w w':=HBW.out.trans (hG.belowF HBW.out.size (by simp))
 obtain ⟨hc5,hf5⟩:=bcell hB5
 have hs5:=hB5.size
 obtain ⟨hc6,hf6⟩:=hG.cellsF;have p3:=(hc6 w.heap.size (0 +3) z0 hn0).trans d3;have p4:=(hc6 w.heap.size (0 +4) z0 hn0).trans d4;have p5:=(hc6 w.heap.size (0 +5) z0 hn0).trans d5;have p6:=(hc6 w.heap.size (0 +6) z0 hn0).trans d6
 first
  | (refine SLF.wpo_do (SLF.wanted_free rfl) ?hd ?_;(case hd=>intro c h;cases h))
  | (refine SLF.wpo_do (SLF.wanted_by rfl rfl ?hv) ?hd ?_;(case hv=>simp [hu];done);(case hd=>intro c h;cases h))
  | (refine' SLF.wpo_not (SLG.wanted_not rfl rfl ?hv ?hn) ?_;(case hv=>simp [hu];exact rfl);(case hn=>first | (simp;done) | (simp [undef];done)))
 obtain ⟨e8,_⟩:=hu
 go_step
 refine (hL w').mono ?_
 exact Z7t):P:=h
theorem Z65 {P:Prop}(h:P:=by
 refine SLG.ob_sp rfl rfl rfl fun us w' Fe hG hu hd Kx hK=>?_
 try dsimp only
 simp [SL.O] at hu
 have hB5:Below w.heap.size w w':=hBw.trans (hG.belowF hBw.size hF0)
 obtain ⟨hc5,hf5⟩:=bcell hB5
 have hs5:=hB5.size
 obtain ⟨hc6,hf6⟩:=hG.cellsF
 refine SLF.wpo_do (SLF.wanted_free rfl) ?hd ?_
 case hd=>intro c h;cases h
 obtain ⟨e2,_⟩:=hu
 have hbt:=sboth_any x w' hxlo
 simp only [Itm.v,Itm.cs] at hbt
 have hs6:Wa.heap.size≤w'.heap.size:=hG.size
 clear hc5 hf5 hc6 hf6
 go_step
 refine hbt.mono ?_
 rintro e w6 ⟨v,rfl,hb6,ho6⟩
 exact hK _ v w6 _ Zh (.of_below hb6) ⟨SL.row_base ho6 hs6,rfl⟩ (fun k hk=>.inr (SL.row_bounds ho6 k hk))):P:=h
theorem Z66 {P:Prop}(h:P:=by
 refine SLF.wpo_do (SLF.wanted_free rfl) ?hd ?_
 case hd=>intro c h;cases h
 obtain ⟨e8,_⟩:=hu
 exact Z80):P:=h
theorem Z68 {P:Prop}(h:P:=by
 refine SLG.ob_sp rfl rfl rfl fun us w' Fe hG hu hd Kx hK=>?_
 try dsimp only
 simp [SL.O] at hu
 have hB5:Below w.heap.size w w':=hBw.trans (hG.belowF hBw.size hF0)
 obtain ⟨hc5,hf5⟩:=bcell hB5
 have hs5:=hB5.size
 obtain ⟨hc6,hf6⟩:=hG.cellsF
 refine SLF.wpo_do (SLF.wanted_free rfl) ?hd ?_
 case hd=>intro c h;cases h
 clear hu
 obtain ⟨⟨y0,y1,y2,y3,y4,y5,y6,y7,y8,y9,y10,y11,y12,y13,y14,y15⟩,yf,yl⟩:=ItmCells.of_heap ((hG.block b zb hnbE).trans hb)
 clear hc5 hf5 hc6 hf6
 go_step
 exact Z8):P:=h
theorem Z69 {P:Prop}(h:P:=by
 refine SLG.ob_sp rfl rfl rfl fun us w' Fe hG hu hd Kx hK=>?_
 try dsimp only
 simp [SL.O] at hu
 have hB5:Below w.heap.size w w':=hBw.trans (hG.belowF hBw.size hF0)
 obtain ⟨hc5,hf5⟩:=bcell hB5
 have hs5:=hB5.size
 obtain ⟨hc6,hf6⟩:=hG.cellsF
 refine SLF.wpo_do (SLF.wanted_free rfl) ?hd ?_
 case hd=>intro c h;cases h
 obtain ⟨⟨e0,_⟩,_,hbl,_⟩:=hu
 obtain ⟨y0,y1,y2,yf,yl⟩:=cell3s hbl
 clear hc5 hf5 hc6 hf6
 go_step
 exact Z8):P:=h
theorem Z6c {P:Prop}(h:P:=by
 refine SLG.ob_sp rfl rfl rfl fun us w' Fe hG hu hd Kx hK=>?_
 try dsimp only
 simp [SL.O] at hu
 have hB5:Below w.heap.size w w':=hbw.trans (hG.belowF hbw.size (by simp))
 obtain ⟨hc5,hf5⟩:=bcell hB5
 have hs5:=hB5.size
 obtain ⟨hc6,hf6⟩:=hG.cellsF;have d16:=(hc6 w.heap.size (0 +14) z0 hn1).trans d14;have d17:=(hc6 w.heap.size (0 +3) z0 hn1).trans d3
 exact Z7u):P:=h
theorem Z6d {P:Prop}(h:P:=by
 first
  | (refine SLF.wpo_do (SLF.wanted_free rfl) ?hd ?_;(case hd=>intro c h;cases h))
  | (refine SLF.wpo_do (SLF.wanted_by rfl rfl ?hv) ?hd ?_;(case hv=>simp [hu];done);(case hd=>intro c h;cases h))
  | (refine' SLF.wpo_not (SLG.wanted_not rfl rfl ?hv ?hn) ?_;(case hv=>simp [hu];exact rfl);(case hn=>first | (simp;done) | (simp [undef];done)))
 skip
 obtain ⟨⟨y0,y1,y2,y3,y4,y5,y6,y7,y8,y9,y10,y11,y12,y13,y14,y15⟩,yf,yl⟩:=ItmCells.of_heap ((hG.block _ z0 hn0).trans HB0.out)
 clear hc6 hf6 hc5 hf5
 go_step
 exact Z8):P:=h
theorem Z6i {P:Prop}(h:P:=by
 first
  | (refine SLF.wpo_do (SLF.wanted_free rfl) ?hd ?_;(case hd=>intro c h;cases h))
  | (refine SLF.wpo_do (SLF.wanted_by rfl rfl ?hv) ?hd ?_;(case hv=>simp [hu];done);(case hd=>intro c h;cases h))
  | (refine' SLF.wpo_not (SLG.wanted_not rfl rfl ?hv ?hn) ?_;(case hv=>simp [hu];exact rfl);(case hn=>first | (simp;done) | (simp [undef];done)))
 obtain ⟨e8,_⟩:=hu
 go_step
 refine (hSp w').mono ?_
 exact Zg):P:=h
theorem Z6l {P:Prop}(h:P:=by
 refine SLF.wpo_do (SLF.wanted_free rfl) ?hd ?_
 case hd=>intro c h;cases h
 obtain ⟨⟨e1,_⟩,⟨e5,hbl,e8⟩,e4,_⟩:=hu
 obtain ⟨y0,y1,y2,y3,yf,yl⟩:=cell4s hbl
 clear hc5 hf5 hc6 hf6 p0 p1 p2
 go_step
 refine hK _ _ (.setCell _ Z3e _) ⟨e5,by simpa using SL.heap_set hbl (.int .i64 x.id) (i:=3),rfl⟩ ?_
 exact Zm):P:=h
theorem Z6m {P:Prop}(h:P:=by
 refine SLF.wpo_do (SLF.wanted_free rfl) ?hd ?_
 case hd=>intro c h;cases h
 obtain ⟨⟨e1,_⟩,⟨e4,_⟩,e5,hbl,e8⟩:=hu
 obtain ⟨y0,y1,y2,y3,yf,yl⟩:=cell4s hbl
 clear hc5 hf5 hc6 hf6 p0 p1 p2
 go_step
 refine hK _ _ (.setCell _ Z3e _) ⟨e5,by simpa using SL.heap_set hbl (.int .i64 x.hi) (i:=1),rfl⟩ ?_
 exact Zm):P:=h
theorem Z6p {P:Prop}(h:P:=by
 rintro lid pre x post W1 K he hN hK
 have hw:W0.heap.size≤W1.heap.size:=by
  exact Z2g
 have hK2:=hK
 clear hK
 simp only [Itm.v,Itm.cs]
 have HK:=Lib.hid hK2
 clear hK2
 gi_wp2_with fail
 refine HK.out _ _ ?_ ?_ ?_ ?_ ?_
 ·exact Z11
 ·exact Z2u
 ·rfl
 ·rfl
 ·exact Z1b):P:=h
theorem Z6r {P:Prop}(h:P:=by
 go_step
 exact hK _ _ _ _ Zh (.alloc _ _ _) (SL.aw_in ⟨w'.heap.size,_,_,⟨rfl,rfl⟩,⟨hs5,World.alloc_heap_new _ _,rfl⟩,rfl⟩) (fun j hj=>.inr (by simp at hj;subst hj;simp))):P:=h
theorem Z6s {P:Prop}(h:P:=by
 clear hc5 hf5 hhM
 go_step
 exact hK _ [M] (.setCell _ (by simp [SL.box,eF]) _) ⟨M,e23,hbM,by simpa using HS.out,rfl⟩ (fun k hk=>.inl (by simpa [SL.box,eF] using hk))):P:=h
theorem Z70 {P:Prop}(h:P:=by
 go_step
 exact hK _ _ _ _ Z2z (SL.Chg.refl _ _) rfl rfl (by simp)):P:=h
theorem Z72 {P:Prop}(h:P:=by
 clear hc5 hf5
 go_step
 exact Z8):P:=h
theorem Z7e {P:Prop}(h:P:=by
 go_step
 refine hcc.mono ?_
 exact Zg):P:=h
theorem Z1 {P:Prop}(h:P:=by
 refine ⟨?_,?_,?_,?_,?_,?_,?_,?_,?_,?_,?_,?_,?_,?_,?_,?_,?_,?_,?_,?_,?_,?_,?_,?_,?_,?_,?_,?_,?_,?_,trivial⟩
 all_goals first
  | (exact Z7i)
  | skip
 ·exact Z7h
 ·exact Z7w
 ·refine SLG.ob_no rfl rfl rfl fun us w' Fe hG hu hd Kx hK=>?_
  try dsimp only
  simp [SL.O] at hu
  have hB5:Below w.heap.size w w':=HBW.out.trans (hG.belowF HBW.out.size (by simp))
  obtain ⟨hc5,hf5⟩:=bcell hB5
  have hs5:=hB5.size
  obtain ⟨hc6,hf6⟩:=hG.cellsF;have p8:=(hc6 w.heap.size (0 +8) z0 hn0).trans d8;have p9:=(hc6 w.heap.size (0 +9) z0 hn0).trans d9;have p10:=(hc6 w.heap.size (0 +10) z0 hn0).trans d10;have q0:=(hc6 B0 0 zz0 hm0).trans k0;have q1:=(hc6 B1 0 zz1 hm1).trans k1;have q2:=(hc6 B2 0 zz2 hm2).trans k2
  refine SLF.wpo_do (SLF.wanted_free rfl) ?hd ?_
  case hd=>intro c h;cases h
  obtain ⟨⟨e6,_⟩,e2,hbl,e8⟩:=hu
  obtain ⟨⟨y0,y1,y2,y3,y4,y5,y6,y7,y8,y9,y10,y11,y12,y13,y14,y15⟩,yf,yl⟩:=ItmCells.of_heap (x:=Itm.zero) hbl
  simp only [Itm.zero] at y0 y1 y2 y3 y4 y5 y6 y7 y8 y9 y10 y11 y12 y13 y14 y15
  have HB:=Lib.hid hbl
  clear hc6 hf6 hc5 hf5 hbl p8 p9 p10
  go_step
  obtain ⟨qA,qC⟩:=sixteen (v0:=.int .i64 0) (v1:=.int .i64 0) (v2:=.int .u8 0) (v3:=.string ⟨#[]⟩) (v4:=.int .i64 0) (v5:=.int .i64 0) (v6:=.int .i64 0) (v7:=.bool false) (v8:=.int .i64 x.sh) (v9:=.int .i64 x.fr) (v10:=.int .i64 x.tw) (v11:=.int .i64 x.lo) (v12:=.int .i64 x.hi) (v13:=.string ⟨#[]⟩) (v14:=.int .i64 0) (v15:=.int .i64 0) HB.out
  refine hK _ _ Z71 ⟨e2,qA,rfl⟩ ?_
  intro k hk
  left
  simpa [SL.boxAt,e8] using hk
 ·exact Z7j):P:=h
theorem Z2 {P:Prop}(h:P:=by
 first
  | (refine SLF.wpo_do (SLF.wanted_free rfl) ?hd ?_;(case hd=>intro c h;cases h))
  | (refine SLF.wpo_do (SLF.wanted_by rfl rfl ?hv) ?hd ?_;(case hv=>simp [hu];done);(case hd=>intro c h;cases h))
  | (refine' SLF.wpo_not (SLG.wanted_not rfl rfl ?hv ?hn) ?_;(case hv=>simp [hu];exact rfl);(case hn=>first | (simp;done) | (simp [undef];done)))
 exact Z4):P:=h
theorem Z4 {P:Prop}(h:P:=by
 clear hd
 first
  | (go_step;exact hK _ _ _ (SL.Chg.refl _ _) (by first | exact rfl | (simp only [hu];exact rfl)) rfl (by simp) rfl)
  | exact hK _ _ _ (SL.Chg.refl _ _) rfl rfl (by simp) rfl):P:=h
theorem Z6 {P:Prop}(h:P:=by
 refine SLG.ob_no rfl rfl rfl fun us w' Fe hG hu hd Kx hK=>?_
 try dsimp only
 simp [SL.O] at hu
 have hB5:Below w.heap.size w w':=HBW.out.trans (hG.belowF HBW.out.size (by simp))
 obtain ⟨hc5,hf5⟩:=bcell hB5
 have hs5:=hB5.size
 obtain ⟨hc6,hf6⟩:=hG.cellsF;have p3:=(hc6 w.heap.size (0 +3) z0 hn0).trans d3;have p4:=(hc6 w.heap.size (0 +4) z0 hn0).trans d4;have p5:=(hc6 w.heap.size (0 +5) z0 hn0).trans d5;have p6:=(hc6 w.heap.size (0 +6) z0 hn0).trans d6
 refine SLF.wpo_do (SLF.wanted_free rfl) ?hd ?_
 case hd=>intro c h;cases h
 obtain ⟨⟨e6,_⟩,e2,hbl,e8⟩:=hu
 obtain ⟨⟨y0,y1,y2,y3,y4,y5,y6,y7,y8,y9,y10,y11,y12,y13,y14,y15⟩,yf,yl⟩:=ItmCells.of_heap (x:=Itm.zero) hbl
 simp only [Itm.zero] at y0 y1 y2 y3 y4 y5 y6 y7 y8 y9 y10 y11 y12 y13 y14 y15
 have HB:=Lib.hid hbl
 clear hc6 hf6 hc5 hf5 hbl p3 p4 p5 p6
 go_step
 obtain ⟨qA,qC⟩:=sixteen (v0:=.int .i64 0) (v1:=.int .i64 0) (v2:=.int .u8 0) (v3:=.string x.wa) (v4:=.int .i64 x.pit) (v5:=.int .i64 x.ly) (v6:=.int .i64 x.co) (v7:=.bool x.ft) (v8:=.int .i64 0) (v9:=.int .i64 0) (v10:=.int .i64 0) (v11:=.int .i64 0) (v12:=.int .i64 0) (v13:=.string ⟨#[]⟩) (v14:=.int .i64 0) (v15:=.int .i64 0) HB.out
 refine hK _ _ Z71 ⟨e2,qA,rfl⟩ ?_
 intro k hk
 left
 simpa [SL.boxAt,e8] using hk):P:=h
theorem Z7 {P:Prop}(h:P:=by
 refine SLF.wpo_do (SLF.wanted_free rfl) ?hd ?_
 case hd=>intro c h;cases h
 obtain ⟨e9,_⟩:=hu
 exact Zd):P:=h
theorem Zb {P:Prop}(h:P:=by
 have hK2:=hK
 have Hp:=Lib.hid hp
 clear hK hp
 simp only [Itm.v,Itm.cs]
 have HK:=Lib.hid hK2
 clear hK2
 gi_wp2_with fail
 refine HK.out _ _ ?_ ?_ ?_ ?_ ?_
 ·exact Z11
 ·exact Z6u
 ·rfl
 ·rfl
 ·exact Z1b):P:=h
theorem Zc {P:Prop}(h:P:=by
 refine SLG.ob_sp rfl rfl rfl fun us w' Fe hG hu hd Kx hK=>?_
 try dsimp only
 simp [SL.O] at hu
 have hB5:Below w.heap.size w w':=HBW.out.trans (hG.belowF HBW.out.size (by simp))
 obtain ⟨hc5,hf5⟩:=bcell hB5
 have hs5:=hB5.size
 obtain ⟨hc6,hf6⟩:=hG.cellsF;have p3:=(hc6 w.heap.size (0 +3) z0 hn0).trans d3;have p4:=(hc6 w.heap.size (0 +4) z0 hn0).trans d4;have p5:=(hc6 w.heap.size (0 +5) z0 hn0).trans d5;have p6:=(hc6 w.heap.size (0 +6) z0 hn0).trans d6
 exact Z7u):P:=h
theorem Zd {P:Prop}(h:P:=by
 go_step
 exact hK _ _ _ [] (by simp [Act.put,e9];done) (SL.Chg.refl _ _) ⟨rfl,rfl⟩ (fun j hj=>by cases hj)):P:=h
theorem Zp {P:Prop}(h:P:=by
 refine SLG.ob_no rfl rfl rfl fun us w' Fe hG hu hd Kx hK=>?_
 try dsimp only
 simp [SL.O] at hu
 have hB5:Below w5.heap.size w5 w':=hG.below'
 obtain ⟨hc5,hf5⟩:=bcell hB5
 have hs5:=hB5.size
 refine SLF.wpo_do (SLF.wanted_free rfl) ?hd ?_
 case hd=>intro c h;cases h
 obtain ⟨⟨e9,_⟩,M,e23,hbM,hhM,eF⟩:=hu
 have y0:=(SL.cells_of hhM).1 0
 have yf:=(SL.cells_of hhM).2
 simp at y0
 have yl:=(Array.getElem?_eq_some_iff.1 hhM).1
 have HS:=Lib.hid (SL.heap_set hhM (.int .i64 N0) (i:=0))
 exact Z6s):P:=h
theorem Zq {P:Prop}(h:P:=by
 refine SLG.ob_no rfl rfl rfl fun us w' Fe hG hu hd Kx hK=>?_
 try dsimp only
 simp [SL.O] at hu
 have hB5:Below w5.heap.size w5 w':=hG.below'
 obtain ⟨hc5,hf5⟩:=bcell hB5
 have hs5:=hB5.size
 refine SLF.wpo_do (SLF.wanted_free rfl) ?hd ?_
 case hd=>intro c h;cases h
 obtain ⟨⟨e9,_⟩,M,e23,hbM,hhM,eF⟩:=hu
 have y0:=(SL.cells_of hhM).1 0
 have yf:=(SL.cells_of hhM).2
 simp at y0
 have yl:=(Array.getElem?_eq_some_iff.1 hhM).1
 have HS:=Lib.hid (SL.heap_set hhM (.bool I0) (i:=0))
 exact Z6s):P:=h
theorem Z15 {P:Prop}(h:P:=by
 have ho:opens FAR s.r x=false:=by cases h:opens FAR s.r x with | false=>rfl | true=>(have:=opens_FAR.1 h;omega)
 have Hst:RowKit.Hid (s0.pass FAR bs (k +1)=s):=Lib.hid Z6v
 refine wpIn_wide.2 ?_
 go_quiet (fail)
 gi_wp2
 go_roundw
 case rel=>exact ⟨k +1,by omega,by go_num,Hst.out ▸ hcw _⟩
 case measure=>simp [RowKit.intOf];omega):P:=h
theorem Z2k {P:Prop}(h:P:=by
 gi_wp2_with fail
 go_roundw
 case rel=>exact ⟨k +1,by omega,by go_num,by rw [Hs2.out];exact HJ2.out,hown2⟩
 case measure=>simp [RowKit.intOf];omega):P:=h
theorem Z2q {P:Prop}(h:P:=by
 gi_wp2_with fail
 go_roundw
 case rel=>exact ⟨q +1,by omega,by go_num,by rw [Hs2.out];exact HJ2.out⟩
 case measure=>simp [RowKit.intOf];omega):P:=h
theorem Z3j {P:Prop}(h:P:=by
 gi_wp2_with fail
 exact ⟨keeps_of_chg_w (E:=[]) (.refl _ _) (by simp),HN.out,any_snoc Hp.out Hx.out⟩):P:=h
theorem Z3y {P:Prop}(h:P:=by
 clear hx1
 gi_wp2_with fail
 go_end0
 exact ⟨⟨_,rfl⟩,.inl hj⟩):P:=h
open Go.RowKit Go.Shelf
set_option maxHeartbeats 1000000
set_option maxRecDepth 100000
attribute [local go_sem] Oper.semAt_some

/-- What settled works on, as it lies in a world: the system's box, the box of the row's pointer, the row, the last bounds. -/
structure SW (p:Int) (a:Option Addr) (cap:Nat) (bs:List Bd) (SB PB N M:Nat) (lo:Int) (W0:World) (s:RL) (W:World):Prop where
 os:W.os=W0.os
 tape:W.tape=W0.tape
 output:W.output=W0.output
 sb:W.heap[SB]?=some (.cells #[.int .i64 p,.slice a bs.length cap] 57 (0,0))
 pb:W.heap[PB]?=some (.cells #[.pointer (some ⟨N,0,none⟩)] 194 (0,0))
 row:W.heap[N]?=some (.cells (ints s.r) 191 (0,0))
 lst:W.heap[M]?=some (.cells (ints s.last) 190 (0,0))
 bds:BdsAt W a bs.length cap bs
 ok:s.ok lo
theorem abide {β:Type} {B:Nat} {J:β→World→Prop} (hA:AbidesFrom B J) {s:β} {w w':World} (h:J s w) (hb:Below w.heap.size w w'):J s w' :=
 hA s w w' none h ⟨hb.os,hb.tape,hb.output,hb.size,fun k hk _=>hb.block k hk⟩ (fun r e=>by cases e)
theorem grelaxing1_any (p:Int) (a:Option Addr) (cap:Nat) (bs:List Bd) (SB PB N M:Nat) (lo:Int) (l:Nat) (J:RL→World→Prop) (s0:RL) (W0 W:World)
 (hbs:bs.length≤402) (hin:∀ b ∈ bs,b.inr) (hlo: -3000000000000≤lo)
 (hJI:∀ s W,J s W→SW p a cap bs SB PB N M lo W0 s W) (hA:AbidesFrom W.heap.size J) (h0:J { s0 with nx:=0 } W)
 (hy:∀ (s:RL) (k:Nat) (W1:World),J s W1→k<bs.length→s.nx≤k→opens FAR s.r (bs.getD k default)=true→YieldAt Fence.wide 0 Tryz.prog l #[.int .i64 k,(bs.getD k default).v] W1 fun e W'=>e=.returned (.bool true)∧J (s.upd k (bs.getD k default)) W') :
 CallsIn Fence.wide 0 Tryz.prog 224 #[.func (.yield l) #[] #[],.pointer (some ⟨SB,0,none⟩),.pointer (some ⟨PB,0,none⟩)] W fun e W'=>(∃ v,e=.returned v)∧J (s0.pass FAR bs bs.length) W':=by
 refine callsIn_of_wp Tryz.func224 rfl trivial ?_
 simp only [Tryz.ntmps224,List.size_toArray,List.length_cons,List.length_nil,Nat.reduceAdd,Nat.reduceSub,Array.replicate_succ,Array.replicate_zero,List.push_toArray,List.append_toArray,List.nil_append,List.cons_append]
 have hI0:=hJI _ _ h0
 obtain ⟨sc,sf⟩:=SL.cells_of hI0.sb
 have c1:=sc 1
 simp at c1
 gi_wp2_with fail
 gi_loopw [9] (fun i wr=>∃ k:Nat,k≤bs.length∧i=.int .i64 k∧J (s0.pass FAR bs k) wr) (fun i _=>bs.length - (RowKit.intOf i).toNat)
 case atStart=>exact ⟨0,Nat.zero_le _,rfl,h0⟩
 case round =>
  obtain ⟨k,hk,rfl,hJ⟩:=hrel
  have hI:=hJI _ _ hJ
  by_cases hlt:k<bs.length
  ·have HY:=Lib.hid (fun W1 (hJ1:J (s0.pass FAR bs k) W1)=>hy _ k W1 hJ1 hlt (RL.pass_nx _ _ _ _))
   have Hstep:RowKit.Hid (s0.pass FAR bs (k +1)=(s0.pass FAR bs k).step FAR k (bs.getD k default)):=Lib.hid rfl
   have hb:(bs.getD k default).inr:=hin _ (by rw [List.getD_eq_getElem?_getD,List.getElem?_eq_getElem hlt];exact List.getElem_mem _)
   obtain ⟨b,off,rfl,hbl,d0,d1,d2,d3⟩:=hI.bds.get hlt
   generalize bs.getD k default=x at *
   obtain ⟨x0,x1,x2,x3,x4,x5⟩:=hb
   generalize hs:s0.pass FAR bs k=s at *
   have hp:=(SL.cells_of hI.pb).1 0
   simp at hp
   obtain ⟨l0,l1⟩:=hI.ok.lows x.frm x0 x1
   obtain ⟨l2,l3⟩:=hI.ok.lows x.tow x2 x3
   have hrl:=hI.ok.rl
   have hnx:s.nx≤k:=by rw [← hs];exact RL.pass_nx _ _ _ _
   have r0:=((SL.cells_of hI.row).1 x.frm.toNat).trans (gi_cell x0 (by omega))
   have r1:=((SL.cells_of hI.row).1 x.tow.toNat).trans (gi_cell x2 (by omega))
   unfold FAR at l1 l3
   have l0': -4000000000000≤gi s.r x.frm:=by omega
   have l2': -4000000000000≤gi s.r x.tow:=by omega
   clear l0 l2
   have hwr:IntKind.i64.wrap (gi s.r x.frm +x.most)=gi s.r x.frm +x.most:=IntWalk.i64_in _ (by omega)
   have hPB:=World.block_lt_of_cell? wr _ hp
   have hN:=World.block_lt_of_cell? wr _ r0
   simp only at hPB hN
   gi_wp2_with fail
   have hcw:∀ o,J s ((wr.alloc (Obj.cells #[.int .i64 x.frm,.int .i64 x.tow,.int .i64 x.most,.int .i64 x.bid] 69)).drewN o):=fun o=>abide hA hJ Z5
   by_cases q1:gi s.r x.frm<1099511627776
   ·have q1':decide (gi s.r x.frm<1099511627776)=true:=by simpa using q1
    by_cases q2:gi s.r x.frm +x.most<gi s.r x.tow
    ·have ho:opens FAR s.r x=true:=opens_FAR.2 ⟨q1,q2⟩
     have Hst:RowKit.Hid (s0.pass FAR bs (k +1)=s.upd k x):=Lib.hid Z6v
     have q2':decide (gi s.r x.frm +x.most<gi s.r x.tow)=true:=by simpa using q2
     have hz1:wr.heap.size<(wr.alloc (Obj.cells #[.int .i64 x.frm,.int .i64 x.tow,.int .i64 x.most,.int .i64 x.bid] 69)).heap.size:=by simp
     refine region_cut_at Zk 29 Zk Zk ?_
     simp only [List.take_succ_cons,List.take_zero,List.drop_succ_cons,List.drop_zero]
     repeat (quiet_step (fail))
     refine wpQuiet_nil ?_
     intro _ hw'
     obtain ⟨nq,hw''⟩:=hw'
     subst hw''
     change wpListIn Fence.wide 0 _ _ _ _ _ _
     obtain ⟨fn,tmps,assign,body,hyy,hR⟩:=HY.out _ (hcw nq) ho
     simp only [Bd.v] at hyy
     have HR:=Lib.hid hR
     clear hR
     gi_wp2
     refine ⟨rfl,HR.out.mono ?_⟩
     rintro e W3 ⟨rfl,hJ3⟩
     gi_wp2
     go_roundw
     case rel=>exact ⟨k +1,by omega,by go_num,Hst.out ▸ hJ3⟩
     case measure=>simp [RowKit.intOf];omega
    ·have q2':decide (gi s.r x.frm +x.most<gi s.r x.tow)=false:=by simpa using q2
     exact Z15
   ·have q1':decide (gi s.r x.frm<1099511627776)=false:=by simpa using q1
    exact Z15
  ·gi_wp2_with fail
   go_end0
   obtain rfl:k=bs.length:=by omega
   exact ⟨⟨_,rfl⟩,hJ⟩
open Go.RowKit Go.Shelf
theorem ints_size (l:List Int):(ints l).size=l.length:=by simp [ints]
theorem ints_one (l:List Int):(ints l).all (·.oneCell')=true:=by
 rw [Array.all_eq_true_iff_forall_mem]
 intro v hv
 simp [ints] at hv
 obtain ⟨_,_,rfl⟩:=hv
 rfl

/-- A row is written over itself. -/
theorem setRow_same {w:World} {N:Nat} {cs:Array Value} {t:TypeId} (h:w.heap[N]?=some (.cells cs t (0,0))):w.setRow N cs=w:=by
 have e:(w.setRow N cs).heap=w.heap:=by
  apply Array.ext_getElem?
  intro i
  by_cases hi:i=N
  ·subst hi;rw [setRow_heap w i cs cs t _ h,h]
  ·unfold World.setRow;simp [Array.getElem?_modify,Ne.symm hi]
 show { w with heap:=(w.setRow N cs).heap }=w
 rw [e]
theorem run_items {P:Program} (w:World) {e:TypeId} (hu:P.underlying e=some (.int .i64)) (hc:P.cellsOf e=1) (d:Nat) (xs ys:List Int):∀ (is:List Nat),(∀ i ∈ is,i<xs.length∧i<ys.length) →
 (Op.eqItems (d +1) e (P.cellsOf e) (ints xs) (ints ys) is).run P w=.ok (is.all fun i=>xs.getD i 0 == ys.getD i 0) w
 | [],_=>by simp [Op.eqItems]
 | i::is,h=>by
   obtain ⟨h1,h2⟩:=h i (by simp)
   have he:P.plainKey e=true:=by unfold Program.plainKey;rw [hu]
   have ih:=run_items w hu hc d xs ys is (fun j hj=>h j (by simp [hj]))
   simp only [Op.eqItems,Sem.run_bind]
   rw [run_part_plain w he (off:=i * P.cellsOf e) (v:=.int .i64 (xs.getD i 0)) (by rw [hc,Nat.mul_one];exact ints_get xs i h1)]
   simp only [Result.andThen_ok]
   rw [run_part_plain w he (off:=i * P.cellsOf e) (v:=.int .i64 (ys.getD i 0)) (by rw [hc,Nat.mul_one];exact ints_get ys i h2)]
   simp only [Result.andThen_ok]
   rw [run_equalIn_int w d e .i64 .i64 _ _ hu]
   simp only [Result.andThen_ok,List.all_cons]
   cases hq:(xs.getD i 0 == ys.getD i 0)
   ·simp
   ·simpa using ih
theorem list_all_eq {xs ys:List Int} (h:xs.length=ys.length):((List.range xs.length).all fun i=>xs.getD i 0 == ys.getD i 0)=decide (xs=ys):=by
 rw [Bool.eq_iff_iff]
 simp only [List.all_eq_true,List.mem_range,beq_iff_eq,decide_eq_true_eq]
 constructor
 ·intro hh
  apply List.ext_getElem h
  intro i h1 h2
  have:=hh i h1
  simpa [List.getD_eq_getElem?_getD,List.getElem?_eq_getElem h1,List.getElem?_eq_getElem h2] using this
 ·rintro rfl i _;rfl
theorem cells_int:Tryz.prog.cellsOf 3=1:=by kernel_rfl

/-- '*r == was'. -/
theorem eq_rows (w:World) {xs ys:List Int} (h1:xs.length=60) (h2:ys.length=60) :
 (binOp .eql 191 (.agg (ints xs)) (.agg (ints ys))).run Tryz.prog w=.ok (.bool (decide (xs=ys))) w:=by
 rw [run_eql_struct]
 obtain ⟨i,hi⟩:=Option.isSome_iff_exists.1 (show (Tryz.prog.info? 3).isSome=true by kernel_rfl)
 have h4:=run_equalIn_array w 9999 (ints xs) (ints ys) (n:=60) (e:=3) (i:=i) Tryz.underlying191 hi
 rw [show (10000:Nat)=9999 +1 from rfl,h4]
 have h3:=run_items w Tryz.underlying3 cells_int 9998 xs ys (List.range xs.length) (fun i hi=>by rw [List.mem_range] at hi;omega)
 rw [list_all_eq (by rw [h1,h2]),h1] at h3
 rw [h3]
 rfl
theorem gd_rows:Tryz.prog.eqGuardType Tryz.prog.depth 191=false:=by kernel_rfl
theorem wp_eqrows {o:Oper} {a:Act} {w:World} {K:Act→World→Prop} {Q:Exit→Act→World→Prop} (x y:Operand) {rt:TypeId} (ho:o.op=.binOp .eql 191 x y rt) {xs ys:List Int}
 (hx:a.eval x=.agg (ints xs)) (hy:a.eval y=.agg (ints ys)) (h1:xs.length=60) (h2:ys.length=60) (h:K (a.put o.dst (.bool (decide (xs=ys)))) w):o.wp Tryz.prog a w K Q:=by
 have hg:=run_eqGuard_agg (P:=Tryz.prog) w .eql 191 x y (ints xs) (ints ys) gd_rows
 have hq:=eq_rows w h1 h2
 unfold Oper.wp execOp
 simp only [ho,hx,hy,Sem.run_bind,hg,hq,Result.andThen_ok,Sem.run_pure]
 exact h

/-- The marks of ranges over functions among a frame's deferred calls. -/
def Marks (B:Nat) (D:List Deferred) (W:World):Prop :=
 (∀ d ∈ D,∃ r,d.target=.collected r∧B≤r∧W.heap[r]?=some (.deferred (some [])))∧D.Pairwise fun d e=>d.target≠e.target
theorem leaves_marks {P:Program} {F:Fence} {n B:Nat} {fn:Func} {tmps:Array Value} {R:Ending→World→Prop} {u:FrameMode} (hu:u≠.run) (J:World→Prop)
 (hJ:∀ W r,B≤r→J W→W.heap[r]?=some (.deferred (some []))→J (W.putObj r (.deferred none))) (hend:∀ W,J W→LeavesIn F n P fn tmps R [] u W) :
 ∀ (D:List Deferred) (W:World),Marks B D W→J W→LeavesInM F n P fn tmps R D u W
 | [],W,_,h=>hend W h
 | d::D,W,⟨hm,hp⟩,h=>by
   obtain ⟨r,ht,hB,hr⟩:=hm d (by simp)
   rw [List.pairwise_cons] at hp
   refine ⟨hu,.inl ⟨r,_,ht,run_takeDeferred hr,?_⟩⟩
   refine leaves_marks hu J hJ hend D _ ⟨fun e he=>?_,hp.2⟩ (hJ W r hB h hr)
   exact Z21

/-- A frame whose slots dl are free. -/
def frame' (ts:Array Value) (dl:List Nat) (us:Nat→Value):Array Value:=(SL.put' dl us 0 ts.toList).toArray
theorem frame'_self (ts:Array Value) (dl:List Nat):frame' ts dl (fun x=>ts.getD x undef)=ts:=by
 have:∀ (l:List Value) (s:Nat),(∀ i,i<l.length→l[i]?=some (ts.getD (s +i) undef))→SL.put' dl (fun x=>ts.getD x undef) s l=l:=by
  intro l
  induction l with
  | nil=>intro s _;rfl
  | cons x xs ih =>
    intro s h
    have h0:=h 0 (by simp)
    simp at h0
    simp only [SL.put']
    rw [ih (s +1) (fun i hi=>by have:=h (i +1) Z37;simpa [Nat.add_assoc,Nat.add_comm 1 i] using this)]
    split
    ·rw [h0];simp
    ·rfl
 unfold frame'
 rw [this ts.toList 0 (fun i hi=>by simp at hi;simp [hi])]
theorem wpList_ldrow {ops:Array Oper} {rest:List Oper} {o:Oper} {a:Act} {w:World} {Q:Exit→Act→World→Prop} (hgd:o.guard=none) (x:Operand) (ho:o.op=.load 191 x)
 {g:Nat} (hx:a.eval x=.pointer (some ⟨g,0,none⟩)) {t:TypeId} {l:List Int} (hg:w.heap[g]?=some (.cells (ints l) t (0,0))) (hl:l.length=60)
 (h:wpList Tryz.prog ops Q rest (a.put o.dst (.agg (ints l))) w):wpList Tryz.prog ops Q (o::rest) a w :=
 wpList_load_row hgd _ x ho g hx t _ _ _ hg Tryz.underlying191 rfl Z24 h
theorem wpList_ldarr {ops:Array Oper} {rest:List Oper} {o:Oper} {a:Act} {w:World} {Q:Exit→Act→World→Prop} (hgd:o.guard=none) (x:Operand) (ho:o.op=.load 190 x)
 {g:Nat} (hx:a.eval x=.pointer (some ⟨g,0,none⟩)) {t:TypeId} {l:List Int} (hg:w.heap[g]?=some (.cells (ints l) t (0,0))) (hl:l.length=60)
 (h:wpList Tryz.prog ops Q rest (a.put o.dst (.agg (ints l))) w):wpList Tryz.prog ops Q (o::rest) a w :=
 wpList_load_row hgd _ x ho g hx t _ _ _ hg Tryz.underlying190 rfl Z24 h
/-- A new row is filled. -/
theorem wpList_strow_new {ops:Array Oper} {rest:List Oper} {o:Oper} {a:Act} {w0:World} {Q:Exit→Act→World→Prop} (hgd:o.guard=none) (x y:Operand) (ho:o.op=.store 191 x y) (hd:o.dst=none)
 (hx:a.eval x=.pointer (some ⟨w0.heap.size,0,none⟩)) {l:List Int} (hy:a.eval y=.agg (ints l)) {old:Array Value} (ho':old.size=60) (hl:l.length=60)
 (h:wpList Tryz.prog ops Q rest a (w0.alloc (.cells (ints l) 191))):wpList Tryz.prog ops Q (o::rest) a (w0.alloc (.cells old 191)):=by
 exact Z6t
theorem wpList_starr_new {ops:Array Oper} {rest:List Oper} {o:Oper} {a:Act} {w0:World} {Q:Exit→Act→World→Prop} (hgd:o.guard=none) (x y:Operand) (ho:o.op=.store 190 x y) (hd:o.dst=none)
 (hx:a.eval x=.pointer (some ⟨w0.heap.size,0,none⟩)) {l:List Int} (hy:a.eval y=.agg (ints l)) {old:Array Value} (ho':old.size=60) (hl:l.length=60)
 (h:wpList Tryz.prog ops Q rest a (w0.alloc (.cells (ints l) 190))):wpList Tryz.prog ops Q (o::rest) a (w0.alloc (.cells old 190)):=by
 exact Z6t
theorem wpList_strow {ops:Array Oper} {rest:List Oper} {o:Oper} {a:Act} {w:World} {Q:Exit→Act→World→Prop} (hgd:o.guard=none) (x y:Operand) (ho:o.op=.store 191 x y) (hd:o.dst=none)
 {g:Nat} (hx:a.eval x=.pointer (some ⟨g,0,none⟩)) {l:List Int} (hy:a.eval y=.agg (ints l)) {t:TypeId} {old:Array Value} (hg:w.heap[g]?=some (.cells old t (0,0))) (ho':old.size=60) (hl:l.length=60)
 (h:wpList Tryz.prog ops Q rest a (w.setRow g (ints l))):wpList Tryz.prog ops Q (o::rest) a w :=
 wpList_store_row hgd _ x y ho g (ints l) hx hy t old hg Z24 Z3z (ints_one l) (by rw [hd];exact h)
theorem wpList_starr {ops:Array Oper} {rest:List Oper} {o:Oper} {a:Act} {w:World} {Q:Exit→Act→World→Prop} (hgd:o.guard=none) (x y:Operand) (ho:o.op=.store 190 x y) (hd:o.dst=none)
 {g:Nat} (hx:a.eval x=.pointer (some ⟨g,0,none⟩)) {l:List Int} (hy:a.eval y=.agg (ints l)) {t:TypeId} {old:Array Value} (hg:w.heap[g]?=some (.cells old t (0,0))) (ho':old.size=60) (hl:l.length=60)
 (h:wpList Tryz.prog ops Q rest a (w.setRow g (ints l))):wpList Tryz.prog ops Q (o::rest) a w :=
 wpList_store_row hgd _ x y ho g (ints l) hx hy t old hg Z24 Z3z (ints_one l) (by rw [hd];exact h)
theorem wpList_starr_same {ops:Array Oper} {rest:List Oper} {o:Oper} {a:Act} {w:World} {Q:Exit→Act→World→Prop} (hgd:o.guard=none) (x y:Operand) (ho:o.op=.store 190 x y) (hd:o.dst=none)
 {g:Nat} (hx:a.eval x=.pointer (some ⟨g,0,none⟩)) {l:List Int} (hy:a.eval y=.agg (ints l)) {t:TypeId} (hg:w.heap[g]?=some (.cells (ints l) t (0,0))) (hl:l.length=60)
 (h:wpList Tryz.prog ops Q rest a w):wpList Tryz.prog ops Q (o::rest) a w :=
 wpList_starr hgd x y ho hd hx hy hg (by rw [ints_size,hl]) hl (by rw [setRow_same hg];exact h)
theorem run_var_arr {w:World} {N:Nat} {l:List Int} {t:TypeId} (h:w.heap[N]?=some (.cells (ints l) t (0,0))) (hl:l.length=60):(loadVar 190 ⟨N,0,none⟩).run Tryz.prog w=.ok (.agg (ints l)) w :=
 run_loadVar_row w N t _ _ _ _ h Tryz.underlying190 rfl Z24
theorem run_var_row {w:World} {N:Nat} {l:List Int} {t:TypeId} (h:w.heap[N]?=some (.cells (ints l) t (0,0))) (hl:l.length=60):(loadVar 191 ⟨N,0,none⟩).run Tryz.prog w=.ok (.agg (ints l)) w :=
 run_loadVar_row w N t _ _ _ _ h Tryz.underlying191 rfl Z24

/-- A loop that may push marks. -/
theorem loopD {F:Fence} {n:Nat} {P:Program} {Q:Exit→Act→World→Prop} {c:Code} {ts:Array Value} {ds:List Deferred} {w:World} (dl:List Nat) (I:(Nat→Value)→List Deferred→World→Prop) (μ:(Nat→Value)→Nat)
 (h0:I (fun x=>ts.getD x undef) ds w)
 (round:∀ us D W,I us D W→c.wpIn F n P (Exit.then (fun a' w'=>a'.tmps=frame' ts dl (fun x=>a'.tmps.getD x undef)∧I (fun x=>a'.tmps.getD x undef) a'.defers w'∧μ (fun x=>a'.tmps.getD x undef)<μ us) Q) { tmps:=frame' ts dl us,defers:=D } W) :
 (Code.loop c).wpIn F n P Q { tmps:=ts,defers:=ds } w:=by
 refine wpIn_loop (fun a w=>a.tmps=frame' ts dl (fun x=>a.tmps.getD x undef)∧I (fun x=>a.tmps.getD x undef) a.defers w) (fun a _=>μ (fun x=>a.tmps.getD x undef)) ⟨(frame'_self ts dl).symm,h0⟩ ?_
 rintro ⟨tm,D⟩ W ⟨h1,h2⟩
 simp only at h1 h2
 have:=round _ D W h2
 rw [← h1] at this
 exact wpIn_mono this (fun e a w h=>by
  cases e <;> simp only [Exit.then] at h ⊢ <;> first | exact ⟨⟨h.1,h.2.1⟩,h.2.2⟩ | exact h)
theorem loopDp {P:Program} {Q:Exit→Act→World→Prop} {c:Code} {ts:Array Value} {ds:List Deferred} {w:World} (dl:List Nat) (I:(Nat→Value)→List Deferred→World→Prop) (μ:(Nat→Value)→Nat)
 (h0:I (fun x=>ts.getD x undef) ds w)
 (round:∀ us D W,I us D W→c.wp P (Exit.then (fun a' w'=>a'.tmps=frame' ts dl (fun x=>a'.tmps.getD x undef)∧I (fun x=>a'.tmps.getD x undef) a'.defers w'∧μ (fun x=>a'.tmps.getD x undef)<μ us) Q) { tmps:=frame' ts dl us,defers:=D } W) :
 (Code.loop c).wp P Q { tmps:=ts,defers:=ds } w :=
 (wpIn_wide (n:=0)).1 (loopD dl I μ h0 fun us D W h=>wpIn_wide.2 (round us D W h))
theorem SL.Chg.cellsE {E:List Nat} {w w':World} (h:SL.Chg E w w'):(∀ b o,b<w.heap.size→b ∉ E→w'.cell? ⟨b,o,none⟩=w.cell? ⟨b,o,none⟩)∧(∀ b o,b<w.heap.size→b ∉ E→w'.frozen? ⟨b,o,none⟩=w.frozen? ⟨b,o,none⟩) :=
 ⟨fun b _ hb hn=>World.cell?_of_block (w:=w) (h.block b hb hn),fun b _ hb hn=>World.frozen?_of_block (w:=w) (h.block b hb hn)⟩
theorem SL.Chg.belowE {E:List Nat} {w w':World} {B:Nat} (h:SL.Chg E w w') (hB:B≤w.heap.size) (hE:∀ k ∈ E,B≤k):Below B w w' :=
 ⟨h.os,h.tape,h.output,h.size,fun k hk=>h.block k (Nat.lt_of_lt_of_le hk hB) (fun hm=>by have:=hE k hm;omega)⟩
theorem keeps_of_chg {B:Nat} {E:List Nat} {W W':World} (h:SL.Chg E W W') (hE:∀ k ∈ E,k<B):KeepsFrom B W W' :=
 ⟨h.size,fun k o hk ho _=>(h.block k (Array.getElem?_eq_some_iff.1 ho).1 (fun hm=>by have:=hE k hm;omega)).trans ho⟩
theorem own_chg {σ:Type} {E:List Nat} {W0:World}:OwnFrom W0.heap.size (fun (_:σ) W=>SL.Chg E W0 W):=by
 intro _ W W' row hs hg hr
 exact ⟨hg.os.trans hs.os,hg.tape.trans hs.tape,hg.output.trans hs.output,Nat.le_trans hs.size hg.size,fun k hk hn=>(hg.block k (Nat.lt_of_lt_of_le hk hs.size) (fun e=>by have:=(hr k e.symm).1;omega)).trans (hs.block k hk hn)⟩

/-- range_state with the frame said by slots. -/
theorem range_state' {P:Program} {σ α:Type} {g:Operand} {ps:Array Tmp} {assign body:Code} {Q:Exit→Act→World→Prop} {ts:Array Value} {ds:List Deferred} {w:World}
 {gf:Nat} {lb:Array Value} (hg:({ tmps:=ts,defers:=ds }:Act).eval g=.func (.func gf) #[] lb) (eg:∀ args w,(callFunc gf args).run P w=.ok (.enter gf args) w)
 {encs:α→Array Value} (hps:∀ x,(encs x).size=ps.size)
 (I:σ→World→Prop) (Ix:Code→σ→World→Prop) (hI:OwnFrom w.heap.size I) (hIx:∀ c,OwnFrom w.heap.size (Ix c)) (s0:σ) (h0:I s0 w)
 (ok:σ→α→Prop) (upd:σ→α→σ) (dl:List Nat) (A:σ→α→(Nat→Value)→World→Prop) (hA:∀ s x us,OwnFrom w.heap.size (fun (_:Unit) W=>A s x us W))
 (fin finx:σ→Prop)
 (hiter:∀ (l:Nat) (J Jx:σ→World→Prop) (W:World),Below w.heap.size w W→AbidesFrom W.heap.size J→AbidesFrom W.heap.size Jx→(∀ s W,J s W→I s W)→(∀ s W,Jx s W→∃ c,Ix c s W) →
  (∀ s x W1,J s W1→ok s x→YieldAt Fence.wide 0 P l (encs x) W1 fun e W'=>(e=.returned (.bool true)∧J (upd s x) W')∨(e=.returned (.bool false)∧Jx (upd s x) W')) →
  J s0 W→CallsIn Fence.wide 0 P gf (#[.func (.yield l) #[] #[]] ++lb) W fun e W'=>(∃ v,e=.returned v)∧((∃ s,fin s∧J s W')∨(∃ s,finx s∧Jx s W')))
 (hassign:∀ (l:Nat) (s:σ) (x:α) (W:World) (K:Act→World→Prop),I s W→ok s x →
  (∀ a' W',KeepsFrom w.heap.size W W'→I s W'→a'.tmps=frame' ts dl (fun i=>a'.tmps.getD i undef)→a'.defers=[]→A s x (fun i=>a'.tmps.getD i undef) W'→K a' W') →
  assign.wpIn (Fence.wide.inRound l) 0 P (Exit.then K (fun _ _ _=>False)) { tmps:=(ps.zip (encs x)).foldl (fun t (p,v)=>t.setIfInBounds p v) ts,defers:=[] } W)
 (hbody:∀ (l:Nat) (s:σ) (x:α) (us:Nat→Value) (W:World),w.heap.size≤l→I s W→ok s x→A s x us W→body.wpIn (Fence.wide.inRound l) 0 P (roundEnd w.heap.size I Ix (upd s x) W) { tmps:=frame' ts dl us,defers:=[] } W)
 (hdone:∀ (D:Nat) (s:σ) (W:World),w.heap.size≤D→fin s→I s W→W.heap[D]?=some (.deferred (some []))→Q .normal { tmps:=ts,defers:={ target:=.collected D,args:=#[] }::ds } W)
 (hstop:∀ (D:Nat) (c:Code) (s:σ) (W:World),w.heap.size≤D→finx s→Ix c s W→W.heap[D]?=some (.deferred (some []))→c.wp P Q { tmps:=ts,defers:={ target:=.collected D,args:=#[] }::ds } W) :
 (Code.rangeFunc g ps assign body).wp P Q { tmps:=ts,defers:=ds } w:=by
 refine range_state hg eg hps I Ix hI hIx s0 h0 ok upd (fun s x a' W=>a'.tmps=frame' ts dl (fun i=>a'.tmps.getD i undef)∧a'.defers=[]∧A s x (fun i=>a'.tmps.getD i undef) W)
  (fun s x a' u W W' row h hg hr=>⟨h.1,h.2.1,hA s x _ u W W' row h.2.2 hg hr⟩) fin finx hiter (fun l s x W K hi ho hK=>hassign l s x W K hi ho fun a' W' h1 h2 h3 h4 h5=>hK a' W' h1 h2 ⟨h3,h4,h5⟩) ?_ hdone hstop
 rintro l s x ⟨ts',ds'⟩ W hl hi ho ⟨h1,h2,h3⟩
 simp only at h1 h2 h3
 have:=hbody l s x _ W hl hi ho h3
 rw [← h1] at this
 rw [h2]
 exact this
open Go.RowKit
/-- All blocks of cells stay as they are. -/
structure KeepC (W W':World):Prop where
 size:W.heap.size≤W'.heap.size
 cells:∀ (k:Nat) (cs:Array Value) (t:TypeId) (f:Nat × Nat),W.heap[k]?=some (Obj.cells cs t f)→W'.heap[k]?=some (Obj.cells cs t f)
theorem KeepC.of_grown {W W':World} {row:Option Nat} (hg:W.grownBy W' row) (hr:∀ r,row=some r→∃ o:Obj,W.heap[r]?=some o∧o.isCells=false):KeepC W W':=by
 exact Z2i
theorem KeepC.of_below {W W':World} (h:Below W.heap.size W W'):KeepC W W' :=
 ⟨h.size,fun k _ _ _ hk=>(h.block k (Array.getElem?_eq_some_iff.1 hk).1).trans hk⟩
theorem KeepC.cell {W W':World} (h:KeepC W W') {b o:Nat} {v:Value} (hc:W.cell? ⟨b,o,none⟩=some v):W'.cell? ⟨b,o,none⟩=some v:=by
 exact Z1l
/-- append, in a round of a range over a function. -/
theorem wpListIn_app {P:Program} {w:World} {l:Nat} {ops:Array Oper} {rest:List Oper} {o:Oper} {a:Act} {Q:Exit→Act→World→Prop} {t e:TypeId} {z:Value} {size bytes:Nat} (T:Elem P t e z size bytes)
 (hgd:o.guard=none) (s x:Operand) (ho:o.op=.call { callee:=.builtin .append,args:=#[s,x],argTypes:=#[t,t] })
 {base:Nat} {v:Value} {n:Nat} {xs:List Value} (hown:w.ownsRow base e size v n xs) (hs:a.eval s=v)
 {sa:Option Addr} {m c:Nat} {news:List Value} (hx:a.eval x=.slice sa m c) (hsrc:RowAt w sa c news) (hl:news.length=m * size) (h1:∀ u ∈ news,u.oneCell'=true)
 (h63:n +m≤maxLen) (hbytes:(n +m) * bytes≤140737488355328) (hbase:base≤w.heap.size)
 (h:∀ v' w',w'.ownsRow base e size v' (n +m) (xs ++news)→w.grownBy w' v.ownBlock→Below base w w'→(v'=.slice none 0 0 ↔ v=.slice none 0 0∧m=0)→(v'.ownBlock=v.ownBlock∨v'.ownBlock=some w.heap.size)→wpListIn (Fence.wide.inRound l) 0 P ops Q rest (a.put o.dst v') w'):wpListIn (Fence.wide.inRound l) 0 P ops Q (o::rest) a w :=
 wpListIn_plain hgd fun _ hK=>SLF.wpIn_of_wp (ro:=some l) (by rw [ho];intro c h;cases h) (wp_app T s x ho hown hs hx hsrc hl h1 h63 hbytes hbase fun v' w' k1 k2 k3 k4 k5=>hK _ _ (h v' w' k1 k2 k3 k4 k5))
open Go.Shelf
set_option maxHeartbeats 1000000
set_option maxRecDepth 100000
attribute [local go_sem] Oper.semAt_some
theorem grelaxing_any (p:Int) (a:Option Addr) (n cap:Nat) (N:Nat) (w:World) :
 Calls Tryz.prog 206 #[.agg #[.int .i64 p,.slice a n cap],.pointer (some ⟨N,0,none⟩)] w fun e w' =>
  e=.returned (.func (.func 224) #[] #[.pointer (some ⟨w.heap.size,0,none⟩),.pointer (some ⟨w.heap.size +1,0,none⟩)]) ∧
  w'=(w.alloc (.cells #[.int .i64 p,.slice a n cap] 57)).alloc (.cells #[.pointer (some ⟨N,0,none⟩)] 194):=by
 have hmf:=makeFunc_run
 go_enter Tryz.func206,Tryz.ntmps206
 go_wp2
 go_ret
 exact ⟨by simp,rfl⟩
def last0 (k:Nat):List Int:=List.replicate k (-1) ++List.replicate (60 - k) 0
theorem last0_len (k:Nat) (h:k≤60):(last0 k).length=60:=by simp [last0];omega
theorem last0_next (k:Nat) (h:k<60):(last0 k).set k (-1)=last0 (k +1):=by
 unfold last0
 exact Z31
theorem last0_60:last0 60=List.replicate 60 (-1):=by simp [last0]
theorem SW.keep {p:Int} {a:Option Addr} {cap:Nat} {bs:List Bd} {SB PB N M B:Nat} {lo:Int} {W0:World} {s:RL} {W W':World} (h:SW p a cap bs SB PB N M lo W0 s W) (h1:SB<B) (h2:PB<B) (h3:N<B) (h4:M<B)
 (h5:∀ x,a=some x→x.block<B) (ho:W'.os=W.os) (ht:W'.tape=W.tape) (hu:W'.output=W.output) (hz:W.heap.size≤W'.heap.size) (hk:∀ k,k<B→k<W.heap.size→W'.heap[k]?=W.heap[k]?):SW p a cap bs SB PB N M lo W0 s W':=by
 have lt:∀ {k:Nat} {o:Obj},W.heap[k]?=some o→k<W.heap.size:=fun h=>(Array.getElem?_eq_some_iff.1 h).1
 refine ⟨ho.trans h.os,ht.trans h.tape,hu.trans h.output,(hk _ h1 (lt h.sb)).trans h.sb,(hk _ h2 (lt h.pb)).trans h.pb,(hk _ h3 (lt h.row)).trans h.row,(hk _ h4 (lt h.lst)).trans h.lst,?_,h.ok⟩
 refine ⟨h.bds.len,h.bds.small,h.bds.nil,fun x hx=>?_⟩
 obtain ⟨q1,q2,q3⟩:=h.bds.at_ x hx
 refine ⟨q1,by omega,fun i hi=>?_⟩
 have hc:∀ o,W'.cell? ⟨x.block,o,none⟩=W.cell? ⟨x.block,o,none⟩:=fun o=>World.cell?_of_block (w:=W) (hk _ (h5 x hx) q2)
 rw [hc,hc,hc,hc]
 exact q3 i hi
theorem SW.own {p:Int} {a:Option Addr} {cap:Nat} {bs:List Bd} {SB PB N M B:Nat} {lo:Int} {W0:World} (h1:SB<B) (h2:PB<B) (h3:N<B) (h4:M<B) (h5:∀ x,a=some x→x.block<B):OwnFrom B (fun s W=>SW p a cap bs SB PB N M lo W0 s W):=by
 intro s W W' row hs hg hr
 exact hs.keep h1 h2 h3 h4 h5 hg.os hg.tape hg.output hg.size (fun k hk hks=>hg.block k hks (fun e=>by have:=(hr k e.symm).1;omega))
theorem settled_leaves {w W:World} {N M:Nat} {r L:List Int} {b:Bool} {tmps:Array Value} {D:List Deferred} (h4:tmps.getD 4 undef=.pointer (some ⟨M,0,none⟩)) (h5:tmps.getD 5 undef=.bool b) (hN:N<w.heap.size) (hL:L.length=60)
 (hD:Marks w.heap.size D W) (hC:SL.Chg [N] w W) (hr:W.heap[N]?=some (.cells (ints r) 191 (0,0))) (hM:W.heap[M]?=some (.cells (ints L) 190 (0,0))) :
 LeavesInM Fence.wide 0 Tryz.prog Tryz.f176 tmps (fun e w'=>e=.returned (.tuple #[.agg (ints L),.bool b])∧SL.Chg [N] w w'∧w'.heap[N]?=some (.cells (ints r) 191 (0,0))) D .returning W:=by
 refine leaves_marks (B:=w.heap.size) (by simp) (fun W=>SL.Chg [N] w W∧W.heap[N]?=some (.cells (ints r) 191 (0,0))∧W.heap[M]?=some (.cells (ints L) 190 (0,0))) ?_ ?_ D W hD ⟨hC,hr,hM⟩
 ·rintro W1 k hk ⟨a1,a2,a3⟩ hd
  have hg:=grownBy_putObj' W1 k (.deferred none)
  refine ⟨⟨hg.os.trans a1.os,hg.tape.trans a1.tape,hg.output.trans a1.output,Nat.le_trans a1.size hg.size,fun j hj hn=>?_⟩,?_,?_⟩
  ·rw [World.putObj_heap_other (by omega)];exact a1.block j hj hn
  ·rw [World.putObj_heap_other (by omega)];exact a2
  ·rw [World.putObj_heap_other (fun e=>by rw [← e,a3] at hd;cases hd)];exact a3
 ·rintro W1 ⟨a1,a2,a3⟩
  have hv:=run_var_arr a3 hL
  have h4':tmps[4]?.getD undef=.pointer (some ⟨M,0,none⟩):=by simpa using h4
  have h5':tmps[5]?.getD undef=.bool b:=by simpa using h5
  exact ⟨_,by simp [results,Tryz.results176,asAddr,hv,h4',h5'],rfl,a1,a2⟩
theorem gsettled_any (p:Int) (a:Option Addr) (n cap:Nat) (bs:List Bd) (N:Nat) (r:List Int) (w:World) (hb:BdsAt w a n cap bs) (hbs:bs.length≤402) (hin:∀ b ∈ bs,b.inr) (hp:1≤p∧p≤60)
 (hN:w.heap[N]?=some (.cells (ints r) 191 (0,0))) (hr:r.length=60) (hlo:∀ i:Int,0≤i→i<60→ -2000000000≤gi r i∧gi r i≤FAR) (hne:∀ x,a=some x→x.block≠N) :
 Calls Tryz.prog 176 #[.agg #[.int .i64 p,.slice a n cap],.pointer (some ⟨N,0,none⟩)] w fun e w' =>
  e=.returned (.tuple #[.agg (ints (settle FAR bs (p +1).toNat ⟨r,List.replicate 60 (-1),0⟩).1.last),.bool (settle FAR bs (p +1).toNat ⟨r,List.replicate 60 (-1),0⟩).2]) ∧
  SL.Chg [N] w w'∧w'.heap[N]?=some (.cells (ints (settle FAR bs (p +1).toNat ⟨r,List.replicate 60 (-1),0⟩).1.r) 191 (0,0)):=by
 obtain rfl:=hb.len
 generalize hres:settle FAR bs (p +1).toNat ⟨r,List.replicate 60 (-1),0⟩=res
 have Hres:=Lib.hid hres
 clear hres
 have hNl:N<w.heap.size:=(Array.getElem?_eq_some_iff.1 hN).1
 refine (callsIn_wide (n:=0)).1 (callsIn_of_wp_marks Tryz.func176 rfl trivial ?_)
 simp only [Tryz.ntmps176,List.size_toArray,List.length_cons,List.length_nil,Nat.reduceAdd,Nat.reduceSub,Array.replicate_succ,Array.replicate_zero,List.push_toArray,List.append_toArray,List.nil_append,List.cons_append]
 refine wpIn_wide.2 ?_
 go_wp2_with fail
 go_loopw [10,6] (fun i _ wr=>∃ k:Nat,k≤60∧i=.int .i64 k∧Below w.heap.size w wr∧wr.heap[w.heap.size]?=some (.cells #[.int .i64 p,.slice a bs.length cap] 57 (0,0)) ∧
  wr.heap[w.heap.size +1]?=some (.cells #[.pointer (some ⟨N,0,none⟩)] 194 (0,0))∧wr.heap[w.heap.size +1 +1]?=some (.cells (ints (last0 k)) 190 (0,0))) (fun i _ _=>60 - (RowKit.intOf i).toNat)
 case atStart =>
  refine ⟨0,by omega,rfl,by ((repeat (first | assumption | exact Below.refl _ _ | refine Below.alloc ?_ ?_ _ | refine Below.setCell ?_ ?_ _ | refine Below.drew ?_ | refine belowN ?_ | refine Below.up ?_ Z18 ?_)) <;> (first | assumption | omega | (simp;done) | (simp;omega))),?_,?_,?_⟩
  ·refine (Below.heap_alloc _ _ _ Zj).trans ((Below.heap_alloc _ _ _ (by simp)).trans (World.alloc_heap_new w _))
  ·have h:=World.alloc_heap_new (w.alloc (.cells #[.int .i64 p,.slice a bs.length cap] 57)) (.cells #[.pointer (some ⟨N,0,none⟩)] 194)
   rw [World.size_alloc] at h
   exact (Below.heap_alloc _ _ _ (by simp)).trans h
  ·have h:=World.alloc_heap_new ((w.alloc (.cells #[.int .i64 p,.slice a bs.length cap] 57)).alloc (.cells #[.pointer (some ⟨N,0,none⟩)] 194)) (.cells (ints (last0 0)) 190)
   exact Z5c
 case round =>
  obtain ⟨k,hk,rfl,hB,h0,h1,h2⟩:=hrel
  by_cases hlt:k<60
  ·obtain ⟨c2,f2⟩:=SL.cells_of h2
   have c2k:=(c2 k).trans (ints_get (last0 k) k (by rw [last0_len k hk];exact hlt))
   have hk0:(0:Int)≤k:=by omega
   have f2k:=f2 k
   clear c2 f2
   go_wp2_with fail
   go_roundw
   case rel =>
    refine ⟨k +1,by omega,by go_num,by ((repeat (first | assumption | exact Below.refl _ _ | refine Below.alloc ?_ ?_ _ | refine Below.setCell ?_ ?_ _ | refine Below.drew ?_ | refine belowN ?_ | refine Below.up ?_ Z18 ?_)) <;> (first | assumption | omega | (simp;done) | (simp;omega))),?_,?_,?_⟩
    ·rw [← h0];exact Below.heap_setCell _ _ _ _ Zj
    ·rw [← h1];exact Below.heap_setCell _ _ _ _ (by simp)
    ·rw [← last0_next k hlt,← ints_set];exact SL.heap_set h2 _
   case measure=>simp [RowKit.intOf];omega
  ·obtain rfl:k=60:=by omega
   have hNr:wr.heap[N]?=some (.cells (ints r) 191 (0,0)):=(hB.block _ hNl).trans hN
   obtain ⟨c0,_⟩:=SL.cells_of h0
   have c00:=c0 0
   simp at c00
   clear c0
   go_wp2_with fail
   have hPP:(((p +1).toNat:Nat):Int)=p +1:=by omega
   generalize hPPe:(p +1).toNat=PP at *
   refine loopDp [7,8,9,19,20,21,22,23,24,25,26,27,28,29,30,31,32,33,34,35,36,37,38,39,40,41,42,43,44,45,46,47,48,49,50,51,52,53,54] (fun us D W=>∃ (i:Nat) (s:RL),us 19=.int .i64 i∧i≤PP ∧
    SW p a cap bs w.heap.size (w.heap.size +1) N (w.heap.size +1 +1) (-2000000000 - i * 40200000000) w { s with nx:=0 } W∧SL.Chg [N] w W∧Marks w.heap.size D W ∧
    settle FAR bs (PP - i) s=res) (fun us=>PP - (RowKit.intOf (us 19)).toNat) ?_ ?_
   ·refine ⟨0,⟨r,List.replicate 60 (-1),0⟩,rfl,Nat.zero_le _,⟨hB.os,hB.tape,hB.output,h0,h1,hNr,by rw [← last0_60];exact h2,hb.below hB,⟨hr,by simp,fun i q1 q2=>by have:=hlo i q1 q2;simp;omega⟩⟩,.of_below hB,⟨by simp,by simp⟩,Hres.out⟩
   ·rintro us D W ⟨i,s,h19,hi,hS,hC,hM,hset⟩
    simp only [frame',SL.put',List.toList_toArray,List.contains_cons,List.contains_nil,Nat.reduceAdd,Nat.reduceBEq,Bool.or_false,Bool.or_true,Bool.false_or,Bool.true_or,if_true,Bool.false_eq_true,if_false,h19]
    have cp:=(SL.cells_of hS.pb).1 0
    have cs0:=(SL.cells_of hS.sb).1 0
    have cs1:=(SL.cells_of hS.sb).1 1
    simp at cp cs0 cs1
    have hSlt:=World.block_lt_of_cell? W _ cp
    have hSlt0:=World.block_lt_of_cell? W _ cs0
    simp only at hSlt hSlt0
    by_cases hlt:i<PP
    ·have hid:decide ((i:Int)<p +1)=true:=by simp;omega
     go_wp2_with (first
      | (refine wpList_ldrow rfl _ rfl rfl hS.row hS.ok.rl ?_)
      | (refine wpList_strow_new rfl _ _ rfl rfl rfl rfl rfl hS.ok.rl ?_)
      | (go_at_call 206;refine (grelaxing_any _ _ _ _ _ _).mono ?_;rintro e w1 ⟨rfl,rfl⟩))
     generalize hWc:((W.alloc (Obj.cells (ints s.r) 191)).alloc (Obj.cells #[.int .i64 p,.slice a bs.length cap] 57)).alloc (Obj.cells #[.pointer (some ⟨N,0,none⟩)] 194)=Wc
     have bC:Below W.heap.size W Wc:=by rw [← hWc];((repeat (first | assumption | exact Below.refl _ _ | refine Below.alloc ?_ ?_ _ | refine Below.setCell ?_ ?_ _ | refine Below.drew ?_ | refine belowN ?_ | refine Below.up ?_ Z18 ?_)) <;> (first | assumption | omega | (simp;done) | (simp;omega)))
     have zC:Wc.heap.size=W.heap.size +3:=by rw [← hWc];simp
     have w0:Wc.heap[W.heap.size]?=some (.cells (ints s.r) 191 (0,0)):=by
      rw [← hWc];exact (Below.heap_alloc _ _ _ Zj).trans ((Below.heap_alloc _ _ _ (by simp)).trans (World.alloc_heap_new W _))
     have w1:Wc.heap[W.heap.size +1]?=some (.cells #[.int .i64 p,.slice a bs.length cap] 57 (0,0)):=by
      have h:=World.alloc_heap_new (W.alloc (Obj.cells (ints s.r) 191)) (Obj.cells #[.int .i64 p,.slice a bs.length cap] 57)
      rw [World.size_alloc] at h
      rw [← hWc];exact (Below.heap_alloc _ _ _ (by simp)).trans h
     have w2:Wc.heap[W.heap.size +1 +1]?=some (.cells #[.pointer (some ⟨N,0,none⟩)] 194 (0,0)):=by
      have h:=World.alloc_heap_new ((W.alloc (Obj.cells (ints s.r) 191)).alloc (Obj.cells #[.int .i64 p,.slice a bs.length cap] 57)) (Obj.cells #[.pointer (some ⟨N,0,none⟩)] 194)
      rw [World.size_alloc,World.size_alloc] at h
      rw [← hWc];exact h
     have hNW:N<W.heap.size:=Nat.lt_of_lt_of_le hNl hC.size
     have hMW:w.heap.size +1 +1<W.heap.size:=(Array.getElem?_eq_some_iff.1 hS.lst).1
     have haW:∀ x,a=some x→x.block<W.heap.size:=fun x hx=>(hS.bds.at_ x hx).2.1
     have hS0:SW p a cap bs (W.heap.size +1) (W.heap.size +1 +1) N (w.heap.size +1 +1) (-2000000000 - i * 40200000000) Wc { s with nx:=0 } Wc :=
      ⟨rfl,rfl,rfl,w1,w2,(bC.block _ hNW).trans hS.row,(bC.block _ hMW).trans hS.lst,hS.bds.below bC,hS.ok⟩
     clear hWc
     have hIo:OwnFrom Wc.heap.size (fun (s':RL) W'=>SW p a cap bs (W.heap.size +1) (W.heap.size +1 +1) N (w.heap.size +1 +1) (-2000000000 - i * 40200000000) Wc s' W'∧SL.Chg [N,w.heap.size +1 +1] Wc W') :=
      OwnFrom.and (SW.own (by omega) (by omega) (by omega) (by omega) (fun x hx=>by have:=haW x hx;omega)) own_chg
     refine range_state' (σ:=RL) (α:=Nat × Bd) (gf:=224) (lb:=#[.pointer (some ⟨W.heap.size +1,0,none⟩),.pointer (some ⟨W.heap.size +1 +1,0,none⟩)]) Z2a (enters_of Tryz.func224 Zk rfl)
      (encs:=fun x=>#[.int .i64 x.1,x.2.v]) (fun _=>rfl)
      (fun s' W'=>SW p a cap bs (W.heap.size +1) (W.heap.size +1 +1) N (w.heap.size +1 +1) (-2000000000 - i * 40200000000) Wc s' W'∧SL.Chg [N,w.heap.size +1 +1] Wc W') (fun _ _ _=>False)
      hIo (fun _ _ _ _ _ h=>h.elim) { s with nx:=0 } ⟨hS0,.refl _ _⟩
      (fun s' x=>x.1<bs.length∧x.2=bs.getD x.1 default∧s'.nx≤x.1∧opens FAR s'.r x.2=true) (fun s' x=>s'.upd x.1 x.2) [8,9,27,28]
      (fun s' x us W'=>us 8=.int .i64 x.1∧∃ Bx,Wc.heap.size≤Bx∧us 9=.pointer (some ⟨Bx,0,none⟩)∧W'.heap[Bx]?=some (.cells #[.int .i64 x.2.frm,.int .i64 x.2.tow,.int .i64 x.2.most,.int .i64 x.2.bid] 69 (0,0)))
      ?_ (fun s'=>s'=s.pass FAR bs bs.length) (fun _=>False) ?_ ?_ ?_ ?_ (fun _ _ _ _ _ h=>h.elim)
     ·rintro s' x us ⟨⟩ W1 W2 row ⟨h1,Bx,h2,h3,h4⟩ hg hr
      refine ⟨h1,Bx,h2,h3,(hg.block _ (Array.getElem?_eq_some_iff.1 h4).1 fun e=>?_).trans h4⟩
      obtain ⟨_,o,ho,hc⟩:=hr _ e.symm
      rw [h4] at ho
      cases ho
      cases hc
     ·intro l J Jx W1 hb1 hJ hJx hJI hJxI hy hj0
      refine (grelaxing1_any p a cap bs (W.heap.size +1) (W.heap.size +1 +1) N (w.heap.size +1 +1) (-2000000000 - i * 40200000000) l J s Wc W1 hbs hin (by omega) (fun s' W' h=>(hJI s' W' h).1) hJ hj0 ?_).mono ?_
      ·intro s' k W2 hj hk hn ho
       refine (hy s' (k,bs.getD k default) W2 hj ⟨hk,rfl,hn,ho⟩).mono ?_
       rintro e W3 (⟨rfl,h⟩ | ⟨_,h⟩)
       ·exact ⟨rfl,h⟩
       ·obtain ⟨_,hf⟩:=hJxI _ _ h;exact hf.elim
      ·rintro e W2 ⟨hv,hj⟩
       exact ⟨hv,.inl ⟨_,rfl,hj⟩⟩
     ·rintro l s' ⟨k,x⟩ W1 K ⟨hS1,hC1⟩ ⟨hk,hx,hn,ho⟩ hK
      simp only [Bd.v]
      have Hx:=Lib.hid hx
      clear hx
      gi_wp2_with fail
      exact hK _ _ (keeps_of_chg (E:=[]) (.alloc _ _ _) (by simp)) (hIo.alloc _ ⟨hS1,hC1⟩) rfl rfl ⟨rfl,W1.heap.size,hC1.size,rfl,World.alloc_heap_new W1 _⟩
     ·rintro l s' ⟨k,x⟩ us' W1 hl ⟨hS1,hC1⟩ ⟨hk,hx,hn,ho⟩ ⟨h8,Bx,hBx,h9,hBh⟩
      simp only at hk hx hn ho h8 hBh
      have hxi:x.inr:=hin _ (by rw [hx,List.getD_eq_getElem?_getD,List.getElem?_eq_getElem hk];exact List.getElem_mem _)
      obtain ⟨x0,x1,x2,x3,x4,x5⟩:=hxi
      have e0:W1.cell? ⟨w.heap.size +1,0,none⟩=some (.pointer (some ⟨N,0,none⟩)):=by
       rw [World.cell?_of_block (w:=Wc) (hC1.block (w.heap.size +1) (by omega) Zj),(bcell bC).1 _ _ hSlt];exact cp
      obtain ⟨l0,l1⟩:=hS1.ok.lows x.frm x0 x1
      obtain ⟨l2,l3⟩:=hS1.ok.lows x.tow x2 x3
      have hrl:=hS1.ok.rl
      have hll:=hS1.ok.ll
      have hos:=opens_FAR.1 ho
      have l0': -4000000000000≤gi s'.r x.frm:=by omega
      have l1':gi s'.r x.frm≤1099511627776:=l1
      clear l0 l1 l2 l3
      have hwr:IntKind.i64.wrap (gi s'.r x.frm +x.most)=gi s'.r x.frm +x.most:=IntWalk.i64_in _ (by omega)
      have Hx:=Lib.hid hx
      clear hx
      have hB1:Bx<W1.heap.size:=(Array.getElem?_eq_some_iff.1 hBh).1
      have hupd:(s'.upd k x).r=s'.r.set x.tow.toNat (gi s'.r x.frm +x.most):=rfl
      have hupl:(s'.upd k x).last=s'.last.set x.tow.toNat k:=rfl
      have hSn:=hS1.row
      have hSm:=hS1.lst
      have b0:=(SL.cells_of hBh).1 0
      have b1:=(SL.cells_of hBh).1 1
      have b2:=(SL.cells_of hBh).1 2
      simp at b0 b1 b2
      simp only [frame',SL.put',List.toList_toArray,List.contains_cons,List.contains_nil,Nat.reduceAdd,Nat.reduceBEq,Bool.or_false,Bool.or_true,Bool.false_or,Bool.true_or,if_true,Bool.false_eq_true,if_false,h8,h9]
      refine wpIn_block ?_
      refine SLF.rule (ro:=some l) Zk [N,w.heap.size +1 +1] [29,30,31,32,33,34,35,36,37,38,39,40,41,42,43,44,45,46] [SLF.pq 29 [] (.pointer (some ⟨N,0,none⟩)),SLF.pq 30 [] (.pointer (some ⟨Bx,1,none⟩)),SLF.pq 31 [1] (.int .i64 x.tow),SLF.pq 32 [] (.pointer (some ⟨Bx,1,none⟩)),SLF.pq 33 [3] (.int .i64 x.tow),SLF.pq 34 [] (.pointer (some ⟨N,0,none⟩)),SLF.pq 35 [] (.pointer (some ⟨Bx,0,none⟩)),SLF.pq 36 [6] (.int .i64 x.frm),SLF.pq 37 [5] (.pointer (some ⟨N,0,none⟩)),SLF.pq 38 [7,8] (.pointer (some ⟨N,x.frm.toNat,none⟩)),SLF.pq 39 [9,20] (.int .i64 (gi s'.r x.frm)),SLF.pq 40 [] (.pointer (some ⟨Bx,2,none⟩)),SLF.pq 41 [11] (.int .i64 x.most),SLF.pq 42 [10,12] (.int .i64 (gi s'.r x.frm +x.most)),SLF.pq 43 [] (.int .i64 k),SLF.pq 44 [0] (.pointer (some ⟨N,0,none⟩)),SLF.pq 45 [2,15] (.pointer (some ⟨N,x.tow.toNat,none⟩)),SLF.at_ 0 [13,16,20] [20] N 191 (ints (s'.upd k x).r),SLF.pq 46 [4] (.pointer (some ⟨w.heap.size +1 +1,x.tow.toNat,none⟩)),SLF.at_ 0 [14,18,21] [21] (w.heap.size +1 +1) 190 (ints (s'.upd k x).last),
       SLF.at_ 0 [] [] N 191 (ints s'.r),SLF.at_ 0 [] [] (w.heap.size +1 +1) 190 (ints s'.last)] [17,19] Zk Zk _ (SLF.two_held rfl rfl rfl ⟨hSn,rfl⟩ ⟨hSm,rfl⟩ (by omega) (by omega)) (SLF.two_apart (by omega)) ?_ ?_
      ·refine ⟨?_,?_,?_,?_,?_,?_,?_,?_,?_,?_,?_,?_,?_,?_,?_,?_,?_,?_,?_,?_,trivial⟩
       all_goals refine SLF.ob fun us w' Fe hG hu hd hv K hK=>SLF.wpo_do (SLF.wanted_free rfl) (by intro c h;cases h) ?_
       all_goals simp [SL.frame,SL.put',SL.Used,SL.Seen,SL.pu,SL.row,SL.box,SL.rowIn,SL.boxIn,SL.boxAt,SL.boxAtIn,Bd.v,Bd.cs,SLF.pq,SLF.at_] at hu hK ⊢
       all_goals (obtain ⟨hg1,hg2⟩:=hG.cellsF)
       all_goals have g0:=(hg1 (w.heap.size +1) 0 (by omega) Zj).trans e0
       all_goals have g1:=(hg1 Bx 0 hB1 Zj).trans b0
       all_goals have g2:=(hg1 Bx 1 hB1 Zj).trans b1
       all_goals have g3:=(hg1 Bx 2 hB1 Zj).trans b2
       all_goals clear hg1 hg2 hG hv
       all_goals try (go_step;exact hK _ _ _ _ Z2z (SL.Chg.refl _ _) rfl rfl (by simp) (by simp))
       ·obtain ⟨hu1,hh,_⟩:=hu
        have gh:=((SL.cells_of hh).1 x.frm.toNat).trans (gi_cell x0 (by omega))
        go_step
        exact hK _ _ _ _ Z2z (SL.Chg.refl _ _) rfl rfl (by simp) (by simp)
       ·obtain ⟨⟨u1,_⟩,⟨u2,_⟩,hh,hF⟩:=hu
        have gh:=((SL.cells_of hh).1 x.tow.toNat).trans (gi_cell x2 (by omega))
        have gf:=(SL.cells_of hh).2 x.tow.toNat
        go_step
        refine hK _ undef _ _ Z2z (.setCell _ Z51 _) (by rw [hupd,← ints_set];exact SL.heap_set hh _) rfl Z51
       ·obtain ⟨⟨u1,_⟩,⟨u2,_⟩,hh,hF⟩:=hu
        have gh:=((SL.cells_of hh).1 x.tow.toNat).trans (gi_cell x2 (by omega))
        have gf:=(SL.cells_of hh).2 x.tow.toNat
        go_step
        refine hK _ undef _ _ Z2z (.setCell _ Z51 _) (by rw [hupl,← ints_set];exact SL.heap_set hh _) rfl Z51
      ·intro us w' Fs hG hu hbd hd
       simp [SL.frame,SL.put',SL.Used,SL.Seen,SL.pu,SL.row,SL.box,SL.rowIn,SL.boxIn,SL.boxAt,SL.boxAtIn,Bd.v,Bd.cs,SLF.pq,SLF.at_] at hu
       obtain ⟨⟨hu1,_⟩,hu2,_⟩:=hu
       have hG1:SL.Chg [N,w.heap.size +1 +1] W1 w':=⟨hG.os,hG.tape,hG.output,hG.size,hG.block⟩
       have hk2:∀ k,k<Wc.heap.size→k≠N→k≠w.heap.size +1 +1→w'.heap[k]?=W1.heap[k]?:=fun k h1 h2 h3=>hG1.block k (Nat.lt_of_lt_of_le h1 hC1.size) Zj
       refine ⟨keeps_of_chg hG1 Zj,⟨hG1.os.trans hS1.os,hG1.tape.trans hS1.tape,hG1.output.trans hS1.output,(hk2 _ (by omega) (by omega) (by omega)).trans hS1.sb,(hk2 _ (by omega) (by omega) (by omega)).trans hS1.pb,hu1,hu2,
        hS1.bds.chg hG1 (fun y hy=>?_),hS1.ok.upd ⟨x0,x1,x2,x3,x4,x5⟩ hn ho⟩,hC1.trans hG1⟩
       have h1:=hne y hy
       have h2:=(hb.at_ y hy).2.1
       simp
       omega
     ·rintro Dm s' W2 hDm rfl ⟨hS2,hC2⟩ hdef
      generalize ht:s.pass FAR bs bs.length=t at *
      have hnx:t.nx≤402:=by rw [← ht];exact Nat.le_trans (RL.pass_nx _ _ _ _) hbs
      have hk2:∀ k,k<Wc.heap.size→k≠N→k≠w.heap.size +1 +1→W2.heap[k]?=Wc.heap[k]?:=fun k h1 h2 h3=>hC2.block k h1 Zj
      have z0:W2.heap[W.heap.size]?=some (.cells (ints s.r) 191 (0,0)):=(hk2 _ (by omega) (by omega) (by omega)).trans w0
      have z1:W2.heap[w.heap.size]?=some (.cells #[.int .i64 p,.slice a bs.length cap] 57 (0,0)):=(hk2 _ (by omega) (by omega) (by omega)).trans ((bC.block _ (by omega)).trans hS.sb)
      have z2:W2.heap[w.heap.size +1]?=some (.cells #[.pointer (some ⟨N,0,none⟩)] 194 (0,0)):=(hk2 _ (by omega) (by omega) (by omega)).trans ((bC.block _ (by omega)).trans hS.pb)
      have hCw:SL.Chg [N] w W2:=by
       refine ⟨hS2.os.trans (bC.os.trans hC.os),hS2.tape.trans (bC.tape.trans hC.tape),hS2.output.trans (bC.output.trans hC.output),Nat.le_trans hC.size (Nat.le_trans bC.size hC2.size),fun k hk hn=>?_⟩
       have hk1:=Nat.lt_of_lt_of_le hk hC.size
       rw [hk2 k (Nat.lt_of_lt_of_le hk1 bC.size) (by simpa using hn) (by omega),bC.block k hk1,hC.block k hk hn]
      have hMk:Marks w.heap.size ({ target:=.collected Dm,args:=#[] }::D) W2:=by
       have hold:∀ d ∈ D,∃ r,d.target=.collected r∧w.heap.size≤r∧r<Dm∧W2.heap[r]?=some (.deferred (some [])):=fun d hd=>by
        obtain ⟨r,h1,h2,h3⟩:=hM.1 d hd
        have h4:r<W.heap.size:=(Array.getElem?_eq_some_iff.1 h3).1
        refine ⟨r,h1,h2,by omega,?_⟩
        rw [hk2 r (by omega) (by omega) (fun e=>by rw [e,hS.lst] at h3;cases h3),bC.block r h4,h3]
       refine ⟨fun d hd=>?_,List.pairwise_cons.2 ⟨fun d hd e=>?_,hM.2⟩⟩
       ·rcases List.mem_cons.1 hd with rfl | hd
        ·exact ⟨Dm,rfl,by omega,hdef⟩
        ·obtain ⟨r,h1,h2,_,h3⟩:=hold d hd;exact ⟨r,h1,h2,h3⟩
       ·obtain ⟨r,h1,_,h3,_⟩:=hold d hd
        rw [h1] at e
        simp at e
        omega
      have cp2:=(SL.cells_of z2).1 0
      simp at cp2
      have hSz2:=World.block_lt_of_cell? W2 _ cp2
      simp only at hSz2
      have hrun:settle FAR bs (PP - i) s=if t.r=s.r then (t,true) else settle FAR bs (PP - i - 1) t:=by
       rw [show PP - i=(PP - i - 1) +1 by omega,settle,ht]
       rfl
      go_wp2_with fail
      refine SL.rule Zk [] [47,48,49,50,51] [SL.pu 47 [] (.pointer (some ⟨N,0,none⟩)),SL.pu 48 [0] (.pointer (some ⟨N,0,none⟩)),SL.pu 49 [1] (.agg (ints t.r)),SL.pu 50 [] (.agg (ints s.r)),SL.pu 51 [2,3] (.bool (decide (t.r=s.r)))]
       [4] Zk Zk (fun _=>[]) (SL.none_held rfl) (by simp) ?_ ?_
      ·refine ⟨?_,?_,?_,?_,?_,trivial⟩
       all_goals refine SL.ob fun us w' Fe hG hu hd hv K hK=>?_
       all_goals simp [SL.frame,SL.put',SL.Used,SL.Seen,SL.pu,SL.row,SL.box,SL.rowIn,SL.boxIn,SL.boxAt,SL.boxAtIn,Bd.v,Bd.cs] at hu hv hK ⊢
       all_goals (have hgh:∀ k,k<W2.heap.size→w'.heap[k]?=W2.heap[k]?:=fun k hk=>hG.block k hk (by simp))
       all_goals (have hg1:w'.cell? ⟨w.heap.size +1,0,none⟩=some (.pointer (some ⟨N,0,none⟩)):=(World.cell?_of_block (w:=W2) (hgh _ hSz2)).trans cp2)
       ·exact Z70
       ·exact Z70
       ·have hN2:w'.heap[N]?=some (.cells (ints t.r) 191 (0,0)):=(hgh _ (by have:=hC2.size;omega)).trans hS2.row
        refine wp_load_row _ _ rfl N (by simp [Act.eval,hu]) _ _ _ _ hN2 Tryz.underlying191 rfl (by rw [ints_size,hS2.ok.rl];kernel_rfl) ?_
        exact Z5e
       ·have hN2:w'.heap[W.heap.size]?=some (.cells (ints s.r) 191 (0,0)):=(hgh _ (by have:=hC2.size;omega)).trans z0
        refine wp_load_row _ _ rfl W.heap.size (by simp [Act.eval]) _ _ _ _ hN2 Tryz.underlying191 rfl (by rw [ints_size,hS.ok.rl];kernel_rfl) ?_
        exact Z5e
       ·obtain ⟨⟨u1,_⟩,u2,_⟩:=hu
        exact wp_eqrows _ _ rfl (by simp [Act.eval,u1]) (by simp [Act.eval,u2]) hS2.ok.rl hS.ok.rl (hK _ _ _ _ rfl (SL.Chg.refl _ _) rfl rfl (by simp))
      ·intro us3 w' Fs hG hu hbd hd
       simp [SL.frame,SL.put',SL.Used,SL.Seen,SL.pu,SL.row,SL.box,SL.rowIn,SL.boxIn,SL.boxAt,SL.boxAtIn,Bd.v,Bd.cs] at hu ⊢
       obtain ⟨hu,_⟩:=hu
       have hgh:∀ k,k<W2.heap.size→w'.heap[k]?=W2.heap[k]?:=fun k hk=>hG.block k hk (by simp)
       have hGb:=hG.below'
       have hS3:SW p a cap bs (W.heap.size +1) (W.heap.size +1 +1) N (w.heap.size +1 +1) (-2000000000 - i * 40200000000) Wc t w' :=
        hS2.keep (B:=W2.heap.size) (Array.getElem?_eq_some_iff.1 hS2.sb).1 (Array.getElem?_eq_some_iff.1 hS2.pb).1 (Array.getElem?_eq_some_iff.1 hS2.row).1 (Array.getElem?_eq_some_iff.1 hS2.lst).1 (fun x hx=>(hS2.bds.at_ x hx).2.1) hG.os hG.tape hG.output hG.size (fun k hk _=>hgh k hk)
       have hMk3:Marks w.heap.size ({ target:=.collected Dm,args:=#[] }::D) w':=⟨fun d hd=>by
        obtain ⟨r,h1,h2,h3⟩:=hMk.1 d hd
        exact ⟨r,h1,h2,(hgh r (Array.getElem?_eq_some_iff.1 h3).1).trans h3⟩,hMk.2⟩
       have hC3:SL.Chg [N] w w':=hCw.trans (.of_below hGb)
       have y1:=(hgh _ (Array.getElem?_eq_some_iff.1 z1).1).trans z1
       have y2:=(hgh _ (Array.getElem?_eq_some_iff.1 z2).1).trans z2
       have hlst:=hS3.lst
       have hlen:=hS3.ok.ll
       clear hgh hG
       by_cases hq:t.r=s.r
       ·rw [if_pos hq] at hrun
        simp only [hq,decide_true] at hu
        simp only [hu]
        go_wp2_with (first
         | (refine wpList_ldarr rfl _ rfl rfl hlst hlen ?_)
         | (refine wpList_starr_same rfl _ _ rfl rfl rfl rfl hlst hlen ?_))
        obtain rfl:(t,true)=res:=by rw [← hset,hrun]
        exact settled_leaves rfl rfl hNl hlen hMk3 hC3 hS3.row hlst
       ·rw [if_neg hq] at hrun
        simp only [hq,decide_false] at hu
        simp only [hu]
        go_wp2_with fail
        refine ⟨rfl,⟨i +1,t,by simp,by omega,⟨hC3.os,hC3.tape,hC3.output,y1,y2,hS3.row,hlst,hS3.bds,?_⟩,hC3,hMk3,?_⟩,?_⟩
        ·have h:=hS3.ok.reset hnx
         refine ⟨h.rl,h.ll,fun j q1 q2=>?_⟩
         have:=h.lows j q1 q2
         simp at this ⊢
         omega
        ·rw [← hset,hrun,Nat.sub_add_eq]
        ·simp [h19,RowKit.intOf]
         omega
    ·have hid:decide ((i:Int)<p +1)=false:=by simp;omega
     have hlst:=hS.lst
     have hlen:=hS.ok.ll
     have hi0:PP - i=0:=by omega
     rw [hi0] at hset
     go_wp2_with (first
      | (refine wpList_ldarr rfl _ rfl rfl hlst hlen ?_)
      | (refine wpList_starr_same rfl _ _ rfl rfl rfl rfl hlst hlen ?_))
     obtain rfl:(s,false)=res:=by rw [← hset];rfl
     exact settled_leaves rfl rfl hNl hlen hM hC hS.row hlst
end Go.Proofs.YtelkcohhagblaaaGreat
