/- What the functions answer, for every input. -/
import Derived.Test.YtelkcohhagblaaaGreatSe17
set_option linter.unusedSimpArgs false
set_option linter.unusedVariables false
set_option linter.unnecessarySimpa false
namespace Go.Proofs.YtelkcohhagblaaaGreat
open Go.RowKit Go.Shelf
set_option maxHeartbeats 8000000
set_option maxRecDepth 100000
theorem sformed11_t (x:Itm) (co le mo:Int) (B0 B1 B2:Nat) (w:World) (h0:w.cell? ⟨B0,0,none⟩=some (.int .i64 co)) (h1:w.cell? ⟨B1,0,none⟩=some (.int .i64 le)) (h2:w.cell? ⟨B2,0,none⟩=some (.int .i64 mo)) (g0:rngB x.sh 1 1000000=true) (g1:decide ((0:Int)≤x.fr)=true) (g2:decide (x.fr<x.tw)=true) (g3:decide (x.tw≤co)=true):Calls Tryz.prog 141 #[x.v,.pointer (some ⟨B0,0,none⟩),.pointer (some ⟨B1,0,none⟩),.pointer (some ⟨B2,0,none⟩)] w fun e w'=>e=.returned (.tuple #[Itm.v ⟨0,0,0,⟨#[]⟩,0,0,0,false,x.sh,x.fr,x.tw,x.lo,x.hi,⟨#[]⟩,0,0⟩,.bool ((rngB x.lo le x.hi && decide (x.hi≤mo)))])∧Below w.heap.size w w':=by
 have hI:=fun w1=>sin_any x.sh 1 1000000 w1
 rw [g0] at hI
 clear g0
 have hSp:=fun w1=>sspans_any x le mo w1
 generalize (rngB x.lo le x.hi && decide (x.hi≤mo))=S9 at *
 have zc0:=World.block_lt_of_cell? w _ h0
 have zc1:=World.block_lt_of_cell? w _ h1
 have zc2:=World.block_lt_of_cell? w _ h2
 simp only at zc0 zc1 zc2
 simp only [Itm.v,Itm.cs] at hSp ⊢
 go_enter Tryz.func141,Tryz.ntmps141
 go_wp2_with fail
 have hb1:=World.alloc_heap_new (w.alloc (Obj.cells #[.int .i64 x.id,.int .i64 x.kn,.int .u8 x.kd,.string x.wa,.int .i64 x.pit,.int .i64 x.ly,.int .i64 x.co,.bool x.ft,.int .i64 x.sh,.int .i64 x.fr,.int .i64 x.tw,.int .i64 x.lo,.int .i64 x.hi,.string x.st,.int .i64 x.li,.int .i64 x.vo] 24)) (Obj.cells #[.int .i64 0,.int .i64 0,.int .u8 0,.string ⟨#[]⟩,.int .i64 0,.int .i64 0,.int .i64 0,.bool false,.int .i64 0,.int .i64 0,.int .i64 0,.int .i64 0,.int .i64 0,.string ⟨#[]⟩,.int .i64 0,.int .i64 0] 24)
 rw [World.size_alloc] at hb1
 have hb0:(((w.alloc (Obj.cells #[.int .i64 x.id,.int .i64 x.kn,.int .u8 x.kd,.string x.wa,.int .i64 x.pit,.int .i64 x.ly,.int .i64 x.co,.bool x.ft,.int .i64 x.sh,.int .i64 x.fr,.int .i64 x.tw,.int .i64 x.lo,.int .i64 x.hi,.string x.st,.int .i64 x.li,.int .i64 x.vo] 24)).alloc (Obj.cells #[.int .i64 0,.int .i64 0,.int .u8 0,.string ⟨#[]⟩,.int .i64 0,.int .i64 0,.int .i64 0,.bool false,.int .i64 0,.int .i64 0,.int .i64 0,.int .i64 0,.int .i64 0,.string ⟨#[]⟩,.int .i64 0,.int .i64 0] 24)).alloc (Obj.cells #[.int .i64 0,.int .i64 0,.int .u8 0,.string ⟨#[]⟩,.int .i64 0,.int .i64 0,.int .i64 0,.bool false,.int .i64 x.sh,.int .i64 x.fr,.int .i64 x.tw,.int .i64 x.lo,.int .i64 x.hi,.string ⟨#[]⟩,.int .i64 0,.int .i64 0] 24)).heap[w.heap.size]?=some (.cells #[.int .i64 x.id,.int .i64 x.kn,.int .u8 x.kd,.string x.wa,.int .i64 x.pit,.int .i64 x.ly,.int .i64 x.co,.bool x.ft,.int .i64 x.sh,.int .i64 x.fr,.int .i64 x.tw,.int .i64 x.lo,.int .i64 x.hi,.string x.st,.int .i64 x.li,.int .i64 x.vo] 24 (0,0)):=alKeep (alKeep (World.alloc_heap_new w _))
 have hb1:(((w.alloc (Obj.cells #[.int .i64 x.id,.int .i64 x.kn,.int .u8 x.kd,.string x.wa,.int .i64 x.pit,.int .i64 x.ly,.int .i64 x.co,.bool x.ft,.int .i64 x.sh,.int .i64 x.fr,.int .i64 x.tw,.int .i64 x.lo,.int .i64 x.hi,.string x.st,.int .i64 x.li,.int .i64 x.vo] 24)).alloc (Obj.cells #[.int .i64 0,.int .i64 0,.int .u8 0,.string ⟨#[]⟩,.int .i64 0,.int .i64 0,.int .i64 0,.bool false,.int .i64 0,.int .i64 0,.int .i64 0,.int .i64 0,.int .i64 0,.string ⟨#[]⟩,.int .i64 0,.int .i64 0] 24)).alloc (Obj.cells #[.int .i64 0,.int .i64 0,.int .u8 0,.string ⟨#[]⟩,.int .i64 0,.int .i64 0,.int .i64 0,.bool false,.int .i64 x.sh,.int .i64 x.fr,.int .i64 x.tw,.int .i64 x.lo,.int .i64 x.hi,.string ⟨#[]⟩,.int .i64 0,.int .i64 0] 24)).heap[w.heap.size +1]?=some (.cells #[.int .i64 0,.int .i64 0,.int .u8 0,.string ⟨#[]⟩,.int .i64 0,.int .i64 0,.int .i64 0,.bool false,.int .i64 0,.int .i64 0,.int .i64 0,.int .i64 0,.int .i64 0,.string ⟨#[]⟩,.int .i64 0,.int .i64 0] 24 (0,0)):=alKeep hb1
 have hb2:=World.alloc_heap_new ((w.alloc (Obj.cells #[.int .i64 x.id,.int .i64 x.kn,.int .u8 x.kd,.string x.wa,.int .i64 x.pit,.int .i64 x.ly,.int .i64 x.co,.bool x.ft,.int .i64 x.sh,.int .i64 x.fr,.int .i64 x.tw,.int .i64 x.lo,.int .i64 x.hi,.string x.st,.int .i64 x.li,.int .i64 x.vo] 24)).alloc (Obj.cells #[.int .i64 0,.int .i64 0,.int .u8 0,.string ⟨#[]⟩,.int .i64 0,.int .i64 0,.int .i64 0,.bool false,.int .i64 0,.int .i64 0,.int .i64 0,.int .i64 0,.int .i64 0,.string ⟨#[]⟩,.int .i64 0,.int .i64 0] 24)) (Obj.cells #[.int .i64 0,.int .i64 0,.int .u8 0,.string ⟨#[]⟩,.int .i64 0,.int .i64 0,.int .i64 0,.bool false,.int .i64 x.sh,.int .i64 x.fr,.int .i64 x.tw,.int .i64 x.lo,.int .i64 x.hi,.string ⟨#[]⟩,.int .i64 0,.int .i64 0] 24)
 rw [World.size_alloc,World.size_alloc] at hb2
 have hbw:=((one_alloc w (Obj.cells #[.int .i64 x.id,.int .i64 x.kn,.int .u8 x.kd,.string x.wa,.int .i64 x.pit,.int .i64 x.ly,.int .i64 x.co,.bool x.ft,.int .i64 x.sh,.int .i64 x.fr,.int .i64 x.tw,.int .i64 x.lo,.int .i64 x.hi,.string x.st,.int .i64 x.li,.int .i64 x.vo] 24)).ch2 (one_alloc _ (Obj.cells #[.int .i64 0,.int .i64 0,.int .u8 0,.string ⟨#[]⟩,.int .i64 0,.int .i64 0,.int .i64 0,.bool false,.int .i64 0,.int .i64 0,.int .i64 0,.int .i64 0,.int .i64 0,.string ⟨#[]⟩,.int .i64 0,.int .i64 0] 24))).ch2 (one_alloc _ (Obj.cells #[.int .i64 0,.int .i64 0,.int .u8 0,.string ⟨#[]⟩,.int .i64 0,.int .i64 0,.int .i64 0,.bool false,.int .i64 x.sh,.int .i64 x.fr,.int .i64 x.tw,.int .i64 x.lo,.int .i64 x.hi,.string ⟨#[]⟩,.int .i64 0,.int .i64 0] 24))
 have k0:=(bcell hbw).1 _ 0 zc0 |>.trans h0
 have k1:=(bcell hbw).1 _ 0 zc1 |>.trans h1
 have k2:=(bcell hbw).1 _ 0 zc2 |>.trans h2
 generalize (((w.alloc (Obj.cells #[.int .i64 x.id,.int .i64 x.kn,.int .u8 x.kd,.string x.wa,.int .i64 x.pit,.int .i64 x.ly,.int .i64 x.co,.bool x.ft,.int .i64 x.sh,.int .i64 x.fr,.int .i64 x.tw,.int .i64 x.lo,.int .i64 x.hi,.string x.st,.int .i64 x.li,.int .i64 x.vo] 24)).alloc (Obj.cells #[.int .i64 0,.int .i64 0,.int .u8 0,.string ⟨#[]⟩,.int .i64 0,.int .i64 0,.int .i64 0,.bool false,.int .i64 0,.int .i64 0,.int .i64 0,.int .i64 0,.int .i64 0,.string ⟨#[]⟩,.int .i64 0,.int .i64 0] 24)).alloc (Obj.cells #[.int .i64 0,.int .i64 0,.int .u8 0,.string ⟨#[]⟩,.int .i64 0,.int .i64 0,.int .i64 0,.bool false,.int .i64 x.sh,.int .i64 x.fr,.int .i64 x.tw,.int .i64 x.lo,.int .i64 x.hi,.string ⟨#[]⟩,.int .i64 0,.int .i64 0] 24))=W1 at *
 have z0:=(Array.getElem?_eq_some_iff.1 hb0).1
 have z1:=(Array.getElem?_eq_some_iff.1 hb1).1
 have z2:=(Array.getElem?_eq_some_iff.1 hb2).1
 have d8:=(ItmCells.of_heap hb0).1.c8
 have d9:=(ItmCells.of_heap hb0).1.c9
 have d10:=(ItmCells.of_heap hb0).1.c10
 have hn0:w.heap.size ∉ [w.heap.size +1]:=by simp
 have hn2:w.heap.size +1 +1 ∉ [w.heap.size +1]:=by simp
 have hm0:B0 ∉ [w.heap.size +1]:=by simp;omega
 have zz0:B0<W1.heap.size:=by have:=hbw.size;omega
 have hm1:B1 ∉ [w.heap.size +1]:=by simp;omega
 have zz1:B1<W1.heap.size:=by have:=hbw.size;omega
 have hm2:B2 ∉ [w.heap.size +1]:=by simp;omega
 have zz2:B2<W1.heap.size:=by have:=hbw.size;omega
 have HB0:=Lib.hid hb0
 have HB2:=Lib.hid hb2
 have HBW:=Lib.hid hbw
 clear hb0 hb2
 apply SLG.rule0 ?hm [w.heap.size +1] [19,20,21,22,23,24,25,26,27,28,29,30,31,32,33,34,35,36,37,38,39,40,41,42,43,44,45,46,6] [SL.pu 19 [] (.agg #[.int .i64 0,.int .i64 0,.int .u8 0,.string ⟨#[]⟩,.int .i64 0,.int .i64 0,.int .i64 0,.bool false,.int .i64 x.sh,.int .i64 x.fr,.int .i64 x.tw,.int .i64 x.lo,.int .i64 x.hi,.string ⟨#[]⟩,.int .i64 0,.int .i64 0]),SLF.pq 20 [] _,SLF.pq 21 [1] _,SL.pu 22 [2] (.bool true),SLF.pq 23 [3] _,SLF.pq 24 [4] _,SLF.pq 25 [4,5] _,SLF.pq 26 [4,6] _,SLF.pq 27 [4,7] _,SLF.pq 28 [8] _,SLF.pq 29 [9] _,SLF.pq 30 [9,10] _,SLF.pq 31 [9] _,SLF.pq 32 [9,12] _,SLF.pq 33 [9,11,13] _,SLF.pq 34 [9,14] _,SLF.pq 35 [15] _,SLF.pq 36 [16] _,SLF.pq 37 [16,17] _,SLF.pq 38 [16] _,SLF.pq 39 [16,18,19] _,SLF.pq 40 [16,20] _,SLF.pq 41 [21] _,SL.pu 42 [22] (.agg #[.int .i64 x.id,.int .i64 x.kn,.int .u8 x.kd,.string x.wa,.int .i64 x.pit,.int .i64 x.ly,.int .i64 x.co,.bool x.ft,.int .i64 x.sh,.int .i64 x.fr,.int .i64 x.tw,.int .i64 x.lo,.int .i64 x.hi,.string x.st,.int .i64 x.li,.int .i64 x.vo]),SLF.pq 43 [22] _,SLF.pq 44 [22] _,SL.pu 45 [22,23,24,25] (.bool S9),SLF.pq 46 [22,26] _,SL.boxAt 5 [0,30] [30] (w.heap.size +1) 24 #[.int .i64 0,.int .i64 0,.int .u8 0,.string ⟨#[]⟩,.int .i64 0,.int .i64 0,.int .i64 0,.bool false,.int .i64 x.sh,.int .i64 x.fr,.int .i64 x.tw,.int .i64 x.lo,.int .i64 x.hi,.string ⟨#[]⟩,.int .i64 0,.int .i64 0],SL.pu 6 [27] (.bool S9),SL.boxAt 5 [] [] (w.heap.size +1) 24 #[.int .i64 0,.int .i64 0,.int .u8 0,.string ⟨#[]⟩,.int .i64 0,.int .i64 0,.int .i64 0,.bool false,.int .i64 0,.int .i64 0,.int .i64 0,.int .i64 0,.int .i64 0,.string ⟨#[]⟩,.int .i64 0,.int .i64 0]] [28,29] ?hck ?hkp (fun i=>if i=30 then [w.heap.size +1] else []) ?hin ?hdj ?hfr ?ob ?en1
 case hm=>kernel_rfl
 case hin=>exact SL.one_held rfl rfl ⟨rfl,hb1,rfl⟩ z1
 case hdj=>exact SL.one_apart
 case hfr=>intro us;simp only [SL.frame,SL.put'];simp;exact rfl
 case ob =>
  refine ⟨?_,?_,?_,?_,?_,?_,?_,?_,?_,?_,?_,?_,?_,?_,?_,?_,?_,?_,?_,?_,?_,?_,?_,?_,?_,?_,?_,?_,?_,?_,trivial⟩
  all_goals first
   | (exact Z7i)
   | skip
  ·exact Z7h
  ·exact Z7w
  ·refine SLG.ob_sp rfl rfl rfl fun us w' Fe hG hu hd Kx hK=>?_
   try dsimp only
   simp [SL.O] at hu
   have hB5:Below w.heap.size w w':=HBW.out.trans (hG.belowF HBW.out.size (by simp))
   obtain ⟨hc5,hf5⟩:=bcell hB5
   have hs5:=hB5.size
   obtain ⟨hc6,hf6⟩:=hG.cellsF;have p8:=(hc6 w.heap.size (0 +8) z0 hn0).trans d8;have p9:=(hc6 w.heap.size (0 +9) z0 hn0).trans d9;have p10:=(hc6 w.heap.size (0 +10) z0 hn0).trans d10;have q0:=(hc6 B0 0 zz0 hm0).trans k0;have q1:=(hc6 B1 0 zz1 hm1).trans k1;have q2:=(hc6 B2 0 zz2 hm2).trans k2
   exact Z6d
  ·refine SLG.ob_sp rfl rfl rfl fun us w' Fe hG hu hd Kx hK=>?_
   try dsimp only
   simp [SL.O] at hu
   have hB5:Below w.heap.size w w':=HBW.out.trans (hG.belowF HBW.out.size (by simp))
   obtain ⟨hc5,hf5⟩:=bcell hB5
   have hs5:=hB5.size
   obtain ⟨hc6,hf6⟩:=hG.cellsF;have p8:=(hc6 w.heap.size (0 +8) z0 hn0).trans d8;have p9:=(hc6 w.heap.size (0 +9) z0 hn0).trans d9;have p10:=(hc6 w.heap.size (0 +10) z0 hn0).trans d10;have q0:=(hc6 B0 0 zz0 hm0).trans k0;have q1:=(hc6 B1 0 zz1 hm1).trans k1;have q2:=(hc6 B2 0 zz2 hm2).trans k2
   exact Z6i
  ·refine SLG.ob_no rfl rfl rfl fun us w' Fe hG hu hd Kx hK=>?_
   try dsimp only
   simp [SL.O] at hu
   have hB5:Below w.heap.size w w':=HBW.out.trans (hG.belowF HBW.out.size (by simp))
   obtain ⟨hc5,hf5⟩:=bcell hB5
   have hs5:=hB5.size
   obtain ⟨hc6,hf6⟩:=hG.cellsF;have p8:=(hc6 w.heap.size (0 +8) z0 hn0).trans d8;have p9:=(hc6 w.heap.size (0 +9) z0 hn0).trans d9;have p10:=(hc6 w.heap.size (0 +10) z0 hn0).trans d10;have q0:=(hc6 B0 0 zz0 hm0).trans k0;have q1:=(hc6 B1 0 zz1 hm1).trans k1;have q2:=(hc6 B2 0 zz2 hm2).trans k2
   refine SLF.wpo_do (SLF.wanted_free rfl) ?hd ?_
   case hd=>intro c h;cases h
   obtain ⟨⟨e6,_⟩,e2,hbl,e8⟩:=hu
   obtain ⟨⟨y0,y1,y2,y3,y4,y5,y6,y7,y8,y9,y10,y11,y12,y13,y14,y15⟩,yf,yl⟩:=ItmCells.of_heap (x:=Itm.zero) hbl
   simp only [Itm.zero] at y0 y1 y2 y3 y4 y5 y6 y7 y8 y9 y10 y11 y12 y13 y14 y15
   have HB:=Lib.hid hbl
   clear hc6 hf6 hc5 hf5 hbl p8 p9 p10
   go_step
   obtain ⟨qA,qC⟩:=sixteen (v0:=.int .i64 0) (v1:=.int .i64 0) (v2:=.int .u8 0) (v3:=.string ⟨#[]⟩) (v4:=.int .i64 0) (v5:=.int .i64 0) (v6:=.int .i64 0) (v7:=.bool false) (v8:=.int .i64 x.sh) (v9:=.int .i64 x.fr) (v10:=.int .i64 x.tw) (v11:=.int .i64 x.lo) (v12:=.int .i64 x.hi) (v13:=.string ⟨#[]⟩) (v14:=.int .i64 0) (v15:=.int .i64 0) HB.out
   exact Ze
  ·exact Z7j
 case hck=>kernel_rfl
 case hkp=>kernel_rfl
 intro us w7 Fs hG hu hbd hd
 simp [SL.Used,SL.pu,SL.boxAt] at hu
 obtain ⟨⟨e2,hbl,_⟩,e3,_⟩:=hu
 have hB7:Below w.heap.size w w7:=HBW.out.trans (hG.belowF HBW.out.size (by simp))
 obtain ⟨⟨y0,y1,y2,y3,y4,y5,y6,y7,y8,y9,y10,y11,y12,y13,y14,y15⟩,_,_⟩:=ItmCells.of_heap (x:=⟨0,0,0,⟨#[]⟩,0,0,0,false,x.sh,x.fr,x.tw,x.lo,x.hi,⟨#[]⟩,0,0⟩) hbl
 simp only at y0 y1 y2 y3 y4 y5 y6 y7 y8 y9 y10 y11 y12 y13 y14 y15
 rw [e3]
 clear hbl hG hbd hd hb1 z0 z1 d8 d9 d10 hn0 hI hSp e2 e3
 have HB:=Lib.hid hB7
 clear hB7
 as_aux_lemma =>
 go_wp2_with fail
 refine bodyPost_ret (v:=.tuple #[.agg #[.int .i64 0,.int .i64 0,.int .u8 0,.string ⟨#[]⟩,.int .i64 0,.int .i64 0,.int .i64 0,.bool false,.int .i64 x.sh,.int .i64 x.fr,.int .i64 x.tw,.int .i64 x.lo,.int .i64 x.hi,.string ⟨#[]⟩,.int .i64 0,.int .i64 0],.bool S9]) Z7b rfl ⟨rfl,HB.out⟩
theorem sformed11_any (x:Itm) (co le mo:Int) (B0 B1 B2:Nat) (w:World) (h0:w.cell? ⟨B0,0,none⟩=some (.int .i64 co)) (h1:w.cell? ⟨B1,0,none⟩=some (.int .i64 le)) (h2:w.cell? ⟨B2,0,none⟩=some (.int .i64 mo)):Calls Tryz.prog 141 #[x.v,.pointer (some ⟨B0,0,none⟩),.pointer (some ⟨B1,0,none⟩),.pointer (some ⟨B2,0,none⟩)] w fun e w'=>e=.returned (.tuple #[Itm.v ⟨0,0,0,⟨#[]⟩,0,0,0,false,x.sh,x.fr,x.tw,x.lo,x.hi,⟨#[]⟩,0,0⟩,.bool (rngB x.sh 1 1000000 && decide (0≤x.fr) && decide (x.fr<x.tw) && decide (x.tw≤co) && (rngB x.lo le x.hi && decide (x.hi≤mo)))])∧Below w.heap.size w w':=by
 cases g0:rngB x.sh 1 1000000
 ·refine (sformed11_0 x co le mo B0 B1 B2 w h0 h1 h2 g0).mono ?_
  exact Z1j
 cases g1:decide ((0:Int)≤x.fr)
 ·refine (sformed11_1 x co le mo B0 B1 B2 w h0 h1 h2 g0 g1).mono ?_
  exact Z1j
 cases g2:decide (x.fr<x.tw)
 ·refine (sformed11_2 x co le mo B0 B1 B2 w h0 h1 h2 g0 g1 g2).mono ?_
  exact Z1j
 cases g3:decide (x.tw≤co)
 ·refine (sformed11_3 x co le mo B0 B1 B2 w h0 h1 h2 g0 g1 g2 g3).mono ?_
  exact Z1j
 refine (sformed11_t x co le mo B0 B1 B2 w h0 h1 h2 g0 g1 g2 g3).mono ?_
 exact Z1j
end Go.Proofs.YtelkcohhagblaaaGreat
