/- What the functions answer, for every input. -/
import Derived.Test.YtelkcohhagblaaaGreatSe16
set_option linter.unusedSimpArgs false
set_option linter.unusedVariables false
set_option linter.unnecessarySimpa false
namespace Go.Proofs.YtelkcohhagblaaaGreat
open Go.RowKit Go.Shelf
set_option maxHeartbeats 8000000
set_option maxRecDepth 100000
theorem sformed3_f (x:Itm) (w:World) (g0:rngB x.sh 1 1000000=false):Calls Tryz.prog 145 #[x.v] w fun e w'=>e=.returned (.tuple #[Itm.v ⟨0,0,0,⟨#[]⟩,0,0,0,false,x.sh,0,0,x.lo,x.hi,⟨#[]⟩,0,0⟩,.bool (rngB x.sh 1 1000000 && (rngB x.lo 0 x.hi && decide (x.hi≤1000)))])∧Below w.heap.size w w':=by
 have hI:=fun w1=>sin_any x.sh 1 1000000 w1
 have hSp:=fun w1=>sspans_any x 0 1000 w1
 rw [g0] at hI ⊢
 clear g0
 generalize (rngB x.lo 0 x.hi && decide (x.hi≤1000))=S at *
 simp only [Itm.v,Itm.cs] at hSp ⊢
 go_enter Tryz.func145,Tryz.ntmps145
 go_wp2_with fail
 have hb1:=World.alloc_heap_new (w.alloc (Obj.cells #[.int .i64 x.id,.int .i64 x.kn,.int .u8 x.kd,.string x.wa,.int .i64 x.pit,.int .i64 x.ly,.int .i64 x.co,.bool x.ft,.int .i64 x.sh,.int .i64 x.fr,.int .i64 x.tw,.int .i64 x.lo,.int .i64 x.hi,.string x.st,.int .i64 x.li,.int .i64 x.vo] 24)) (Obj.cells #[.int .i64 0,.int .i64 0,.int .u8 0,.string ⟨#[]⟩,.int .i64 0,.int .i64 0,.int .i64 0,.bool false,.int .i64 0,.int .i64 0,.int .i64 0,.int .i64 0,.int .i64 0,.string ⟨#[]⟩,.int .i64 0,.int .i64 0] 24)
 rw [World.size_alloc] at hb1
 have hb0:((w.alloc (Obj.cells #[.int .i64 x.id,.int .i64 x.kn,.int .u8 x.kd,.string x.wa,.int .i64 x.pit,.int .i64 x.ly,.int .i64 x.co,.bool x.ft,.int .i64 x.sh,.int .i64 x.fr,.int .i64 x.tw,.int .i64 x.lo,.int .i64 x.hi,.string x.st,.int .i64 x.li,.int .i64 x.vo] 24)).alloc (Obj.cells #[.int .i64 0,.int .i64 0,.int .u8 0,.string ⟨#[]⟩,.int .i64 0,.int .i64 0,.int .i64 0,.bool false,.int .i64 0,.int .i64 0,.int .i64 0,.int .i64 0,.int .i64 0,.string ⟨#[]⟩,.int .i64 0,.int .i64 0] 24)).heap[w.heap.size]?=some (.cells #[.int .i64 x.id,.int .i64 x.kn,.int .u8 x.kd,.string x.wa,.int .i64 x.pit,.int .i64 x.ly,.int .i64 x.co,.bool x.ft,.int .i64 x.sh,.int .i64 x.fr,.int .i64 x.tw,.int .i64 x.lo,.int .i64 x.hi,.string x.st,.int .i64 x.li,.int .i64 x.vo] 24 (0,0)):=alKeep (World.alloc_heap_new w _)
 have hbw:=(one_alloc w (Obj.cells #[.int .i64 x.id,.int .i64 x.kn,.int .u8 x.kd,.string x.wa,.int .i64 x.pit,.int .i64 x.ly,.int .i64 x.co,.bool x.ft,.int .i64 x.sh,.int .i64 x.fr,.int .i64 x.tw,.int .i64 x.lo,.int .i64 x.hi,.string x.st,.int .i64 x.li,.int .i64 x.vo] 24)).ch2 (one_alloc _ (Obj.cells #[.int .i64 0,.int .i64 0,.int .u8 0,.string ⟨#[]⟩,.int .i64 0,.int .i64 0,.int .i64 0,.bool false,.int .i64 0,.int .i64 0,.int .i64 0,.int .i64 0,.int .i64 0,.string ⟨#[]⟩,.int .i64 0,.int .i64 0] 24))
 generalize ((w.alloc (Obj.cells #[.int .i64 x.id,.int .i64 x.kn,.int .u8 x.kd,.string x.wa,.int .i64 x.pit,.int .i64 x.ly,.int .i64 x.co,.bool x.ft,.int .i64 x.sh,.int .i64 x.fr,.int .i64 x.tw,.int .i64 x.lo,.int .i64 x.hi,.string x.st,.int .i64 x.li,.int .i64 x.vo] 24)).alloc (Obj.cells #[.int .i64 0,.int .i64 0,.int .u8 0,.string ⟨#[]⟩,.int .i64 0,.int .i64 0,.int .i64 0,.bool false,.int .i64 0,.int .i64 0,.int .i64 0,.int .i64 0,.int .i64 0,.string ⟨#[]⟩,.int .i64 0,.int .i64 0] 24))=W1 at *
 have z0:=(Array.getElem?_eq_some_iff.1 hb0).1
 have z1:=(Array.getElem?_eq_some_iff.1 hb1).1
 have d8:=(ItmCells.of_heap hb0).1.c8
 have d11:=(ItmCells.of_heap hb0).1.c11
 have d12:=(ItmCells.of_heap hb0).1.c12
 have hn0:w.heap.size ∉ [w.heap.size +1]:=by simp
 have HB0:=Lib.hid hb0
 have HBW:=Lib.hid hbw
 clear hb0
 apply SLG.rule0 ?hm [w.heap.size +1] [4,5,6,7,8,9,10,11,12,13,14,15,16,17,3] [SLF.pq 4 [] _,SLF.pq 5 [0] _,SLF.pq 6 [] _,SLF.pq 7 [2] _,SLF.pq 8 [] _,SLF.pq 9 [4] _,SLF.pq 10 [1,3,5] _,SLF.pq 11 [] _,SLF.pq 12 [7] _,SL.pu 13 [8] (.bool false),SLF.pq 14 [9] _,SLF.pq 15 [10] _,SLF.pq 16 [10,11] _,SLF.pq 17 [10,12] _,SL.boxAt 2 [6,16] [16] (w.heap.size +1) 24 #[.int .i64 0,.int .i64 0,.int .u8 0,.string ⟨#[]⟩,.int .i64 0,.int .i64 0,.int .i64 0,.bool false,.int .i64 x.sh,.int .i64 0,.int .i64 0,.int .i64 x.lo,.int .i64 x.hi,.string ⟨#[]⟩,.int .i64 0,.int .i64 0],SL.pu 3 [13] (.bool false),SL.boxAt 2 [] [] (w.heap.size +1) 24 #[.int .i64 0,.int .i64 0,.int .u8 0,.string ⟨#[]⟩,.int .i64 0,.int .i64 0,.int .i64 0,.bool false,.int .i64 0,.int .i64 0,.int .i64 0,.int .i64 0,.int .i64 0,.string ⟨#[]⟩,.int .i64 0,.int .i64 0]] [14,15] ?hck ?hkp (fun i=>if i=16 then [w.heap.size +1] else []) ?hin ?hdj ?hfr ?ob ?en1
 case hm=>kernel_rfl
 case hin=>exact SL.one_held rfl rfl ⟨rfl,hb1,rfl⟩ z1
 case hdj=>exact SL.one_apart
 case hfr=>intro us;simp only [SL.frame,SL.put'];simp;exact rfl
 case ob =>
  refine ⟨?_,?_,?_,?_,?_,?_,?_,?_,?_,?_,?_,?_,?_,?_,?_,?_,trivial⟩
  all_goals first
   | (exact Z6e)
   | skip
  ·exact Z7n
  ·exact Z60
  ·exact Z6g
 case hck=>kernel_rfl
 case hkp=>kernel_rfl
 intro us w7 Fs hG hu hbd hd
 simp [SL.Used,SL.pu,SL.boxAt] at hu
 obtain ⟨⟨e2,hbl,_⟩,e3,_⟩:=hu
 have hB7:Below w.heap.size w w7:=HBW.out.trans (hG.belowF HBW.out.size (by simp))
 obtain ⟨⟨y0,y1,y2,y3,y4,y5,y6,y7,y8,y9,y10,y11,y12,y13,y14,y15⟩,_,_⟩:=ItmCells.of_heap (x:=⟨0,0,0,⟨#[]⟩,0,0,0,false,x.sh,0,0,x.lo,x.hi,⟨#[]⟩,0,0⟩) hbl
 simp only at y0 y1 y2 y3 y4 y5 y6 y7 y8 y9 y10 y11 y12 y13 y14 y15
 rw [e3]
 clear hbl hG hbd hd hb1 z0 z1 d8 d11 d12 hn0 hI hSp e2 e3
 have HB:=Lib.hid hB7
 clear hB7
 go_wp2_with fail
 refine bodyPost_ret (v:=.tuple #[.agg #[.int .i64 0,.int .i64 0,.int .u8 0,.string ⟨#[]⟩,.int .i64 0,.int .i64 0,.int .i64 0,.bool false,.int .i64 x.sh,.int .i64 0,.int .i64 0,.int .i64 x.lo,.int .i64 x.hi,.string ⟨#[]⟩,.int .i64 0,.int .i64 0],.bool false]) Z4y rfl ⟨by simp [*],HB.out⟩
theorem sformed3_t (x:Itm) (w:World) (g0:rngB x.sh 1 1000000=true):Calls Tryz.prog 145 #[x.v] w fun e w'=>e=.returned (.tuple #[Itm.v ⟨0,0,0,⟨#[]⟩,0,0,0,false,x.sh,0,0,x.lo,x.hi,⟨#[]⟩,0,0⟩,.bool (rngB x.sh 1 1000000 && (rngB x.lo 0 x.hi && decide (x.hi≤1000)))])∧Below w.heap.size w w':=by
 have hI:=fun w1=>sin_any x.sh 1 1000000 w1
 have hSp:=fun w1=>sspans_any x 0 1000 w1
 rw [g0] at hI ⊢
 clear g0
 generalize (rngB x.lo 0 x.hi && decide (x.hi≤1000))=S at *
 simp only [Itm.v,Itm.cs] at hSp ⊢
 go_enter Tryz.func145,Tryz.ntmps145
 go_wp2_with fail
 have hb1:=World.alloc_heap_new (w.alloc (Obj.cells #[.int .i64 x.id,.int .i64 x.kn,.int .u8 x.kd,.string x.wa,.int .i64 x.pit,.int .i64 x.ly,.int .i64 x.co,.bool x.ft,.int .i64 x.sh,.int .i64 x.fr,.int .i64 x.tw,.int .i64 x.lo,.int .i64 x.hi,.string x.st,.int .i64 x.li,.int .i64 x.vo] 24)) (Obj.cells #[.int .i64 0,.int .i64 0,.int .u8 0,.string ⟨#[]⟩,.int .i64 0,.int .i64 0,.int .i64 0,.bool false,.int .i64 0,.int .i64 0,.int .i64 0,.int .i64 0,.int .i64 0,.string ⟨#[]⟩,.int .i64 0,.int .i64 0] 24)
 rw [World.size_alloc] at hb1
 have hb0:((w.alloc (Obj.cells #[.int .i64 x.id,.int .i64 x.kn,.int .u8 x.kd,.string x.wa,.int .i64 x.pit,.int .i64 x.ly,.int .i64 x.co,.bool x.ft,.int .i64 x.sh,.int .i64 x.fr,.int .i64 x.tw,.int .i64 x.lo,.int .i64 x.hi,.string x.st,.int .i64 x.li,.int .i64 x.vo] 24)).alloc (Obj.cells #[.int .i64 0,.int .i64 0,.int .u8 0,.string ⟨#[]⟩,.int .i64 0,.int .i64 0,.int .i64 0,.bool false,.int .i64 0,.int .i64 0,.int .i64 0,.int .i64 0,.int .i64 0,.string ⟨#[]⟩,.int .i64 0,.int .i64 0] 24)).heap[w.heap.size]?=some (.cells #[.int .i64 x.id,.int .i64 x.kn,.int .u8 x.kd,.string x.wa,.int .i64 x.pit,.int .i64 x.ly,.int .i64 x.co,.bool x.ft,.int .i64 x.sh,.int .i64 x.fr,.int .i64 x.tw,.int .i64 x.lo,.int .i64 x.hi,.string x.st,.int .i64 x.li,.int .i64 x.vo] 24 (0,0)):=alKeep (World.alloc_heap_new w _)
 have hbw:=(one_alloc w (Obj.cells #[.int .i64 x.id,.int .i64 x.kn,.int .u8 x.kd,.string x.wa,.int .i64 x.pit,.int .i64 x.ly,.int .i64 x.co,.bool x.ft,.int .i64 x.sh,.int .i64 x.fr,.int .i64 x.tw,.int .i64 x.lo,.int .i64 x.hi,.string x.st,.int .i64 x.li,.int .i64 x.vo] 24)).ch2 (one_alloc _ (Obj.cells #[.int .i64 0,.int .i64 0,.int .u8 0,.string ⟨#[]⟩,.int .i64 0,.int .i64 0,.int .i64 0,.bool false,.int .i64 0,.int .i64 0,.int .i64 0,.int .i64 0,.int .i64 0,.string ⟨#[]⟩,.int .i64 0,.int .i64 0] 24))
 generalize ((w.alloc (Obj.cells #[.int .i64 x.id,.int .i64 x.kn,.int .u8 x.kd,.string x.wa,.int .i64 x.pit,.int .i64 x.ly,.int .i64 x.co,.bool x.ft,.int .i64 x.sh,.int .i64 x.fr,.int .i64 x.tw,.int .i64 x.lo,.int .i64 x.hi,.string x.st,.int .i64 x.li,.int .i64 x.vo] 24)).alloc (Obj.cells #[.int .i64 0,.int .i64 0,.int .u8 0,.string ⟨#[]⟩,.int .i64 0,.int .i64 0,.int .i64 0,.bool false,.int .i64 0,.int .i64 0,.int .i64 0,.int .i64 0,.int .i64 0,.string ⟨#[]⟩,.int .i64 0,.int .i64 0] 24))=W1 at *
 have z0:=(Array.getElem?_eq_some_iff.1 hb0).1
 have z1:=(Array.getElem?_eq_some_iff.1 hb1).1
 have d8:=(ItmCells.of_heap hb0).1.c8
 have d11:=(ItmCells.of_heap hb0).1.c11
 have d12:=(ItmCells.of_heap hb0).1.c12
 have hn0:w.heap.size ∉ [w.heap.size +1]:=by simp
 have HB0:=Lib.hid hb0
 have HBW:=Lib.hid hbw
 clear hb0
 apply SLG.rule0 ?hm [w.heap.size +1] [4,5,6,7,8,9,10,11,12,13,14,15,16,17,3] [SLF.pq 4 [] _,SLF.pq 5 [0] _,SLF.pq 6 [] _,SLF.pq 7 [2] _,SLF.pq 8 [] _,SLF.pq 9 [4] _,SLF.pq 10 [1,3,5] _,SLF.pq 11 [] _,SLF.pq 12 [7] _,SL.pu 13 [8] (.bool true),SLF.pq 14 [9] _,SL.pu 15 [10] (.agg #[.int .i64 x.id,.int .i64 x.kn,.int .u8 x.kd,.string x.wa,.int .i64 x.pit,.int .i64 x.ly,.int .i64 x.co,.bool x.ft,.int .i64 x.sh,.int .i64 x.fr,.int .i64 x.tw,.int .i64 x.lo,.int .i64 x.hi,.string x.st,.int .i64 x.li,.int .i64 x.vo]),SL.pu 16 [10,11] (.bool S),SLF.pq 17 [10,12] _,SL.boxAt 2 [6,16] [16] (w.heap.size +1) 24 #[.int .i64 0,.int .i64 0,.int .u8 0,.string ⟨#[]⟩,.int .i64 0,.int .i64 0,.int .i64 0,.bool false,.int .i64 x.sh,.int .i64 0,.int .i64 0,.int .i64 x.lo,.int .i64 x.hi,.string ⟨#[]⟩,.int .i64 0,.int .i64 0],SL.pu 3 [13] (.bool S),SL.boxAt 2 [] [] (w.heap.size +1) 24 #[.int .i64 0,.int .i64 0,.int .u8 0,.string ⟨#[]⟩,.int .i64 0,.int .i64 0,.int .i64 0,.bool false,.int .i64 0,.int .i64 0,.int .i64 0,.int .i64 0,.int .i64 0,.string ⟨#[]⟩,.int .i64 0,.int .i64 0]] [14,15] ?hck ?hkp (fun i=>if i=16 then [w.heap.size +1] else []) ?hin ?hdj ?hfr ?ob ?en2
 case hm=>kernel_rfl
 case hin=>exact SL.one_held rfl rfl ⟨rfl,hb1,rfl⟩ z1
 case hdj=>exact SL.one_apart
 case hfr=>intro us;simp only [SL.frame,SL.put'];simp;exact rfl
 case ob =>
  refine ⟨?_,?_,?_,?_,?_,?_,?_,?_,?_,?_,?_,?_,?_,?_,?_,?_,trivial⟩
  all_goals first
   | (exact Z6e)
   | skip
  ·exact Z7n
  ·refine SLG.ob_sp rfl rfl rfl fun us w' Fe hG hu hd Kx hK=>?_
   try dsimp only
   simp [SL.O] at hu
   have hB5:Below w.heap.size w w':=HBW.out.trans (hG.belowF HBW.out.size (by simp))
   obtain ⟨hc5,hf5⟩:=bcell hB5
   have hs5:=hB5.size
   obtain ⟨hc6,hf6⟩:=hG.cellsF;have p8:=(hc6 w.heap.size (0 +8) z0 hn0).trans d8;have p11:=(hc6 w.heap.size (0 +11) z0 hn0).trans d11;have p12:=(hc6 w.heap.size (0 +12) z0 hn0).trans d12
   exact Z6d
  ·refine SLG.ob_sp rfl rfl rfl fun us w' Fe hG hu hd Kx hK=>?_
   try dsimp only
   simp [SL.O] at hu
   have hB5:Below w.heap.size w w':=HBW.out.trans (hG.belowF HBW.out.size (by simp))
   obtain ⟨hc5,hf5⟩:=bcell hB5
   have hs5:=hB5.size
   obtain ⟨hc6,hf6⟩:=hG.cellsF;have p8:=(hc6 w.heap.size (0 +8) z0 hn0).trans d8;have p11:=(hc6 w.heap.size (0 +11) z0 hn0).trans d11;have p12:=(hc6 w.heap.size (0 +12) z0 hn0).trans d12
   exact Z6i
  ·exact Z60
  ·exact Z6g
 case hck=>kernel_rfl
 case hkp=>kernel_rfl
 intro us w7 Fs hG hu hbd hd
 simp [SL.Used,SL.pu,SL.boxAt] at hu
 obtain ⟨⟨e2,hbl,_⟩,e3,_⟩:=hu
 have hB7:Below w.heap.size w w7:=HBW.out.trans (hG.belowF HBW.out.size (by simp))
 obtain ⟨⟨y0,y1,y2,y3,y4,y5,y6,y7,y8,y9,y10,y11,y12,y13,y14,y15⟩,_,_⟩:=ItmCells.of_heap (x:=⟨0,0,0,⟨#[]⟩,0,0,0,false,x.sh,0,0,x.lo,x.hi,⟨#[]⟩,0,0⟩) hbl
 simp only at y0 y1 y2 y3 y4 y5 y6 y7 y8 y9 y10 y11 y12 y13 y14 y15
 rw [e3]
 clear hbl hG hbd hd hb1 z0 z1 d8 d11 d12 hn0 hI hSp e2 e3
 have HB:=Lib.hid hB7
 clear hB7
 go_wp2_with fail
 refine bodyPost_ret (v:=.tuple #[.agg #[.int .i64 0,.int .i64 0,.int .u8 0,.string ⟨#[]⟩,.int .i64 0,.int .i64 0,.int .i64 0,.bool false,.int .i64 x.sh,.int .i64 0,.int .i64 0,.int .i64 x.lo,.int .i64 x.hi,.string ⟨#[]⟩,.int .i64 0,.int .i64 0],.bool S]) Z4y rfl ⟨by simp [*],HB.out⟩
theorem sformed3_any (x:Itm) (w:World):Calls Tryz.prog 145 #[x.v] w fun e w'=>e=.returned (.tuple #[Itm.v ⟨0,0,0,⟨#[]⟩,0,0,0,false,x.sh,0,0,x.lo,x.hi,⟨#[]⟩,0,0⟩,.bool (rngB x.sh 1 1000000 && (rngB x.lo 0 x.hi && decide (x.hi≤1000)))])∧Below w.heap.size w w':=by
 cases h:rngB x.sh 1 1000000 with
 | false=>have:=sformed3_f x w h;rw [h] at this;exact this
 | true=>have:=sformed3_t x w h;rw [h] at this;exact this
end Go.Proofs.YtelkcohhagblaaaGreat
