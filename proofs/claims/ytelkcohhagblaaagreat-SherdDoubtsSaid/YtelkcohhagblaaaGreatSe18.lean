/- What the functions answer, for every input. -/
import Derived.Test.YtelkcohhagblaaaGreatSe16
set_option linter.unusedSimpArgs false
set_option linter.unusedVariables false
set_option linter.unnecessarySimpa false
namespace Go.Proofs.YtelkcohhagblaaaGreat
open Go.RowKit Go.Shelf
set_option maxHeartbeats 8000000
set_option maxRecDepth 100000
theorem sformed2_0 (x:Itm) (w:World) (hs:x.wa.size≤maxLen) (g0:nameB x.wa.data.toList=false):Calls Tryz.prog 143 #[x.v] w fun e w'=>e=.returned (.tuple #[Itm.v ⟨0,0,0,x.wa,x.pit,x.ly,x.co,x.ft,0,0,0,0,0,⟨#[]⟩,0,0⟩,.bool (false)])∧Below w.heap.size w w':=by
 have hNm:=fun w1=>sisName_any x.wa w1 hs
 rw [g0] at hNm
 clear g0
 simp only [Itm.v,Itm.cs]
 go_enter Tryz.func143,Tryz.ntmps143
 go_wp2_with fail
 have hb1:=World.alloc_heap_new (w.alloc (Obj.cells #[.int .i64 x.id,.int .i64 x.kn,.int .u8 x.kd,.string x.wa,.int .i64 x.pit,.int .i64 x.ly,.int .i64 x.co,.bool x.ft,.int .i64 x.sh,.int .i64 x.fr,.int .i64 x.tw,.int .i64 x.lo,.int .i64 x.hi,.string x.st,.int .i64 x.li,.int .i64 x.vo] 24)) (Obj.cells #[.int .i64 0,.int .i64 0,.int .u8 0,.string ⟨#[]⟩,.int .i64 0,.int .i64 0,.int .i64 0,.bool false,.int .i64 0,.int .i64 0,.int .i64 0,.int .i64 0,.int .i64 0,.string ⟨#[]⟩,.int .i64 0,.int .i64 0] 24)
 rw [World.size_alloc] at hb1
 have hb0:(((w.alloc (Obj.cells #[.int .i64 x.id,.int .i64 x.kn,.int .u8 x.kd,.string x.wa,.int .i64 x.pit,.int .i64 x.ly,.int .i64 x.co,.bool x.ft,.int .i64 x.sh,.int .i64 x.fr,.int .i64 x.tw,.int .i64 x.lo,.int .i64 x.hi,.string x.st,.int .i64 x.li,.int .i64 x.vo] 24)).alloc (Obj.cells #[.int .i64 0,.int .i64 0,.int .u8 0,.string ⟨#[]⟩,.int .i64 0,.int .i64 0,.int .i64 0,.bool false,.int .i64 0,.int .i64 0,.int .i64 0,.int .i64 0,.int .i64 0,.string ⟨#[]⟩,.int .i64 0,.int .i64 0] 24)).alloc (Obj.cells #[.int .i64 0,.int .i64 0,.int .u8 0,.string x.wa,.int .i64 x.pit,.int .i64 x.ly,.int .i64 x.co,.bool x.ft,.int .i64 0,.int .i64 0,.int .i64 0,.int .i64 0,.int .i64 0,.string ⟨#[]⟩,.int .i64 0,.int .i64 0] 24)).heap[w.heap.size]?=some (.cells #[.int .i64 x.id,.int .i64 x.kn,.int .u8 x.kd,.string x.wa,.int .i64 x.pit,.int .i64 x.ly,.int .i64 x.co,.bool x.ft,.int .i64 x.sh,.int .i64 x.fr,.int .i64 x.tw,.int .i64 x.lo,.int .i64 x.hi,.string x.st,.int .i64 x.li,.int .i64 x.vo] 24 (0,0)):=alKeep (alKeep (World.alloc_heap_new w _))
 have hb1:(((w.alloc (Obj.cells #[.int .i64 x.id,.int .i64 x.kn,.int .u8 x.kd,.string x.wa,.int .i64 x.pit,.int .i64 x.ly,.int .i64 x.co,.bool x.ft,.int .i64 x.sh,.int .i64 x.fr,.int .i64 x.tw,.int .i64 x.lo,.int .i64 x.hi,.string x.st,.int .i64 x.li,.int .i64 x.vo] 24)).alloc (Obj.cells #[.int .i64 0,.int .i64 0,.int .u8 0,.string ⟨#[]⟩,.int .i64 0,.int .i64 0,.int .i64 0,.bool false,.int .i64 0,.int .i64 0,.int .i64 0,.int .i64 0,.int .i64 0,.string ⟨#[]⟩,.int .i64 0,.int .i64 0] 24)).alloc (Obj.cells #[.int .i64 0,.int .i64 0,.int .u8 0,.string x.wa,.int .i64 x.pit,.int .i64 x.ly,.int .i64 x.co,.bool x.ft,.int .i64 0,.int .i64 0,.int .i64 0,.int .i64 0,.int .i64 0,.string ⟨#[]⟩,.int .i64 0,.int .i64 0] 24)).heap[w.heap.size +1]?=some (.cells #[.int .i64 0,.int .i64 0,.int .u8 0,.string ⟨#[]⟩,.int .i64 0,.int .i64 0,.int .i64 0,.bool false,.int .i64 0,.int .i64 0,.int .i64 0,.int .i64 0,.int .i64 0,.string ⟨#[]⟩,.int .i64 0,.int .i64 0] 24 (0,0)):=alKeep hb1
 have hb2:=World.alloc_heap_new ((w.alloc (Obj.cells #[.int .i64 x.id,.int .i64 x.kn,.int .u8 x.kd,.string x.wa,.int .i64 x.pit,.int .i64 x.ly,.int .i64 x.co,.bool x.ft,.int .i64 x.sh,.int .i64 x.fr,.int .i64 x.tw,.int .i64 x.lo,.int .i64 x.hi,.string x.st,.int .i64 x.li,.int .i64 x.vo] 24)).alloc (Obj.cells #[.int .i64 0,.int .i64 0,.int .u8 0,.string ⟨#[]⟩,.int .i64 0,.int .i64 0,.int .i64 0,.bool false,.int .i64 0,.int .i64 0,.int .i64 0,.int .i64 0,.int .i64 0,.string ⟨#[]⟩,.int .i64 0,.int .i64 0] 24)) (Obj.cells #[.int .i64 0,.int .i64 0,.int .u8 0,.string x.wa,.int .i64 x.pit,.int .i64 x.ly,.int .i64 x.co,.bool x.ft,.int .i64 0,.int .i64 0,.int .i64 0,.int .i64 0,.int .i64 0,.string ⟨#[]⟩,.int .i64 0,.int .i64 0] 24)
 rw [World.size_alloc,World.size_alloc] at hb2
 have hbw:=((one_alloc w (Obj.cells #[.int .i64 x.id,.int .i64 x.kn,.int .u8 x.kd,.string x.wa,.int .i64 x.pit,.int .i64 x.ly,.int .i64 x.co,.bool x.ft,.int .i64 x.sh,.int .i64 x.fr,.int .i64 x.tw,.int .i64 x.lo,.int .i64 x.hi,.string x.st,.int .i64 x.li,.int .i64 x.vo] 24)).ch2 (one_alloc _ (Obj.cells #[.int .i64 0,.int .i64 0,.int .u8 0,.string ⟨#[]⟩,.int .i64 0,.int .i64 0,.int .i64 0,.bool false,.int .i64 0,.int .i64 0,.int .i64 0,.int .i64 0,.int .i64 0,.string ⟨#[]⟩,.int .i64 0,.int .i64 0] 24))).ch2 (one_alloc _ (Obj.cells #[.int .i64 0,.int .i64 0,.int .u8 0,.string x.wa,.int .i64 x.pit,.int .i64 x.ly,.int .i64 x.co,.bool x.ft,.int .i64 0,.int .i64 0,.int .i64 0,.int .i64 0,.int .i64 0,.string ⟨#[]⟩,.int .i64 0,.int .i64 0] 24))
 generalize (((w.alloc (Obj.cells #[.int .i64 x.id,.int .i64 x.kn,.int .u8 x.kd,.string x.wa,.int .i64 x.pit,.int .i64 x.ly,.int .i64 x.co,.bool x.ft,.int .i64 x.sh,.int .i64 x.fr,.int .i64 x.tw,.int .i64 x.lo,.int .i64 x.hi,.string x.st,.int .i64 x.li,.int .i64 x.vo] 24)).alloc (Obj.cells #[.int .i64 0,.int .i64 0,.int .u8 0,.string ⟨#[]⟩,.int .i64 0,.int .i64 0,.int .i64 0,.bool false,.int .i64 0,.int .i64 0,.int .i64 0,.int .i64 0,.int .i64 0,.string ⟨#[]⟩,.int .i64 0,.int .i64 0] 24)).alloc (Obj.cells #[.int .i64 0,.int .i64 0,.int .u8 0,.string x.wa,.int .i64 x.pit,.int .i64 x.ly,.int .i64 x.co,.bool x.ft,.int .i64 0,.int .i64 0,.int .i64 0,.int .i64 0,.int .i64 0,.string ⟨#[]⟩,.int .i64 0,.int .i64 0] 24))=W1 at *
 have z0:=(Array.getElem?_eq_some_iff.1 hb0).1
 have z1:=(Array.getElem?_eq_some_iff.1 hb1).1
 have z2:=(Array.getElem?_eq_some_iff.1 hb2).1
 have d3:=(ItmCells.of_heap hb0).1.c3
 have d4:=(ItmCells.of_heap hb0).1.c4
 have d5:=(ItmCells.of_heap hb0).1.c5
 have d6:=(ItmCells.of_heap hb0).1.c6
 have hn0:w.heap.size ∉ [w.heap.size +1]:=by simp
 have hn2:w.heap.size +1 +1 ∉ [w.heap.size +1]:=by simp
 have HB0:=Lib.hid hb0
 have HB2:=Lib.hid hb2
 have HBW:=Lib.hid hbw
 clear hb0 hb2
 apply SLG.rule0 ?hm [w.heap.size +1] [16,17,18,19,20,21,22,23,24,25,26,27,28,29,30,31,32,33,34,3] [SL.pu 16 [] (.agg #[.int .i64 0,.int .i64 0,.int .u8 0,.string x.wa,.int .i64 x.pit,.int .i64 x.ly,.int .i64 x.co,.bool x.ft,.int .i64 0,.int .i64 0,.int .i64 0,.int .i64 0,.int .i64 0,.string ⟨#[]⟩,.int .i64 0,.int .i64 0]),SLF.pq 17 [] _,SLF.pq 18 [1] _,SL.pu 19 [2] (.bool false),SLF.pq 20 [3] _,SLF.pq 21 [4] _,SLF.pq 22 [4,5] _,SLF.pq 23 [4,6] _,SLF.pq 24 [4,7] _,SLF.pq 25 [8] _,SLF.pq 26 [9] _,SLF.pq 27 [9,10] _,SLF.pq 28 [9,11] _,SLF.pq 29 [9,12] _,SLF.pq 30 [13] _,SLF.pq 31 [14] _,SLF.pq 32 [14,15] _,SLF.pq 33 [14,16] _,SLF.pq 34 [14,17] _,SL.boxAt 2 [0,21] [21] (w.heap.size +1) 24 #[.int .i64 0,.int .i64 0,.int .u8 0,.string x.wa,.int .i64 x.pit,.int .i64 x.ly,.int .i64 x.co,.bool x.ft,.int .i64 0,.int .i64 0,.int .i64 0,.int .i64 0,.int .i64 0,.string ⟨#[]⟩,.int .i64 0,.int .i64 0],SL.pu 3 [18] (.bool false),SL.boxAt 2 [] [] (w.heap.size +1) 24 #[.int .i64 0,.int .i64 0,.int .u8 0,.string ⟨#[]⟩,.int .i64 0,.int .i64 0,.int .i64 0,.bool false,.int .i64 0,.int .i64 0,.int .i64 0,.int .i64 0,.int .i64 0,.string ⟨#[]⟩,.int .i64 0,.int .i64 0]] [19,20] ?hck ?hkp (fun i=>if i=21 then [w.heap.size +1] else []) ?hin ?hdj ?hfr ?ob ?en1
 case hm=>kernel_rfl
 case hin=>exact SL.one_held rfl rfl ⟨rfl,hb1,rfl⟩ z1
 case hdj=>exact SL.one_apart
 case hfr=>intro us;simp only [SL.frame,SL.put'];simp;exact rfl
 case ob =>
  refine ⟨?_,?_,?_,?_,?_,?_,?_,?_,?_,?_,?_,?_,?_,?_,?_,?_,?_,?_,?_,?_,?_,trivial⟩
  all_goals first
   | (exact Z5x)
   | skip
  ·exact Z5t
  ·exact Zc
  ·exact Z6
  ·exact Z5y
 case hck=>kernel_rfl
 case hkp=>kernel_rfl
 intro us w7 Fs hG hu hbd hd
 simp [SL.Used,SL.pu,SL.boxAt] at hu
 obtain ⟨⟨e2,hbl,_⟩,e3,_⟩:=hu
 have hB7:Below w.heap.size w w7:=HBW.out.trans (hG.belowF HBW.out.size (by simp))
 obtain ⟨⟨y0,y1,y2,y3,y4,y5,y6,y7,y8,y9,y10,y11,y12,y13,y14,y15⟩,_,_⟩:=ItmCells.of_heap (x:=⟨0,0,0,x.wa,x.pit,x.ly,x.co,x.ft,0,0,0,0,0,⟨#[]⟩,0,0⟩) hbl
 simp only at y0 y1 y2 y3 y4 y5 y6 y7 y8 y9 y10 y11 y12 y13 y14 y15
 rw [e3]
 clear hbl hG hbd hd hb1 z0 z1 d3 d4 d5 d6 hn0 hNm e2 e3
 exact Zs
theorem sformed2_1 (x:Itm) (w:World) (hs:x.wa.size≤maxLen) (g0:nameB x.wa.data.toList=true) (g1:rngB x.pit 1 20=false):Calls Tryz.prog 143 #[x.v] w fun e w'=>e=.returned (.tuple #[Itm.v ⟨0,0,0,x.wa,x.pit,x.ly,x.co,x.ft,0,0,0,0,0,⟨#[]⟩,0,0⟩,.bool (false)])∧Below w.heap.size w w':=by
 have hNm:=fun w1=>sisName_any x.wa w1 hs
 rw [g0] at hNm
 clear g0
 have hP:=fun w1=>sin_any x.pit 1 20 w1
 rw [g1] at hP
 clear g1
 simp only [Itm.v,Itm.cs]
 go_enter Tryz.func143,Tryz.ntmps143
 go_wp2_with fail
 have hb1:=World.alloc_heap_new (w.alloc (Obj.cells #[.int .i64 x.id,.int .i64 x.kn,.int .u8 x.kd,.string x.wa,.int .i64 x.pit,.int .i64 x.ly,.int .i64 x.co,.bool x.ft,.int .i64 x.sh,.int .i64 x.fr,.int .i64 x.tw,.int .i64 x.lo,.int .i64 x.hi,.string x.st,.int .i64 x.li,.int .i64 x.vo] 24)) (Obj.cells #[.int .i64 0,.int .i64 0,.int .u8 0,.string ⟨#[]⟩,.int .i64 0,.int .i64 0,.int .i64 0,.bool false,.int .i64 0,.int .i64 0,.int .i64 0,.int .i64 0,.int .i64 0,.string ⟨#[]⟩,.int .i64 0,.int .i64 0] 24)
 rw [World.size_alloc] at hb1
 have hb0:(((w.alloc (Obj.cells #[.int .i64 x.id,.int .i64 x.kn,.int .u8 x.kd,.string x.wa,.int .i64 x.pit,.int .i64 x.ly,.int .i64 x.co,.bool x.ft,.int .i64 x.sh,.int .i64 x.fr,.int .i64 x.tw,.int .i64 x.lo,.int .i64 x.hi,.string x.st,.int .i64 x.li,.int .i64 x.vo] 24)).alloc (Obj.cells #[.int .i64 0,.int .i64 0,.int .u8 0,.string ⟨#[]⟩,.int .i64 0,.int .i64 0,.int .i64 0,.bool false,.int .i64 0,.int .i64 0,.int .i64 0,.int .i64 0,.int .i64 0,.string ⟨#[]⟩,.int .i64 0,.int .i64 0] 24)).alloc (Obj.cells #[.int .i64 0,.int .i64 0,.int .u8 0,.string x.wa,.int .i64 x.pit,.int .i64 x.ly,.int .i64 x.co,.bool x.ft,.int .i64 0,.int .i64 0,.int .i64 0,.int .i64 0,.int .i64 0,.string ⟨#[]⟩,.int .i64 0,.int .i64 0] 24)).heap[w.heap.size]?=some (.cells #[.int .i64 x.id,.int .i64 x.kn,.int .u8 x.kd,.string x.wa,.int .i64 x.pit,.int .i64 x.ly,.int .i64 x.co,.bool x.ft,.int .i64 x.sh,.int .i64 x.fr,.int .i64 x.tw,.int .i64 x.lo,.int .i64 x.hi,.string x.st,.int .i64 x.li,.int .i64 x.vo] 24 (0,0)):=alKeep (alKeep (World.alloc_heap_new w _))
 have hb1:(((w.alloc (Obj.cells #[.int .i64 x.id,.int .i64 x.kn,.int .u8 x.kd,.string x.wa,.int .i64 x.pit,.int .i64 x.ly,.int .i64 x.co,.bool x.ft,.int .i64 x.sh,.int .i64 x.fr,.int .i64 x.tw,.int .i64 x.lo,.int .i64 x.hi,.string x.st,.int .i64 x.li,.int .i64 x.vo] 24)).alloc (Obj.cells #[.int .i64 0,.int .i64 0,.int .u8 0,.string ⟨#[]⟩,.int .i64 0,.int .i64 0,.int .i64 0,.bool false,.int .i64 0,.int .i64 0,.int .i64 0,.int .i64 0,.int .i64 0,.string ⟨#[]⟩,.int .i64 0,.int .i64 0] 24)).alloc (Obj.cells #[.int .i64 0,.int .i64 0,.int .u8 0,.string x.wa,.int .i64 x.pit,.int .i64 x.ly,.int .i64 x.co,.bool x.ft,.int .i64 0,.int .i64 0,.int .i64 0,.int .i64 0,.int .i64 0,.string ⟨#[]⟩,.int .i64 0,.int .i64 0] 24)).heap[w.heap.size +1]?=some (.cells #[.int .i64 0,.int .i64 0,.int .u8 0,.string ⟨#[]⟩,.int .i64 0,.int .i64 0,.int .i64 0,.bool false,.int .i64 0,.int .i64 0,.int .i64 0,.int .i64 0,.int .i64 0,.string ⟨#[]⟩,.int .i64 0,.int .i64 0] 24 (0,0)):=alKeep hb1
 have hb2:=World.alloc_heap_new ((w.alloc (Obj.cells #[.int .i64 x.id,.int .i64 x.kn,.int .u8 x.kd,.string x.wa,.int .i64 x.pit,.int .i64 x.ly,.int .i64 x.co,.bool x.ft,.int .i64 x.sh,.int .i64 x.fr,.int .i64 x.tw,.int .i64 x.lo,.int .i64 x.hi,.string x.st,.int .i64 x.li,.int .i64 x.vo] 24)).alloc (Obj.cells #[.int .i64 0,.int .i64 0,.int .u8 0,.string ⟨#[]⟩,.int .i64 0,.int .i64 0,.int .i64 0,.bool false,.int .i64 0,.int .i64 0,.int .i64 0,.int .i64 0,.int .i64 0,.string ⟨#[]⟩,.int .i64 0,.int .i64 0] 24)) (Obj.cells #[.int .i64 0,.int .i64 0,.int .u8 0,.string x.wa,.int .i64 x.pit,.int .i64 x.ly,.int .i64 x.co,.bool x.ft,.int .i64 0,.int .i64 0,.int .i64 0,.int .i64 0,.int .i64 0,.string ⟨#[]⟩,.int .i64 0,.int .i64 0] 24)
 rw [World.size_alloc,World.size_alloc] at hb2
 have hbw:=((one_alloc w (Obj.cells #[.int .i64 x.id,.int .i64 x.kn,.int .u8 x.kd,.string x.wa,.int .i64 x.pit,.int .i64 x.ly,.int .i64 x.co,.bool x.ft,.int .i64 x.sh,.int .i64 x.fr,.int .i64 x.tw,.int .i64 x.lo,.int .i64 x.hi,.string x.st,.int .i64 x.li,.int .i64 x.vo] 24)).ch2 (one_alloc _ (Obj.cells #[.int .i64 0,.int .i64 0,.int .u8 0,.string ⟨#[]⟩,.int .i64 0,.int .i64 0,.int .i64 0,.bool false,.int .i64 0,.int .i64 0,.int .i64 0,.int .i64 0,.int .i64 0,.string ⟨#[]⟩,.int .i64 0,.int .i64 0] 24))).ch2 (one_alloc _ (Obj.cells #[.int .i64 0,.int .i64 0,.int .u8 0,.string x.wa,.int .i64 x.pit,.int .i64 x.ly,.int .i64 x.co,.bool x.ft,.int .i64 0,.int .i64 0,.int .i64 0,.int .i64 0,.int .i64 0,.string ⟨#[]⟩,.int .i64 0,.int .i64 0] 24))
 generalize (((w.alloc (Obj.cells #[.int .i64 x.id,.int .i64 x.kn,.int .u8 x.kd,.string x.wa,.int .i64 x.pit,.int .i64 x.ly,.int .i64 x.co,.bool x.ft,.int .i64 x.sh,.int .i64 x.fr,.int .i64 x.tw,.int .i64 x.lo,.int .i64 x.hi,.string x.st,.int .i64 x.li,.int .i64 x.vo] 24)).alloc (Obj.cells #[.int .i64 0,.int .i64 0,.int .u8 0,.string ⟨#[]⟩,.int .i64 0,.int .i64 0,.int .i64 0,.bool false,.int .i64 0,.int .i64 0,.int .i64 0,.int .i64 0,.int .i64 0,.string ⟨#[]⟩,.int .i64 0,.int .i64 0] 24)).alloc (Obj.cells #[.int .i64 0,.int .i64 0,.int .u8 0,.string x.wa,.int .i64 x.pit,.int .i64 x.ly,.int .i64 x.co,.bool x.ft,.int .i64 0,.int .i64 0,.int .i64 0,.int .i64 0,.int .i64 0,.string ⟨#[]⟩,.int .i64 0,.int .i64 0] 24))=W1 at *
 have z0:=(Array.getElem?_eq_some_iff.1 hb0).1
 have z1:=(Array.getElem?_eq_some_iff.1 hb1).1
 have z2:=(Array.getElem?_eq_some_iff.1 hb2).1
 have d3:=(ItmCells.of_heap hb0).1.c3
 have d4:=(ItmCells.of_heap hb0).1.c4
 have d5:=(ItmCells.of_heap hb0).1.c5
 have d6:=(ItmCells.of_heap hb0).1.c6
 have hn0:w.heap.size ∉ [w.heap.size +1]:=by simp
 have hn2:w.heap.size +1 +1 ∉ [w.heap.size +1]:=by simp
 have HB0:=Lib.hid hb0
 have HB2:=Lib.hid hb2
 have HBW:=Lib.hid hbw
 clear hb0 hb2
 apply SLG.rule0 ?hm [w.heap.size +1] [16,17,18,19,20,21,22,23,24,25,26,27,28,29,30,31,32,33,34,3] [SL.pu 16 [] (.agg #[.int .i64 0,.int .i64 0,.int .u8 0,.string x.wa,.int .i64 x.pit,.int .i64 x.ly,.int .i64 x.co,.bool x.ft,.int .i64 0,.int .i64 0,.int .i64 0,.int .i64 0,.int .i64 0,.string ⟨#[]⟩,.int .i64 0,.int .i64 0]),SLF.pq 17 [] _,SLF.pq 18 [1] _,SL.pu 19 [2] (.bool true),SLF.pq 20 [3] _,SLF.pq 21 [4] _,SLF.pq 22 [4,5] _,SL.pu 23 [4,6] (.bool false),SLF.pq 24 [4,7] _,SLF.pq 25 [8] _,SLF.pq 26 [9] _,SLF.pq 27 [9,10] _,SLF.pq 28 [9,11] _,SLF.pq 29 [9,12] _,SLF.pq 30 [13] _,SLF.pq 31 [14] _,SLF.pq 32 [14,15] _,SLF.pq 33 [14,16] _,SLF.pq 34 [14,17] _,SL.boxAt 2 [0,21] [21] (w.heap.size +1) 24 #[.int .i64 0,.int .i64 0,.int .u8 0,.string x.wa,.int .i64 x.pit,.int .i64 x.ly,.int .i64 x.co,.bool x.ft,.int .i64 0,.int .i64 0,.int .i64 0,.int .i64 0,.int .i64 0,.string ⟨#[]⟩,.int .i64 0,.int .i64 0],SL.pu 3 [18] (.bool false),SL.boxAt 2 [] [] (w.heap.size +1) 24 #[.int .i64 0,.int .i64 0,.int .u8 0,.string ⟨#[]⟩,.int .i64 0,.int .i64 0,.int .i64 0,.bool false,.int .i64 0,.int .i64 0,.int .i64 0,.int .i64 0,.int .i64 0,.string ⟨#[]⟩,.int .i64 0,.int .i64 0]] [19,20] ?hck ?hkp (fun i=>if i=21 then [w.heap.size +1] else []) ?hin ?hdj ?hfr ?ob ?en2
 case hm=>kernel_rfl
 case hin=>exact SL.one_held rfl rfl ⟨rfl,hb1,rfl⟩ z1
 case hdj=>exact SL.one_apart
 case hfr=>intro us;simp only [SL.frame,SL.put'];simp;exact rfl
 case ob =>
  refine ⟨?_,?_,?_,?_,?_,?_,?_,?_,?_,?_,?_,?_,?_,?_,?_,?_,?_,?_,?_,?_,?_,trivial⟩
  all_goals first
   | (exact Z5x)
   | skip
  ·exact Z5t
  ·exact Zc
  ·exact Z5v
  ·exact Z6
  ·exact Z5y
 case hck=>kernel_rfl
 case hkp=>kernel_rfl
 intro us w7 Fs hG hu hbd hd
 simp [SL.Used,SL.pu,SL.boxAt] at hu
 obtain ⟨⟨e2,hbl,_⟩,e3,_⟩:=hu
 have hB7:Below w.heap.size w w7:=HBW.out.trans (hG.belowF HBW.out.size (by simp))
 obtain ⟨⟨y0,y1,y2,y3,y4,y5,y6,y7,y8,y9,y10,y11,y12,y13,y14,y15⟩,_,_⟩:=ItmCells.of_heap (x:=⟨0,0,0,x.wa,x.pit,x.ly,x.co,x.ft,0,0,0,0,0,⟨#[]⟩,0,0⟩) hbl
 simp only at y0 y1 y2 y3 y4 y5 y6 y7 y8 y9 y10 y11 y12 y13 y14 y15
 rw [e3]
 clear hbl hG hbd hd hb1 z0 z1 d3 d4 d5 d6 hn0 hNm hP e2 e3
 exact Zs
theorem sformed2_2 (x:Itm) (w:World) (hs:x.wa.size≤maxLen) (g0:nameB x.wa.data.toList=true) (g1:rngB x.pit 1 20=true) (g2:rngB x.ly 1 50=false):Calls Tryz.prog 143 #[x.v] w fun e w'=>e=.returned (.tuple #[Itm.v ⟨0,0,0,x.wa,x.pit,x.ly,x.co,x.ft,0,0,0,0,0,⟨#[]⟩,0,0⟩,.bool (false)])∧Below w.heap.size w w':=by
 have hNm:=fun w1=>sisName_any x.wa w1 hs
 rw [g0] at hNm
 clear g0
 have hP:=fun w1=>sin_any x.pit 1 20 w1
 rw [g1] at hP
 clear g1
 have hL:=fun w1=>sin_any x.ly 1 50 w1
 rw [g2] at hL
 clear g2
 simp only [Itm.v,Itm.cs]
 go_enter Tryz.func143,Tryz.ntmps143
 go_wp2_with fail
 have hb1:=World.alloc_heap_new (w.alloc (Obj.cells #[.int .i64 x.id,.int .i64 x.kn,.int .u8 x.kd,.string x.wa,.int .i64 x.pit,.int .i64 x.ly,.int .i64 x.co,.bool x.ft,.int .i64 x.sh,.int .i64 x.fr,.int .i64 x.tw,.int .i64 x.lo,.int .i64 x.hi,.string x.st,.int .i64 x.li,.int .i64 x.vo] 24)) (Obj.cells #[.int .i64 0,.int .i64 0,.int .u8 0,.string ⟨#[]⟩,.int .i64 0,.int .i64 0,.int .i64 0,.bool false,.int .i64 0,.int .i64 0,.int .i64 0,.int .i64 0,.int .i64 0,.string ⟨#[]⟩,.int .i64 0,.int .i64 0] 24)
 rw [World.size_alloc] at hb1
 have hb0:(((w.alloc (Obj.cells #[.int .i64 x.id,.int .i64 x.kn,.int .u8 x.kd,.string x.wa,.int .i64 x.pit,.int .i64 x.ly,.int .i64 x.co,.bool x.ft,.int .i64 x.sh,.int .i64 x.fr,.int .i64 x.tw,.int .i64 x.lo,.int .i64 x.hi,.string x.st,.int .i64 x.li,.int .i64 x.vo] 24)).alloc (Obj.cells #[.int .i64 0,.int .i64 0,.int .u8 0,.string ⟨#[]⟩,.int .i64 0,.int .i64 0,.int .i64 0,.bool false,.int .i64 0,.int .i64 0,.int .i64 0,.int .i64 0,.int .i64 0,.string ⟨#[]⟩,.int .i64 0,.int .i64 0] 24)).alloc (Obj.cells #[.int .i64 0,.int .i64 0,.int .u8 0,.string x.wa,.int .i64 x.pit,.int .i64 x.ly,.int .i64 x.co,.bool x.ft,.int .i64 0,.int .i64 0,.int .i64 0,.int .i64 0,.int .i64 0,.string ⟨#[]⟩,.int .i64 0,.int .i64 0] 24)).heap[w.heap.size]?=some (.cells #[.int .i64 x.id,.int .i64 x.kn,.int .u8 x.kd,.string x.wa,.int .i64 x.pit,.int .i64 x.ly,.int .i64 x.co,.bool x.ft,.int .i64 x.sh,.int .i64 x.fr,.int .i64 x.tw,.int .i64 x.lo,.int .i64 x.hi,.string x.st,.int .i64 x.li,.int .i64 x.vo] 24 (0,0)):=alKeep (alKeep (World.alloc_heap_new w _))
 have hb1:(((w.alloc (Obj.cells #[.int .i64 x.id,.int .i64 x.kn,.int .u8 x.kd,.string x.wa,.int .i64 x.pit,.int .i64 x.ly,.int .i64 x.co,.bool x.ft,.int .i64 x.sh,.int .i64 x.fr,.int .i64 x.tw,.int .i64 x.lo,.int .i64 x.hi,.string x.st,.int .i64 x.li,.int .i64 x.vo] 24)).alloc (Obj.cells #[.int .i64 0,.int .i64 0,.int .u8 0,.string ⟨#[]⟩,.int .i64 0,.int .i64 0,.int .i64 0,.bool false,.int .i64 0,.int .i64 0,.int .i64 0,.int .i64 0,.int .i64 0,.string ⟨#[]⟩,.int .i64 0,.int .i64 0] 24)).alloc (Obj.cells #[.int .i64 0,.int .i64 0,.int .u8 0,.string x.wa,.int .i64 x.pit,.int .i64 x.ly,.int .i64 x.co,.bool x.ft,.int .i64 0,.int .i64 0,.int .i64 0,.int .i64 0,.int .i64 0,.string ⟨#[]⟩,.int .i64 0,.int .i64 0] 24)).heap[w.heap.size +1]?=some (.cells #[.int .i64 0,.int .i64 0,.int .u8 0,.string ⟨#[]⟩,.int .i64 0,.int .i64 0,.int .i64 0,.bool false,.int .i64 0,.int .i64 0,.int .i64 0,.int .i64 0,.int .i64 0,.string ⟨#[]⟩,.int .i64 0,.int .i64 0] 24 (0,0)):=alKeep hb1
 have hb2:=World.alloc_heap_new ((w.alloc (Obj.cells #[.int .i64 x.id,.int .i64 x.kn,.int .u8 x.kd,.string x.wa,.int .i64 x.pit,.int .i64 x.ly,.int .i64 x.co,.bool x.ft,.int .i64 x.sh,.int .i64 x.fr,.int .i64 x.tw,.int .i64 x.lo,.int .i64 x.hi,.string x.st,.int .i64 x.li,.int .i64 x.vo] 24)).alloc (Obj.cells #[.int .i64 0,.int .i64 0,.int .u8 0,.string ⟨#[]⟩,.int .i64 0,.int .i64 0,.int .i64 0,.bool false,.int .i64 0,.int .i64 0,.int .i64 0,.int .i64 0,.int .i64 0,.string ⟨#[]⟩,.int .i64 0,.int .i64 0] 24)) (Obj.cells #[.int .i64 0,.int .i64 0,.int .u8 0,.string x.wa,.int .i64 x.pit,.int .i64 x.ly,.int .i64 x.co,.bool x.ft,.int .i64 0,.int .i64 0,.int .i64 0,.int .i64 0,.int .i64 0,.string ⟨#[]⟩,.int .i64 0,.int .i64 0] 24)
 rw [World.size_alloc,World.size_alloc] at hb2
 have hbw:=((one_alloc w (Obj.cells #[.int .i64 x.id,.int .i64 x.kn,.int .u8 x.kd,.string x.wa,.int .i64 x.pit,.int .i64 x.ly,.int .i64 x.co,.bool x.ft,.int .i64 x.sh,.int .i64 x.fr,.int .i64 x.tw,.int .i64 x.lo,.int .i64 x.hi,.string x.st,.int .i64 x.li,.int .i64 x.vo] 24)).ch2 (one_alloc _ (Obj.cells #[.int .i64 0,.int .i64 0,.int .u8 0,.string ⟨#[]⟩,.int .i64 0,.int .i64 0,.int .i64 0,.bool false,.int .i64 0,.int .i64 0,.int .i64 0,.int .i64 0,.int .i64 0,.string ⟨#[]⟩,.int .i64 0,.int .i64 0] 24))).ch2 (one_alloc _ (Obj.cells #[.int .i64 0,.int .i64 0,.int .u8 0,.string x.wa,.int .i64 x.pit,.int .i64 x.ly,.int .i64 x.co,.bool x.ft,.int .i64 0,.int .i64 0,.int .i64 0,.int .i64 0,.int .i64 0,.string ⟨#[]⟩,.int .i64 0,.int .i64 0] 24))
 generalize (((w.alloc (Obj.cells #[.int .i64 x.id,.int .i64 x.kn,.int .u8 x.kd,.string x.wa,.int .i64 x.pit,.int .i64 x.ly,.int .i64 x.co,.bool x.ft,.int .i64 x.sh,.int .i64 x.fr,.int .i64 x.tw,.int .i64 x.lo,.int .i64 x.hi,.string x.st,.int .i64 x.li,.int .i64 x.vo] 24)).alloc (Obj.cells #[.int .i64 0,.int .i64 0,.int .u8 0,.string ⟨#[]⟩,.int .i64 0,.int .i64 0,.int .i64 0,.bool false,.int .i64 0,.int .i64 0,.int .i64 0,.int .i64 0,.int .i64 0,.string ⟨#[]⟩,.int .i64 0,.int .i64 0] 24)).alloc (Obj.cells #[.int .i64 0,.int .i64 0,.int .u8 0,.string x.wa,.int .i64 x.pit,.int .i64 x.ly,.int .i64 x.co,.bool x.ft,.int .i64 0,.int .i64 0,.int .i64 0,.int .i64 0,.int .i64 0,.string ⟨#[]⟩,.int .i64 0,.int .i64 0] 24))=W1 at *
 have z0:=(Array.getElem?_eq_some_iff.1 hb0).1
 have z1:=(Array.getElem?_eq_some_iff.1 hb1).1
 have z2:=(Array.getElem?_eq_some_iff.1 hb2).1
 have d3:=(ItmCells.of_heap hb0).1.c3
 have d4:=(ItmCells.of_heap hb0).1.c4
 have d5:=(ItmCells.of_heap hb0).1.c5
 have d6:=(ItmCells.of_heap hb0).1.c6
 have hn0:w.heap.size ∉ [w.heap.size +1]:=by simp
 have hn2:w.heap.size +1 +1 ∉ [w.heap.size +1]:=by simp
 have HB0:=Lib.hid hb0
 have HB2:=Lib.hid hb2
 have HBW:=Lib.hid hbw
 clear hb0 hb2
 apply SLG.rule0 ?hm [w.heap.size +1] [16,17,18,19,20,21,22,23,24,25,26,27,28,29,30,31,32,33,34,3] [SL.pu 16 [] (.agg #[.int .i64 0,.int .i64 0,.int .u8 0,.string x.wa,.int .i64 x.pit,.int .i64 x.ly,.int .i64 x.co,.bool x.ft,.int .i64 0,.int .i64 0,.int .i64 0,.int .i64 0,.int .i64 0,.string ⟨#[]⟩,.int .i64 0,.int .i64 0]),SLF.pq 17 [] _,SLF.pq 18 [1] _,SL.pu 19 [2] (.bool true),SLF.pq 20 [3] _,SLF.pq 21 [4] _,SLF.pq 22 [4,5] _,SL.pu 23 [4,6] (.bool true),SLF.pq 24 [4,7] _,SLF.pq 25 [8] _,SLF.pq 26 [9] _,SLF.pq 27 [9,10] _,SL.pu 28 [9,11] (.bool false),SLF.pq 29 [9,12] _,SLF.pq 30 [13] _,SLF.pq 31 [14] _,SLF.pq 32 [14,15] _,SLF.pq 33 [14,16] _,SLF.pq 34 [14,17] _,SL.boxAt 2 [0,21] [21] (w.heap.size +1) 24 #[.int .i64 0,.int .i64 0,.int .u8 0,.string x.wa,.int .i64 x.pit,.int .i64 x.ly,.int .i64 x.co,.bool x.ft,.int .i64 0,.int .i64 0,.int .i64 0,.int .i64 0,.int .i64 0,.string ⟨#[]⟩,.int .i64 0,.int .i64 0],SL.pu 3 [18] (.bool false),SL.boxAt 2 [] [] (w.heap.size +1) 24 #[.int .i64 0,.int .i64 0,.int .u8 0,.string ⟨#[]⟩,.int .i64 0,.int .i64 0,.int .i64 0,.bool false,.int .i64 0,.int .i64 0,.int .i64 0,.int .i64 0,.int .i64 0,.string ⟨#[]⟩,.int .i64 0,.int .i64 0]] [19,20] ?hck ?hkp (fun i=>if i=21 then [w.heap.size +1] else []) ?hin ?hdj ?hfr ?ob ?en3
 case hm=>kernel_rfl
 case hin=>exact SL.one_held rfl rfl ⟨rfl,hb1,rfl⟩ z1
 case hdj=>exact SL.one_apart
 case hfr=>intro us;simp only [SL.frame,SL.put'];simp;exact rfl
 case ob =>
  refine ⟨?_,?_,?_,?_,?_,?_,?_,?_,?_,?_,?_,?_,?_,?_,?_,?_,?_,?_,?_,?_,?_,trivial⟩
  all_goals first
   | (exact Z5x)
   | skip
  ·exact Z5t
  ·exact Zc
  ·exact Z5v
  ·exact Z64
  ·exact Z6
  ·exact Z5y
 case hck=>kernel_rfl
 case hkp=>kernel_rfl
 intro us w7 Fs hG hu hbd hd
 simp [SL.Used,SL.pu,SL.boxAt] at hu
 obtain ⟨⟨e2,hbl,_⟩,e3,_⟩:=hu
 have hB7:Below w.heap.size w w7:=HBW.out.trans (hG.belowF HBW.out.size (by simp))
 obtain ⟨⟨y0,y1,y2,y3,y4,y5,y6,y7,y8,y9,y10,y11,y12,y13,y14,y15⟩,_,_⟩:=ItmCells.of_heap (x:=⟨0,0,0,x.wa,x.pit,x.ly,x.co,x.ft,0,0,0,0,0,⟨#[]⟩,0,0⟩) hbl
 simp only at y0 y1 y2 y3 y4 y5 y6 y7 y8 y9 y10 y11 y12 y13 y14 y15
 rw [e3]
 clear hbl hG hbd hd hb1 z0 z1 d3 d4 d5 d6 hn0 hNm hP hL e2 e3
 exact Zs
theorem sformed2_t (x:Itm) (w:World) (hs:x.wa.size≤maxLen) (g0:nameB x.wa.data.toList=true) (g1:rngB x.pit 1 20=true) (g2:rngB x.ly 1 50=true):Calls Tryz.prog 143 #[x.v] w fun e w'=>e=.returned (.tuple #[Itm.v ⟨0,0,0,x.wa,x.pit,x.ly,x.co,x.ft,0,0,0,0,0,⟨#[]⟩,0,0⟩,.bool (rngB x.co 3 16)])∧Below w.heap.size w w':=by
 have hNm:=fun w1=>sisName_any x.wa w1 hs
 rw [g0] at hNm
 clear g0
 have hP:=fun w1=>sin_any x.pit 1 20 w1
 rw [g1] at hP
 clear g1
 have hL:=fun w1=>sin_any x.ly 1 50 w1
 rw [g2] at hL
 clear g2
 have hCo:=fun w1=>sin_any x.co 3 16 w1
 generalize rngB x.co 3 16=S9 at *
 simp only [Itm.v,Itm.cs]
 go_enter Tryz.func143,Tryz.ntmps143
 go_wp2_with fail
 have hb1:=World.alloc_heap_new (w.alloc (Obj.cells #[.int .i64 x.id,.int .i64 x.kn,.int .u8 x.kd,.string x.wa,.int .i64 x.pit,.int .i64 x.ly,.int .i64 x.co,.bool x.ft,.int .i64 x.sh,.int .i64 x.fr,.int .i64 x.tw,.int .i64 x.lo,.int .i64 x.hi,.string x.st,.int .i64 x.li,.int .i64 x.vo] 24)) (Obj.cells #[.int .i64 0,.int .i64 0,.int .u8 0,.string ⟨#[]⟩,.int .i64 0,.int .i64 0,.int .i64 0,.bool false,.int .i64 0,.int .i64 0,.int .i64 0,.int .i64 0,.int .i64 0,.string ⟨#[]⟩,.int .i64 0,.int .i64 0] 24)
 rw [World.size_alloc] at hb1
 have hb0:(((w.alloc (Obj.cells #[.int .i64 x.id,.int .i64 x.kn,.int .u8 x.kd,.string x.wa,.int .i64 x.pit,.int .i64 x.ly,.int .i64 x.co,.bool x.ft,.int .i64 x.sh,.int .i64 x.fr,.int .i64 x.tw,.int .i64 x.lo,.int .i64 x.hi,.string x.st,.int .i64 x.li,.int .i64 x.vo] 24)).alloc (Obj.cells #[.int .i64 0,.int .i64 0,.int .u8 0,.string ⟨#[]⟩,.int .i64 0,.int .i64 0,.int .i64 0,.bool false,.int .i64 0,.int .i64 0,.int .i64 0,.int .i64 0,.int .i64 0,.string ⟨#[]⟩,.int .i64 0,.int .i64 0] 24)).alloc (Obj.cells #[.int .i64 0,.int .i64 0,.int .u8 0,.string x.wa,.int .i64 x.pit,.int .i64 x.ly,.int .i64 x.co,.bool x.ft,.int .i64 0,.int .i64 0,.int .i64 0,.int .i64 0,.int .i64 0,.string ⟨#[]⟩,.int .i64 0,.int .i64 0] 24)).heap[w.heap.size]?=some (.cells #[.int .i64 x.id,.int .i64 x.kn,.int .u8 x.kd,.string x.wa,.int .i64 x.pit,.int .i64 x.ly,.int .i64 x.co,.bool x.ft,.int .i64 x.sh,.int .i64 x.fr,.int .i64 x.tw,.int .i64 x.lo,.int .i64 x.hi,.string x.st,.int .i64 x.li,.int .i64 x.vo] 24 (0,0)):=alKeep (alKeep (World.alloc_heap_new w _))
 have hb1:(((w.alloc (Obj.cells #[.int .i64 x.id,.int .i64 x.kn,.int .u8 x.kd,.string x.wa,.int .i64 x.pit,.int .i64 x.ly,.int .i64 x.co,.bool x.ft,.int .i64 x.sh,.int .i64 x.fr,.int .i64 x.tw,.int .i64 x.lo,.int .i64 x.hi,.string x.st,.int .i64 x.li,.int .i64 x.vo] 24)).alloc (Obj.cells #[.int .i64 0,.int .i64 0,.int .u8 0,.string ⟨#[]⟩,.int .i64 0,.int .i64 0,.int .i64 0,.bool false,.int .i64 0,.int .i64 0,.int .i64 0,.int .i64 0,.int .i64 0,.string ⟨#[]⟩,.int .i64 0,.int .i64 0] 24)).alloc (Obj.cells #[.int .i64 0,.int .i64 0,.int .u8 0,.string x.wa,.int .i64 x.pit,.int .i64 x.ly,.int .i64 x.co,.bool x.ft,.int .i64 0,.int .i64 0,.int .i64 0,.int .i64 0,.int .i64 0,.string ⟨#[]⟩,.int .i64 0,.int .i64 0] 24)).heap[w.heap.size +1]?=some (.cells #[.int .i64 0,.int .i64 0,.int .u8 0,.string ⟨#[]⟩,.int .i64 0,.int .i64 0,.int .i64 0,.bool false,.int .i64 0,.int .i64 0,.int .i64 0,.int .i64 0,.int .i64 0,.string ⟨#[]⟩,.int .i64 0,.int .i64 0] 24 (0,0)):=alKeep hb1
 have hb2:=World.alloc_heap_new ((w.alloc (Obj.cells #[.int .i64 x.id,.int .i64 x.kn,.int .u8 x.kd,.string x.wa,.int .i64 x.pit,.int .i64 x.ly,.int .i64 x.co,.bool x.ft,.int .i64 x.sh,.int .i64 x.fr,.int .i64 x.tw,.int .i64 x.lo,.int .i64 x.hi,.string x.st,.int .i64 x.li,.int .i64 x.vo] 24)).alloc (Obj.cells #[.int .i64 0,.int .i64 0,.int .u8 0,.string ⟨#[]⟩,.int .i64 0,.int .i64 0,.int .i64 0,.bool false,.int .i64 0,.int .i64 0,.int .i64 0,.int .i64 0,.int .i64 0,.string ⟨#[]⟩,.int .i64 0,.int .i64 0] 24)) (Obj.cells #[.int .i64 0,.int .i64 0,.int .u8 0,.string x.wa,.int .i64 x.pit,.int .i64 x.ly,.int .i64 x.co,.bool x.ft,.int .i64 0,.int .i64 0,.int .i64 0,.int .i64 0,.int .i64 0,.string ⟨#[]⟩,.int .i64 0,.int .i64 0] 24)
 rw [World.size_alloc,World.size_alloc] at hb2
 have hbw:=((one_alloc w (Obj.cells #[.int .i64 x.id,.int .i64 x.kn,.int .u8 x.kd,.string x.wa,.int .i64 x.pit,.int .i64 x.ly,.int .i64 x.co,.bool x.ft,.int .i64 x.sh,.int .i64 x.fr,.int .i64 x.tw,.int .i64 x.lo,.int .i64 x.hi,.string x.st,.int .i64 x.li,.int .i64 x.vo] 24)).ch2 (one_alloc _ (Obj.cells #[.int .i64 0,.int .i64 0,.int .u8 0,.string ⟨#[]⟩,.int .i64 0,.int .i64 0,.int .i64 0,.bool false,.int .i64 0,.int .i64 0,.int .i64 0,.int .i64 0,.int .i64 0,.string ⟨#[]⟩,.int .i64 0,.int .i64 0] 24))).ch2 (one_alloc _ (Obj.cells #[.int .i64 0,.int .i64 0,.int .u8 0,.string x.wa,.int .i64 x.pit,.int .i64 x.ly,.int .i64 x.co,.bool x.ft,.int .i64 0,.int .i64 0,.int .i64 0,.int .i64 0,.int .i64 0,.string ⟨#[]⟩,.int .i64 0,.int .i64 0] 24))
 generalize (((w.alloc (Obj.cells #[.int .i64 x.id,.int .i64 x.kn,.int .u8 x.kd,.string x.wa,.int .i64 x.pit,.int .i64 x.ly,.int .i64 x.co,.bool x.ft,.int .i64 x.sh,.int .i64 x.fr,.int .i64 x.tw,.int .i64 x.lo,.int .i64 x.hi,.string x.st,.int .i64 x.li,.int .i64 x.vo] 24)).alloc (Obj.cells #[.int .i64 0,.int .i64 0,.int .u8 0,.string ⟨#[]⟩,.int .i64 0,.int .i64 0,.int .i64 0,.bool false,.int .i64 0,.int .i64 0,.int .i64 0,.int .i64 0,.int .i64 0,.string ⟨#[]⟩,.int .i64 0,.int .i64 0] 24)).alloc (Obj.cells #[.int .i64 0,.int .i64 0,.int .u8 0,.string x.wa,.int .i64 x.pit,.int .i64 x.ly,.int .i64 x.co,.bool x.ft,.int .i64 0,.int .i64 0,.int .i64 0,.int .i64 0,.int .i64 0,.string ⟨#[]⟩,.int .i64 0,.int .i64 0] 24))=W1 at *
 have z0:=(Array.getElem?_eq_some_iff.1 hb0).1
 have z1:=(Array.getElem?_eq_some_iff.1 hb1).1
 have z2:=(Array.getElem?_eq_some_iff.1 hb2).1
 have d3:=(ItmCells.of_heap hb0).1.c3
 have d4:=(ItmCells.of_heap hb0).1.c4
 have d5:=(ItmCells.of_heap hb0).1.c5
 have d6:=(ItmCells.of_heap hb0).1.c6
 have hn0:w.heap.size ∉ [w.heap.size +1]:=by simp
 have hn2:w.heap.size +1 +1 ∉ [w.heap.size +1]:=by simp
 have HB0:=Lib.hid hb0
 have HB2:=Lib.hid hb2
 have HBW:=Lib.hid hbw
 clear hb0 hb2
 apply SLG.rule0 ?hm [w.heap.size +1] [16,17,18,19,20,21,22,23,24,25,26,27,28,29,30,31,32,33,34,3] [SL.pu 16 [] (.agg #[.int .i64 0,.int .i64 0,.int .u8 0,.string x.wa,.int .i64 x.pit,.int .i64 x.ly,.int .i64 x.co,.bool x.ft,.int .i64 0,.int .i64 0,.int .i64 0,.int .i64 0,.int .i64 0,.string ⟨#[]⟩,.int .i64 0,.int .i64 0]),SLF.pq 17 [] _,SLF.pq 18 [1] _,SL.pu 19 [2] (.bool true),SLF.pq 20 [3] _,SLF.pq 21 [4] _,SLF.pq 22 [4,5] _,SL.pu 23 [4,6] (.bool true),SLF.pq 24 [4,7] _,SLF.pq 25 [8] _,SLF.pq 26 [9] _,SLF.pq 27 [9,10] _,SL.pu 28 [9,11] (.bool true),SLF.pq 29 [9,12] _,SLF.pq 30 [13] _,SLF.pq 31 [14] _,SLF.pq 32 [14,15] _,SL.pu 33 [14,16] (.bool S9),SLF.pq 34 [14,17] _,SL.boxAt 2 [0,21] [21] (w.heap.size +1) 24 #[.int .i64 0,.int .i64 0,.int .u8 0,.string x.wa,.int .i64 x.pit,.int .i64 x.ly,.int .i64 x.co,.bool x.ft,.int .i64 0,.int .i64 0,.int .i64 0,.int .i64 0,.int .i64 0,.string ⟨#[]⟩,.int .i64 0,.int .i64 0],SL.pu 3 [18] (.bool S9),SL.boxAt 2 [] [] (w.heap.size +1) 24 #[.int .i64 0,.int .i64 0,.int .u8 0,.string ⟨#[]⟩,.int .i64 0,.int .i64 0,.int .i64 0,.bool false,.int .i64 0,.int .i64 0,.int .i64 0,.int .i64 0,.int .i64 0,.string ⟨#[]⟩,.int .i64 0,.int .i64 0]] [19,20] ?hck ?hkp (fun i=>if i=21 then [w.heap.size +1] else []) ?hin ?hdj ?hfr ?ob ?en4
 case hm=>kernel_rfl
 case hin=>exact SL.one_held rfl rfl ⟨rfl,hb1,rfl⟩ z1
 case hdj=>exact SL.one_apart
 case hfr=>intro us;simp only [SL.frame,SL.put'];simp;exact rfl
 case ob =>
  refine ⟨?_,?_,?_,?_,?_,?_,?_,?_,?_,?_,?_,?_,?_,?_,?_,?_,?_,?_,?_,?_,?_,trivial⟩
  all_goals first
   | (exact Z5x)
   | skip
  ·exact Z5t
  ·exact Zc
  ·exact Z5v
  ·exact Z64
  ·refine SLG.ob_sp rfl rfl rfl fun us w' Fe hG hu hd Kx hK=>?_
   try dsimp only
   simp [SL.O] at hu
   have hB5:Below w.heap.size w w':=HBW.out.trans (hG.belowF HBW.out.size (by simp))
   obtain ⟨hc5,hf5⟩:=bcell hB5
   have hs5:=hB5.size
   obtain ⟨hc6,hf6⟩:=hG.cellsF;have p3:=(hc6 w.heap.size (0 +3) z0 hn0).trans d3;have p4:=(hc6 w.heap.size (0 +4) z0 hn0).trans d4;have p5:=(hc6 w.heap.size (0 +5) z0 hn0).trans d5;have p6:=(hc6 w.heap.size (0 +6) z0 hn0).trans d6
   first
    | (refine SLF.wpo_do (SLF.wanted_free rfl) ?hd ?_;(case hd=>intro c h;cases h))
    | (refine SLF.wpo_do (SLF.wanted_by rfl rfl ?hv) ?hd ?_;(case hv=>simp [hu];done);(case hd=>intro c h;cases h))
    | (refine' SLF.wpo_not (SLG.wanted_not rfl rfl ?hv ?hn) ?_;(case hv=>simp [hu];exact rfl);(case hn=>first | (simp;done) | (simp [undef];done)))
   obtain ⟨e8,_⟩:=hu
   go_step
   refine (hCo w').mono ?_
   exact Z7t
  ·exact Z6
  ·exact Z5y
 case hck=>kernel_rfl
 case hkp=>kernel_rfl
 intro us w7 Fs hG hu hbd hd
 simp [SL.Used,SL.pu,SL.boxAt] at hu
 obtain ⟨⟨e2,hbl,_⟩,e3,_⟩:=hu
 have hB7:Below w.heap.size w w7:=HBW.out.trans (hG.belowF HBW.out.size (by simp))
 obtain ⟨⟨y0,y1,y2,y3,y4,y5,y6,y7,y8,y9,y10,y11,y12,y13,y14,y15⟩,_,_⟩:=ItmCells.of_heap (x:=⟨0,0,0,x.wa,x.pit,x.ly,x.co,x.ft,0,0,0,0,0,⟨#[]⟩,0,0⟩) hbl
 simp only at y0 y1 y2 y3 y4 y5 y6 y7 y8 y9 y10 y11 y12 y13 y14 y15
 rw [e3]
 clear hbl hG hbd hd hb1 z0 z1 d3 d4 d5 d6 hn0 hNm hP hL hCo e2 e3
 have HB:=Lib.hid hB7
 clear hB7
 go_wp2_with fail
 refine bodyPost_ret (v:=.tuple #[.agg #[.int .i64 0,.int .i64 0,.int .u8 0,.string x.wa,.int .i64 x.pit,.int .i64 x.ly,.int .i64 x.co,.bool x.ft,.int .i64 0,.int .i64 0,.int .i64 0,.int .i64 0,.int .i64 0,.string ⟨#[]⟩,.int .i64 0,.int .i64 0],.bool S9]) Z7a rfl ⟨rfl,HB.out⟩
theorem sformed2_any (x:Itm) (w:World) (hs:x.wa.size≤maxLen):Calls Tryz.prog 143 #[x.v] w fun e w'=>e=.returned (.tuple #[Itm.v ⟨0,0,0,x.wa,x.pit,x.ly,x.co,x.ft,0,0,0,0,0,⟨#[]⟩,0,0⟩,.bool (nameB x.wa.data.toList && rngB x.pit 1 20 && rngB x.ly 1 50 && rngB x.co 3 16)])∧Below w.heap.size w w':=by
 cases g0:nameB x.wa.data.toList
 ·refine (sformed2_0 x w hs g0).mono ?_
  exact Z1j
 cases g1:rngB x.pit 1 20
 ·refine (sformed2_1 x w hs g0 g1).mono ?_
  exact Z1j
 cases g2:rngB x.ly 1 50
 ·refine (sformed2_2 x w hs g0 g1 g2).mono ?_
  exact Z1j
 refine (sformed2_t x w hs g0 g1 g2).mono ?_
 exact Z1j
end Go.Proofs.YtelkcohhagblaaaGreat
