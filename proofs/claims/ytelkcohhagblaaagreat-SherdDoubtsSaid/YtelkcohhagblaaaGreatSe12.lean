/- What the functions answer, for every input. -/
import Derived.Test.YtelkcohhagblaaaGreatSe11
import Derived.Test.YtelkcohhagblaaaGreatSe10
import Derived.Test.YtelkcohhagblaaaGreatSe04
set_option linter.unusedSimpArgs false
set_option linter.unusedVariables false
set_option linter.unnecessarySimpa false
namespace Go.Proofs.YtelkcohhagblaaaGreat
open Go.RowKit Go.Shelf
set_option maxHeartbeats 4000000
set_option maxRecDepth 100000
theorem sformed6_any (x:Itm) (w:World):Calls Tryz.prog 149 #[x.v] w fun e w'=>e=.returned (.tuple #[Itm.v ⟨0,0,0,⟨#[]⟩,0,0,0,false,0,0,0,0,0,⟨#[]⟩,0,x.vo⟩,.bool (rngB x.vo 1 1000000)])∧Below w.heap.size w w':=by
 have hI:=fun w1=>sin_any x.vo 1 1000000 w1
 generalize rngB x.vo 1 1000000=R at *
 simp only [Itm.v,Itm.cs]
 go_enter Tryz.func149,Tryz.ntmps149
 go_wp2_with fail
 have hb0:((w.alloc (Obj.cells #[.int .i64 x.id,.int .i64 x.kn,.int .u8 x.kd,.string x.wa,.int .i64 x.pit,.int .i64 x.ly,.int .i64 x.co,.bool x.ft,.int .i64 x.sh,.int .i64 x.fr,.int .i64 x.tw,.int .i64 x.lo,.int .i64 x.hi,.string x.st,.int .i64 x.li,.int .i64 x.vo] 24)).alloc (Obj.cells #[.int .i64 0,.int .i64 0,.int .u8 0,.string ⟨#[]⟩,.int .i64 0,.int .i64 0,.int .i64 0,.bool false,.int .i64 0,.int .i64 0,.int .i64 0,.int .i64 0,.int .i64 0,.string ⟨#[]⟩,.int .i64 0,.int .i64 0] 24)).heap[w.heap.size]?=some (.cells #[.int .i64 x.id,.int .i64 x.kn,.int .u8 x.kd,.string x.wa,.int .i64 x.pit,.int .i64 x.ly,.int .i64 x.co,.bool x.ft,.int .i64 x.sh,.int .i64 x.fr,.int .i64 x.tw,.int .i64 x.lo,.int .i64 x.hi,.string x.st,.int .i64 x.li,.int .i64 x.vo] 24 (0,0)):=alKeep (World.alloc_heap_new w _)
 have hb1:=World.alloc_heap_new (w.alloc (Obj.cells #[.int .i64 x.id,.int .i64 x.kn,.int .u8 x.kd,.string x.wa,.int .i64 x.pit,.int .i64 x.ly,.int .i64 x.co,.bool x.ft,.int .i64 x.sh,.int .i64 x.fr,.int .i64 x.tw,.int .i64 x.lo,.int .i64 x.hi,.string x.st,.int .i64 x.li,.int .i64 x.vo] 24)) (Obj.cells #[.int .i64 0,.int .i64 0,.int .u8 0,.string ⟨#[]⟩,.int .i64 0,.int .i64 0,.int .i64 0,.bool false,.int .i64 0,.int .i64 0,.int .i64 0,.int .i64 0,.int .i64 0,.string ⟨#[]⟩,.int .i64 0,.int .i64 0] 24)
 rw [World.size_alloc] at hb1
 have hbw:=(one_alloc w (Obj.cells #[.int .i64 x.id,.int .i64 x.kn,.int .u8 x.kd,.string x.wa,.int .i64 x.pit,.int .i64 x.ly,.int .i64 x.co,.bool x.ft,.int .i64 x.sh,.int .i64 x.fr,.int .i64 x.tw,.int .i64 x.lo,.int .i64 x.hi,.string x.st,.int .i64 x.li,.int .i64 x.vo] 24)).ch2 (one_alloc _ (Obj.cells #[.int .i64 0,.int .i64 0,.int .u8 0,.string ⟨#[]⟩,.int .i64 0,.int .i64 0,.int .i64 0,.bool false,.int .i64 0,.int .i64 0,.int .i64 0,.int .i64 0,.int .i64 0,.string ⟨#[]⟩,.int .i64 0,.int .i64 0] 24))
 generalize ((w.alloc (Obj.cells #[.int .i64 x.id,.int .i64 x.kn,.int .u8 x.kd,.string x.wa,.int .i64 x.pit,.int .i64 x.ly,.int .i64 x.co,.bool x.ft,.int .i64 x.sh,.int .i64 x.fr,.int .i64 x.tw,.int .i64 x.lo,.int .i64 x.hi,.string x.st,.int .i64 x.li,.int .i64 x.vo] 24)).alloc (Obj.cells #[.int .i64 0,.int .i64 0,.int .u8 0,.string ⟨#[]⟩,.int .i64 0,.int .i64 0,.int .i64 0,.bool false,.int .i64 0,.int .i64 0,.int .i64 0,.int .i64 0,.int .i64 0,.string ⟨#[]⟩,.int .i64 0,.int .i64 0] 24))=W1 at *
 have z0:=(Array.getElem?_eq_some_iff.1 hb0).1
 have z1:=(Array.getElem?_eq_some_iff.1 hb1).1
 have d15:=(ItmCells.of_heap hb0).1.c15
 have hn1:w.heap.size ∉ [w.heap.size +1]:=by simp
 apply SLG.rule0 ?hm [w.heap.size +1] [4,5,6,7,8,9,3] [SLF.pq 4 [] _,SLF.pq 5 [0] _,SLF.pq 6 [1] _,SLF.pq 7 [] _,SLF.pq 8 [3] _,SL.pu 9 [4] (.bool R),SL.boxAt 2 [2,8] [8] (w.heap.size +1) 24 #[.int .i64 0,.int .i64 0,.int .u8 0,.string ⟨#[]⟩,.int .i64 0,.int .i64 0,.int .i64 0,.bool false,.int .i64 0,.int .i64 0,.int .i64 0,.int .i64 0,.int .i64 0,.string ⟨#[]⟩,.int .i64 0,.int .i64 x.vo],SL.pu 3 [5] (.bool R),SL.boxAt 2 [] [] (w.heap.size +1) 24 #[.int .i64 0,.int .i64 0,.int .u8 0,.string ⟨#[]⟩,.int .i64 0,.int .i64 0,.int .i64 0,.bool false,.int .i64 0,.int .i64 0,.int .i64 0,.int .i64 0,.int .i64 0,.string ⟨#[]⟩,.int .i64 0,.int .i64 0]] [6,7] ?hck ?hkp (fun i=>if i=8 then [w.heap.size +1] else []) ?hin ?hdj ?hfr ?ob ?en1
 case hm=>kernel_rfl
 case hin=>exact SL.one_held rfl rfl ⟨rfl,hb1,rfl⟩ z1
 case hdj=>exact SL.one_apart
 case hfr=>intro us;simp only [SL.frame,SL.put'];simp;exact rfl
 case ob =>
  refine ⟨?_,?_,?_,?_,?_,?_,?_,?_,trivial⟩
  all_goals first
   | (intro us w' Fe hG hu hd hv Kx hK
      try dsimp only
      simp [SL.O] at hu hK
      have hB5:Below w.heap.size w w':=hbw.trans (hG.belowF hbw.size (by simp))
      obtain ⟨hc5,hf5⟩:=bcell hB5
      have hs5:=hB5.size
      obtain ⟨hc6,hf6⟩:=hG.cellsF;have d16:=(hc6 w.heap.size (0 +15) z0 hn1).trans d15
      clear hv
      exact Z5z)
   | skip
  ·refine SLG.ob_sp rfl rfl rfl fun us w' Fe hG hu hd Kx hK=>?_
   try dsimp only
   simp [SL.O] at hu
   have hB5:Below w.heap.size w w':=hbw.trans (hG.belowF hbw.size (by simp))
   obtain ⟨hc5,hf5⟩:=bcell hB5
   have hs5:=hB5.size
   obtain ⟨hc6,hf6⟩:=hG.cellsF;have d16:=(hc6 w.heap.size (0 +15) z0 hn1).trans d15
   exact Z66
  ·refine SLG.ob_no rfl rfl rfl fun us w' Fe hG hu hd Kx hK=>?_
   try dsimp only
   simp [SL.O] at hu
   have hB5:Below w.heap.size w w':=hbw.trans (hG.belowF hbw.size (by simp))
   obtain ⟨hc5,hf5⟩:=bcell hB5
   have hs5:=hB5.size
   obtain ⟨hc6,hf6⟩:=hG.cellsF;have d16:=(hc6 w.heap.size (0 +15) z0 hn1).trans d15
   refine SLF.wpo_do (SLF.wanted_free rfl) ?hd ?_
   case hd=>intro c h;cases h
   obtain ⟨⟨e6,_⟩,e2,hbl,e8⟩:=hu
   obtain ⟨⟨y0,y1,y2,y3,y4,y5,y6,y7,y8,y9,y10,y11,y12,y13,y14,y15⟩,yf,yl⟩:=ItmCells.of_heap (x:=Itm.zero) hbl
   simp only [Itm.zero] at y0 y1 y2 y3 y4 y5 y6 y7 y8 y9 y10 y11 y12 y13 y14 y15
   have HB:=Lib.hid hbl
   clear hc6 hf6 hc5 hf5 d16 hbl
   go_step
   obtain ⟨qA,qC⟩:=sixteen (v0:=.int .i64 0) (v1:=.int .i64 0) (v2:=.int .u8 0) (v3:=.string ⟨#[]⟩) (v4:=.int .i64 0) (v5:=.int .i64 0) (v6:=.int .i64 0) (v7:=.bool false) (v8:=.int .i64 0) (v9:=.int .i64 0) (v10:=.int .i64 0) (v11:=.int .i64 0) (v12:=.int .i64 0) (v13:=.string ⟨#[]⟩) (v14:=.int .i64 0) (v15:=.int .i64 x.vo) HB.out
   exact Ze
  ·refine SLG.ob_sp rfl rfl rfl fun us w' Fe hG hu hd Kx hK=>?_
   try dsimp only
   simp [SL.O] at hu
   have hB5:Below w.heap.size w w':=hbw.trans (hG.belowF hbw.size (by simp))
   obtain ⟨hc5,hf5⟩:=bcell hB5
   have hs5:=hB5.size
   obtain ⟨hc6,hf6⟩:=hG.cellsF;have d16:=(hc6 w.heap.size (0 +15) z0 hn1).trans d15
   exact Z7
 case hck=>kernel_rfl
 case hkp=>kernel_rfl
 intro us w7 Fs hG hu hbd hd
 simp [SL.Used,SL.pu,SL.boxAt] at hu
 obtain ⟨⟨e2,hbl,_⟩,e3,_⟩:=hu
 have hB7:Below w.heap.size w w7:=hbw.trans (hG.belowF hbw.size (by simp))
 obtain ⟨⟨y0,y1,y2,y3,y4,y5,y6,y7,y8,y9,y10,y11,y12,y13,y14,y15⟩,_,_⟩:=ItmCells.of_heap (x:=⟨0,0,0,⟨#[]⟩,0,0,0,false,0,0,0,0,0,⟨#[]⟩,0,x.vo⟩) hbl
 simp only at y0 y1 y2 y3 y4 y5 y6 y7 y8 y9 y10 y11 y12 y13 y14 y15
 rw [e3]
 clear hbl hG hbd hd hbw hb0 hb1 z0 z1 d15 hn1 hI e2 e3
 have HB:=Lib.hid hB7
 clear hB7
 go_wp2_with fail
 refine bodyPost_ret (v:=.tuple #[.agg #[.int .i64 0,.int .i64 0,.int .u8 0,.string ⟨#[]⟩,.int .i64 0,.int .i64 0,.int .i64 0,.bool false,.int .i64 0,.int .i64 0,.int .i64 0,.int .i64 0,.int .i64 0,.string ⟨#[]⟩,.int .i64 0,.int .i64 x.vo],.bool R]) (by simp [results,Tryz.results149,go_sem, *]) rfl ⟨rfl,HB.out⟩
end Go.Proofs.YtelkcohhagblaaaGreat
