/- What the functions answer, for every input. -/
import Derived.Test.YtelkcohhagblaaaGreatSe16
set_option linter.unusedSimpArgs false
set_option linter.unusedVariables false
set_option linter.unnecessarySimpa false
namespace Go.Proofs.YtelkcohhagblaaaGreat
open Go.RowKit Go.Shelf
set_option maxHeartbeats 8000000
set_option maxRecDepth 100000
theorem sformed4_any (x:Itm) (w:World) (hs:x.st.size≤maxLen):Calls Tryz.prog 146 #[x.v] w fun e w'=>e=.returned (.tuple #[Itm.v ⟨0,0,0,⟨#[]⟩,0,0,0,false,x.sh,0,0,0,0,x.st,0,0⟩,.bool (rngB x.sh 1 1000000 && setS x.st.data.toList)])∧Below w.heap.size w w':=by
 have hI:=fun w1=>sin_any x.sh 1 1000000 w1
 have hSt:=fun w1=>sisSet_any x.st w1 hs
 generalize rngB x.sh 1 1000000=R at *
 generalize setS x.st.data.toList=S at *
 simp only [Itm.v,Itm.cs]
 go_enter Tryz.func146,Tryz.ntmps146
 go_wp2_with fail
 have hb1:=World.alloc_heap_new (w.alloc (Obj.cells #[.int .i64 x.id,.int .i64 x.kn,.int .u8 x.kd,.string x.wa,.int .i64 x.pit,.int .i64 x.ly,.int .i64 x.co,.bool x.ft,.int .i64 x.sh,.int .i64 x.fr,.int .i64 x.tw,.int .i64 x.lo,.int .i64 x.hi,.string x.st,.int .i64 x.li,.int .i64 x.vo] 24)) (Obj.cells #[.int .i64 0,.int .i64 0,.int .u8 0,.string ⟨#[]⟩,.int .i64 0,.int .i64 0,.int .i64 0,.bool false,.int .i64 0,.int .i64 0,.int .i64 0,.int .i64 0,.int .i64 0,.string ⟨#[]⟩,.int .i64 0,.int .i64 0] 24)
 rw [World.size_alloc] at hb1
 have hb0:((w.alloc (Obj.cells #[.int .i64 x.id,.int .i64 x.kn,.int .u8 x.kd,.string x.wa,.int .i64 x.pit,.int .i64 x.ly,.int .i64 x.co,.bool x.ft,.int .i64 x.sh,.int .i64 x.fr,.int .i64 x.tw,.int .i64 x.lo,.int .i64 x.hi,.string x.st,.int .i64 x.li,.int .i64 x.vo] 24)).alloc (Obj.cells #[.int .i64 0,.int .i64 0,.int .u8 0,.string ⟨#[]⟩,.int .i64 0,.int .i64 0,.int .i64 0,.bool false,.int .i64 0,.int .i64 0,.int .i64 0,.int .i64 0,.int .i64 0,.string ⟨#[]⟩,.int .i64 0,.int .i64 0] 24)).heap[w.heap.size]?=some (.cells #[.int .i64 x.id,.int .i64 x.kn,.int .u8 x.kd,.string x.wa,.int .i64 x.pit,.int .i64 x.ly,.int .i64 x.co,.bool x.ft,.int .i64 x.sh,.int .i64 x.fr,.int .i64 x.tw,.int .i64 x.lo,.int .i64 x.hi,.string x.st,.int .i64 x.li,.int .i64 x.vo] 24 (0,0)):=alKeep (World.alloc_heap_new w _)
 have hbw:=(one_alloc w (Obj.cells #[.int .i64 x.id,.int .i64 x.kn,.int .u8 x.kd,.string x.wa,.int .i64 x.pit,.int .i64 x.ly,.int .i64 x.co,.bool x.ft,.int .i64 x.sh,.int .i64 x.fr,.int .i64 x.tw,.int .i64 x.lo,.int .i64 x.hi,.string x.st,.int .i64 x.li,.int .i64 x.vo] 24)).ch2 (one_alloc _ (Obj.cells #[.int .i64 0,.int .i64 0,.int .u8 0,.string ⟨#[]⟩,.int .i64 0,.int .i64 0,.int .i64 0,.bool false,.int .i64 0,.int .i64 0,.int .i64 0,.int .i64 0,.int .i64 0,.string ⟨#[]⟩,.int .i64 0,.int .i64 0] 24))
 generalize ((w.alloc (Obj.cells #[.int .i64 x.id,.int .i64 x.kn,.int .u8 x.kd,.string x.wa,.int .i64 x.pit,.int .i64 x.ly,.int .i64 x.co,.bool x.ft,.int .i64 x.sh,.int .i64 x.fr,.int .i64 x.tw,.int .i64 x.lo,.int .i64 x.hi,.string x.st,.int .i64 x.li,.int .i64 x.vo] 24)).alloc (Obj.cells #[.int .i64 0,.int .i64 0,.int .u8 0,.string ⟨#[]⟩,.int .i64 0,.int .i64 0,.int .i64 0,.bool false,.int .i64 0,.int .i64 0,.int .i64 0,.int .i64 0,.int .i64 0,.string ⟨#[]⟩,.int .i64 0,.int .i64 0] 24))=W1 at *
 have z0:=(Array.getElem?_eq_some_iff.1 hb0).1
 have z1:=(Array.getElem?_eq_some_iff.1 hb1).1
 have d8:=(ItmCells.of_heap hb0).1.c8
 have d13:=(ItmCells.of_heap hb0).1.c13
 have hn0:w.heap.size ∉ [w.heap.size +1]:=by simp
 have HB0:=Lib.hid hb0
 have HBW:=Lib.hid hbw
 clear hb0
 cases R
 ·skip
  apply SLG.rule0 ?hm [w.heap.size +1] [4,5,6,7,8,9,10,11,12,13,14,15,16,3] [SLF.pq 4 [] _,SLF.pq 5 [0] _,SLF.pq 6 [] _,SLF.pq 7 [2] _,SLF.pq 8 [1,3] _,SLF.pq 9 [] _,SLF.pq 10 [5] _,SL.pu 11 [6] (.bool false),SLF.pq 12 [7] _,SLF.pq 13 [8] _,SLF.pq 14 [8,9] _,SLF.pq 15 [8,10] _,SLF.pq 16 [8,11] _,SL.boxAt 2 [4,15] [15] (w.heap.size +1) 24 #[.int .i64 0,.int .i64 0,.int .u8 0,.string ⟨#[]⟩,.int .i64 0,.int .i64 0,.int .i64 0,.bool false,.int .i64 x.sh,.int .i64 0,.int .i64 0,.int .i64 0,.int .i64 0,.string x.st,.int .i64 0,.int .i64 0],SL.pu 3 [12] (.bool false),SL.boxAt 2 [] [] (w.heap.size +1) 24 #[.int .i64 0,.int .i64 0,.int .u8 0,.string ⟨#[]⟩,.int .i64 0,.int .i64 0,.int .i64 0,.bool false,.int .i64 0,.int .i64 0,.int .i64 0,.int .i64 0,.int .i64 0,.string ⟨#[]⟩,.int .i64 0,.int .i64 0]] [13,14] ?hck ?hkp (fun i=>if i=15 then [w.heap.size +1] else []) ?hin ?hdj ?hfr ?ob ?en1
  case hm=>kernel_rfl
  case hin=>exact SL.one_held rfl rfl ⟨rfl,hb1,rfl⟩ z1
  case hdj=>exact SL.one_apart
  case hfr=>intro us;simp only [SL.frame,SL.put'];simp;exact rfl
  case ob =>
   refine ⟨?_,?_,?_,?_,?_,?_,?_,?_,?_,?_,?_,?_,?_,?_,?_,trivial⟩
   all_goals first
    | (exact Z6f)
    | skip
   ·exact Z7p
   ·exact Z61
   ·exact Z6j
  case hck=>kernel_rfl
  case hkp=>kernel_rfl
  intro us w7 Fs hG hu hbd hd
  simp [SL.Used,SL.pu,SL.boxAt] at hu
  obtain ⟨⟨e2,hbl,_⟩,e3,_⟩:=hu
  have hB7:Below w.heap.size w w7:=HBW.out.trans (hG.belowF HBW.out.size (by simp))
  obtain ⟨⟨y0,y1,y2,y3,y4,y5,y6,y7,y8,y9,y10,y11,y12,y13,y14,y15⟩,_,_⟩:=ItmCells.of_heap (x:=⟨0,0,0,⟨#[]⟩,0,0,0,false,x.sh,0,0,0,0,x.st,0,0⟩) hbl
  simp only at y0 y1 y2 y3 y4 y5 y6 y7 y8 y9 y10 y11 y12 y13 y14 y15
  rw [e3]
  clear hbl hG hbd hd hb1 z0 z1 d8 d13 hn0 hI hSt e2 e3
  have HB:=Lib.hid hB7
  clear hB7
  go_wp2_with fail
  refine bodyPost_ret (v:=.tuple #[.agg #[.int .i64 0,.int .i64 0,.int .u8 0,.string ⟨#[]⟩,.int .i64 0,.int .i64 0,.int .i64 0,.bool false,.int .i64 x.sh,.int .i64 0,.int .i64 0,.int .i64 0,.int .i64 0,.string x.st,.int .i64 0,.int .i64 0],.bool false]) Z4x rfl ⟨by simp [*],HB.out⟩
 ·skip
  apply SLG.rule0 ?hm [w.heap.size +1] [4,5,6,7,8,9,10,11,12,13,14,15,16,3] [SLF.pq 4 [] _,SLF.pq 5 [0] _,SLF.pq 6 [] _,SLF.pq 7 [2] _,SLF.pq 8 [1,3] _,SLF.pq 9 [] _,SLF.pq 10 [5] _,SL.pu 11 [6] (.bool true),SLF.pq 12 [7] _,SLF.pq 13 [8] _,SLF.pq 14 [8,9] _,SL.pu 15 [8,10] (.bool S),SLF.pq 16 [8,11] _,SL.boxAt 2 [4,15] [15] (w.heap.size +1) 24 #[.int .i64 0,.int .i64 0,.int .u8 0,.string ⟨#[]⟩,.int .i64 0,.int .i64 0,.int .i64 0,.bool false,.int .i64 x.sh,.int .i64 0,.int .i64 0,.int .i64 0,.int .i64 0,.string x.st,.int .i64 0,.int .i64 0],SL.pu 3 [12] (.bool S),SL.boxAt 2 [] [] (w.heap.size +1) 24 #[.int .i64 0,.int .i64 0,.int .u8 0,.string ⟨#[]⟩,.int .i64 0,.int .i64 0,.int .i64 0,.bool false,.int .i64 0,.int .i64 0,.int .i64 0,.int .i64 0,.int .i64 0,.string ⟨#[]⟩,.int .i64 0,.int .i64 0]] [13,14] ?hck ?hkp (fun i=>if i=15 then [w.heap.size +1] else []) ?hin ?hdj ?hfr ?ob ?en2
  case hm=>kernel_rfl
  case hin=>exact SL.one_held rfl rfl ⟨rfl,hb1,rfl⟩ z1
  case hdj=>exact SL.one_apart
  case hfr=>intro us;simp only [SL.frame,SL.put'];simp;exact rfl
  case ob =>
   refine ⟨?_,?_,?_,?_,?_,?_,?_,?_,?_,?_,?_,?_,?_,?_,?_,trivial⟩
   all_goals first
    | (exact Z6f)
    | skip
   ·exact Z7p
   ·refine SLG.ob_sp rfl rfl rfl fun us w' Fe hG hu hd Kx hK=>?_
    try dsimp only
    simp [SL.O] at hu
    have hB5:Below w.heap.size w w':=HBW.out.trans (hG.belowF HBW.out.size (by simp))
    obtain ⟨hc5,hf5⟩:=bcell hB5
    have hs5:=hB5.size
    obtain ⟨hc6,hf6⟩:=hG.cellsF;have p8:=(hc6 w.heap.size (0 +8) z0 hn0).trans d8;have p13:=(hc6 w.heap.size (0 +13) z0 hn0).trans d13
    first
     | (refine SLF.wpo_do (SLF.wanted_free rfl) ?hd ?_;(case hd=>intro c h;cases h))
     | (refine SLF.wpo_do (SLF.wanted_by rfl rfl ?hv) ?hd ?_;(case hv=>simp [hu];done);(case hd=>intro c h;cases h))
     | (refine' SLF.wpo_not (SLG.wanted_not rfl rfl ?hv ?hn) ?_;(case hv=>simp [hu];exact rfl);(case hn=>first | (simp;done) | (simp [undef];done)))
    obtain ⟨e8,_⟩:=hu
    go_step
    refine (hSt w').mono ?_
    exact Zg
   ·exact Z61
   ·exact Z6j
  case hck=>kernel_rfl
  case hkp=>kernel_rfl
  intro us w7 Fs hG hu hbd hd
  simp [SL.Used,SL.pu,SL.boxAt] at hu
  obtain ⟨⟨e2,hbl,_⟩,e3,_⟩:=hu
  have hB7:Below w.heap.size w w7:=HBW.out.trans (hG.belowF HBW.out.size (by simp))
  obtain ⟨⟨y0,y1,y2,y3,y4,y5,y6,y7,y8,y9,y10,y11,y12,y13,y14,y15⟩,_,_⟩:=ItmCells.of_heap (x:=⟨0,0,0,⟨#[]⟩,0,0,0,false,x.sh,0,0,0,0,x.st,0,0⟩) hbl
  simp only at y0 y1 y2 y3 y4 y5 y6 y7 y8 y9 y10 y11 y12 y13 y14 y15
  rw [e3]
  clear hbl hG hbd hd hb1 z0 z1 d8 d13 hn0 hI hSt e2 e3
  have HB:=Lib.hid hB7
  clear hB7
  go_wp2_with fail
  refine bodyPost_ret (v:=.tuple #[.agg #[.int .i64 0,.int .i64 0,.int .u8 0,.string ⟨#[]⟩,.int .i64 0,.int .i64 0,.int .i64 0,.bool false,.int .i64 x.sh,.int .i64 0,.int .i64 0,.int .i64 0,.int .i64 0,.string x.st,.int .i64 0,.int .i64 0],.bool S]) Z4x rfl ⟨by simp [*],HB.out⟩
end Go.Proofs.YtelkcohhagblaaaGreat
