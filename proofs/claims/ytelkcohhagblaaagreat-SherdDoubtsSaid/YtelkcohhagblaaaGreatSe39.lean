/- What the functions answer, for every input. -/
import Derived.Test.YtelkcohhagblaaaGreatSe38
import Derived.Test.YtelkcohhagblaaaGreatSe11
import Derived.Test.YtelkcohhagblaaaGreatSe35
import Derived.Test.YtelkcohhagblaaaGreatSe27
set_option linter.unusedSimpArgs false
set_option linter.unusedVariables false
set_option linter.unnecessarySimpa false
namespace Go.Proofs.YtelkcohhagblaaaGreat
open Go.RowKit Go.Shelf
set_option maxHeartbeats 8000000
set_option maxRecDepth 100000
theorem keptL_cons {own:Itm} {ms:List Itm} {k id:Int} (h:own.kd≠k):keptL (own::ms) k id=keptL ms k id:=by
 unfold keptL
 rw [List.filter_cons,if_neg (by simp [h])]
/-- An outline with its rows, stored into a new box. -/
theorem sto3_k {Fe:Nat→List Nat} {w':World} {M base n1 n2:Nat} {a b c co v1 v2 x:Value} {b1 b2:List Value} {t t2:TypeId} {K:World→Prop} (hx:x=.pointer (some ⟨M,0,none⟩)) (hM:base≤M) (hh:w'.heap[M]?=some (.cells #[a,b,c] t (0,0))) (r1:w'.ownsRow base t2 4 v1 n1 b1) (r2:w'.ownsRow base t2 4 v2 n2 b2)
 (e5:Fe 5=v1.ownBlock.toList ++v2.ownBlock.toList) (e6:Fe 6=[M]) (hd:∀ k ∈ Fe 5,k ∉ Fe 6)
 (hK:∀ (w1:World) (F:List Nat),SL.Chg (List.flatMap Fe [5,6]) w' w1→(∃ M',∃ u1,∃ u2,∃ F1 F2,(x=.pointer (some ⟨M',0,none⟩)∧F1=[])∧(∃ F3 F4,(base≤M'∧w1.heap[M']?=some (.cells #[co,u1,u2] t (0,0))∧F3=[M'])∧(∃ F5 F6,(w1.ownsRow base t2 4 u1 n1 b1∧F5=u1.ownBlock.toList)∧(w1.ownsRow base t2 4 u2 n2 b2∧F6=u2.ownBlock.toList)∧F4=F5 ++F6)∧F2=F3 ++F4)∧F=F1 ++F2)→(∀ k ∈ F,k ∈ List.flatMap Fe [5,6]∨w'.heap.size≤k∧k<w1.heap.size)→K w1) :
 K (((w'.setCell ⟨M,0,none⟩ co).setCell ⟨M,1,none⟩ v1).setCell ⟨M,2,none⟩ v2):=by
 obtain ⟨k1,k2⟩:=set3 hh co v1 v2
 have e:List.flatMap Fe [5,6]=v1.ownBlock.toList ++v2.ownBlock.toList ++[M]:=by simp [e5,e6]
 have m1:M ∉ v1.ownBlock.toList:=fun h=>hd M (by rw [e5];exact List.mem_append.2 (.inl h)) (by rw [e6];simp)
 have m2:M ∉ v2.ownBlock.toList:=fun h=>hd M (by rw [e5];exact List.mem_append.2 (.inr h)) (by rw [e6];simp)
 refine hK _ ([] ++([M] ++(v1.ownBlock.toList ++v2.ownBlock.toList))) (k2.monoW fun k hk=>by rw [e];simp at hk;subst hk;simp) ⟨M,v1,v2,_,_,⟨hx,rfl⟩,⟨_,_,⟨hM,k1,rfl⟩,⟨_,_,⟨SL.row_stab r1 fun k hk=>k2.block k (SL.row_bounds r1 k hk).2 (by simp;rintro rfl;exact m1 hk),rfl⟩,⟨SL.row_stab r2 fun k hk=>k2.block k (SL.row_bounds r2 k hk).2 (by simp;rintro rfl;exact m2 hk),rfl⟩,rfl⟩,rfl⟩,rfl⟩ ?_
 intro k hk
 left
 rw [e]
 simp at hk ⊢
 rcases hk with h | h | h
 ·exact .inr (.inr h)
 ·exact .inl h
 ·exact .inr (.inl h)
theorem swith_any (a:Option Addr) (n cap:Nat) (s:List Itm) (kd:Int) (y:Shd) (b:Option Addr) (m cap2:Nat) (ms:List Itm) (own:Itm) (w:World) (hs:ItmsAt w a n cap s) (hl:s.length≤300) (hm:ItmsAt w b m cap2 ms) (hml:ms.length≤299) (hkd:kd=2∨kd=3) (hown:findI s y.id=some own) (hk1:own.kd=1) (how:own.Wide) (hco:3≤y.co∧y.co≤16)
 (hms:∀ x ∈ ms,x.kd=2∨x.kd=3→x.sh=y.id→ -10000≤x.lo∧x.lo≤10000) :
 Calls Tryz.prog 100 #[.slice a n cap,.int .u8 kd,y.v,.slice b m cap2] w (SysPost w (sysP kd y.co) (sysB kd y.co (keptL ms kd y.id))):=by
 obtain rfl:=hm.len
 have hNm:=snamed_any a n cap s y.id ((w.alloc (Obj.cells #[.int .i64 y.id,.string y.wa,.int .i64 y.pit,.int .i64 y.ly,.int .i64 y.co,.bool y.ft] 72)).alloc (Obj.cells #[.int .i64 0,.slice none 0 0] 57)) (hs.below ((one_alloc _ _).ch2 (one_alloc _ _))) (by omega)
 unfold FindPost at hNm
 rw [hown] at hNm
 simp only [Option.getD_some,Option.isSome_some] at hNm
 have hwid:∀ x ∈ own::ms,x.Wide:=fun x hx=>by
  rcases List.mem_cons.1 hx with rfl | hx
  ·exact how
  ·exact hm.wide x hx
 have hOu:=fun W va vc (hi:ItmsAt W va (own::ms).length vc (own::ms))=>soutline va _ vc (own::ms) y W hi Zj hco (fun x hx hk he=>by
  rcases List.mem_cons.1 hx with rfl | hx
  ·omega
  ·exact hms x hx hk he)
 unfold OutPost at hOu
 rw [keptL_cons (by omega),keptL_cons (by omega)] at hOu
 have hpl:(waysB y.co (keptL ms 2 y.id)).length≤1000∧(turnsB y.co (keptL ms 3 y.id)).length≤1000:=by
  have h1:(keptL ms 2 y.id).length≤ms.length:=List.length_filter_le _ _
  have h2:(keptL ms 3 y.id).length≤ms.length:=List.length_filter_le _ _
  have h3:=msB_len (keptL ms 2 y.id)
  have h4:=msB_len (keptL ms 3 y.id)
  have h5:=sidesL_len y.co.toNat
  have h6:=bendsL_len (y.co.toNat - 1)
  unfold waysB turnsB
  rw [List.length_append,List.length_append]
  omega
 have hrg:rngB y.co 3 16=true:=rngB_iff.2 hco
 have hWs:=fun W a1 c1 a2 c2 (h1:BdsAt W a1 (waysB y.co (keptL ms 2 y.id)).length c1 (waysB y.co (keptL ms 2 y.id))) (h2:BdsAt W a2 (turnsB y.co (keptL ms 3 y.id)).length c2 (turnsB y.co (keptL ms 3 y.id)))=>sWays_any y.co a1 _ c1 _ a2 _ c2 _ W (by omega) h1 h2 ⟨by omega,by omega⟩
 have hTs:=fun W a1 c1 a2 c2 (h1:BdsAt W a1 (waysB y.co (keptL ms 2 y.id)).length c1 (waysB y.co (keptL ms 2 y.id))) (h2:BdsAt W a2 (turnsB y.co (keptL ms 3 y.id)).length c2 (turnsB y.co (keptL ms 3 y.id)))=>sTurns_any y.co a1 _ c1 _ a2 _ c2 _ W (by omega) h1 h2 ⟨by omega,by omega⟩
 unfold SysPost sysIf sysBs at hWs hTs
 simp only [hrg,if_true] at hWs hTs
 have HP:=Lib.hid (show ∀ p bs v w',sysP kd y.co=p→sysB kd y.co (keptL ms kd y.id)=bs→Below w.heap.size w w'→w'.ownsRow w.heap.size 69 4 v bs.length (bcs bs)→SysPost w (sysP kd y.co) (sysB kd y.co (keptL ms kd y.id)) (.returned (.agg #[.int .i64 p,v])) w' from fun p bs v w' h1 h2 h3 h4=>by subst h1 h2;exact ⟨v,rfl,h3,h4⟩)
 generalize SysPost w (sysP kd y.co) (sysB kd y.co (keptL ms kd y.id))=Post at *
 have Hkd:=Lib.hid hkd
 have HPP:Hid ((kd=2→sysP kd y.co=y.co +1∧sysB kd y.co (keptL ms kd y.id)=waysB y.co (keptL ms 2 y.id))∧(kd=3→sysP kd y.co=y.co∧sysB kd y.co (keptL ms kd y.id)=turnsB y.co (keptL ms 3 y.id))):=Lib.hid ⟨fun e=>by subst e;exact ⟨rfl,rfl⟩,fun e=>by subst e;exact ⟨rfl,rfl⟩⟩
 have hwn:=hm.wide
 obtain ⟨N,hN⟩:∃ N,ms.length=N:=⟨_,rfl⟩
 generalize waysB y.co (keptL ms 2 y.id)=WB at *
 generalize turnsB y.co (keptL ms 3 y.id)=TB at *
 have hB0:=(one_alloc w (Obj.cells #[.int .i64 y.id,.string y.wa,.int .i64 y.pit,.int .i64 y.ly,.int .i64 y.co,.bool y.ft] 72)).ch2 (one_alloc _ (Obj.cells #[.int .i64 0,.slice none 0 0] 57))
 have hY0:=alKeep (o':=(Obj.cells #[.int .i64 0,.slice none 0 0] 57)) (World.alloc_heap_new w (Obj.cells #[.int .i64 y.id,.string y.wa,.int .i64 y.pit,.int .i64 y.ly,.int .i64 y.co,.bool y.ft] 72))
 have hR0:=World.alloc_heap_new (w.alloc (Obj.cells #[.int .i64 y.id,.string y.wa,.int .i64 y.pit,.int .i64 y.ly,.int .i64 y.co,.bool y.ft] 72)) (Obj.cells #[.int .i64 0,.slice none 0 0] 57)
 rw [World.size_alloc] at hR0
 have hz0:((w.alloc (Obj.cells #[.int .i64 y.id,.string y.wa,.int .i64 y.pit,.int .i64 y.ly,.int .i64 y.co,.bool y.ft] 72)).alloc (Obj.cells #[.int .i64 0,.slice none 0 0] 57)).heap.size=w.heap.size +1 +1:=by simp
 simp only [Shd.v,Shd.cs] at hOu ⊢
 rw [hN] at hm hml ⊢
 obtain ⟨p0,p1,p2,p3,p4,p5,pf⟩:=cell6 hY0
 have Hm:=Lib.hid hm
 have hl1:(own::ms).length=1 +N:=by rw [List.length_cons,hN];omega
 rw [hl1] at hOu
 have HOu:=Lib.hid hOu
 have HWs:=Lib.hid hWs
 have HTs:=Lib.hid hTs
 have Hpl:=Lib.hid hpl
 have HN:=Lib.hid hN
 have Hwid:=Lib.hid hwid
 clear hs hm hms hkd hown hk1 how hco hOu hWs hTs hrg hpl hN hwid hwn hl1
 go_enter Tryz.func100,Tryz.ntmps100
 go_wp2_with (first
  | (go_at_call 166;(with_reducible refine hNm.mono ?_);rintro e w1 ⟨rfl,hb1⟩)
  | (refine wpList_storeI_new rfl _ _ rfl rfl rfl rfl ?_))
 have hB1:=hB0.ch2 hb1
 have hB3:=hB1.ch2 (one_alloc w1 (Obj.cells #[.int .i64 own.id,.int .i64 own.kn,.int .u8 own.kd,.string own.wa,.int .i64 own.pit,.int .i64 own.ly,.int .i64 own.co,.bool own.ft,.int .i64 own.sh,.int .i64 own.fr,.int .i64 own.tw,.int .i64 own.lo,.int .i64 own.hi,.string own.st,.int .i64 own.li,.int .i64 own.vo] 24))
 have hY3:=alKeep (o':=Obj.cells #[.int .i64 own.id,.int .i64 own.kn,.int .u8 own.kd,.string own.wa,.int .i64 own.pit,.int .i64 own.ly,.int .i64 own.co,.bool own.ft,.int .i64 own.sh,.int .i64 own.fr,.int .i64 own.tw,.int .i64 own.lo,.int .i64 own.hi,.string own.st,.int .i64 own.li,.int .i64 own.vo] 24) ((hb1.block w.heap.size (by omega)).trans hY0)
 have hR3:=alKeep (o':=Obj.cells #[.int .i64 own.id,.int .i64 own.kn,.int .u8 own.kd,.string own.wa,.int .i64 own.pit,.int .i64 own.ly,.int .i64 own.co,.bool own.ft,.int .i64 own.sh,.int .i64 own.fr,.int .i64 own.tw,.int .i64 own.lo,.int .i64 own.hi,.string own.st,.int .i64 own.li,.int .i64 own.vo] 24) ((hb1.block (w.heap.size +1) (by omega)).trans hR0)
 have hI3:=World.alloc_heap_new w1 (Obj.cells #[.int .i64 own.id,.int .i64 own.kn,.int .u8 own.kd,.string own.wa,.int .i64 own.pit,.int .i64 own.ly,.int .i64 own.co,.bool own.ft,.int .i64 own.sh,.int .i64 own.fr,.int .i64 own.tw,.int .i64 own.lo,.int .i64 own.hi,.string own.st,.int .i64 own.li,.int .i64 own.vo] 24)
 have hz1:w1.heap.size<(w1.alloc (Obj.cells #[.int .i64 own.id,.int .i64 own.kn,.int .u8 own.kd,.string own.wa,.int .i64 own.pit,.int .i64 own.ly,.int .i64 own.co,.bool own.ft,.int .i64 own.sh,.int .i64 own.fr,.int .i64 own.tw,.int .i64 own.lo,.int .i64 own.hi,.string own.st,.int .i64 own.li,.int .i64 own.vo] 24)).heap.size:=by simp
 have hz2:=hb1.size
 rw [hz0] at hz2
 clear hNm hb1 hB0 hY0 hR0 p0 p1 p2 p3 p4 p5 pf hB1 hz0
 generalize w1.alloc (Obj.cells #[.int .i64 own.id,.int .i64 own.kn,.int .u8 own.kd,.string own.wa,.int .i64 own.pit,.int .i64 own.ly,.int .i64 own.co,.bool own.ft,.int .i64 own.sh,.int .i64 own.fr,.int .i64 own.tw,.int .i64 own.lo,.int .i64 own.hi,.string own.st,.int .i64 own.li,.int .i64 own.vo] 24)=w3 at *
 generalize w1.heap.size=B1 at *
 clear w1
 apply SLG.rule0 ?hm [] [19,20,21,22,23,24,11] [SL.pu 19 [] (.agg #[.int .i64 own.id,.int .i64 own.kn,.int .u8 own.kd,.string own.wa,.int .i64 own.pit,.int .i64 own.ly,.int .i64 own.co,.bool own.ft,.int .i64 own.sh,.int .i64 own.fr,.int .i64 own.tw,.int .i64 own.lo,.int .i64 own.hi,.string own.st,.int .i64 own.li,.int .i64 own.vo]),SL.row 20 [0] [] w3.heap.size 24 16 1 (ics [own]),SLF.pq 21 [] _,SL.row 22 [1,2] [1] w3.heap.size 24 16 (1 +N) (ics [own] ++ics ms),SL.pu 23 [] (.agg #[.int .i64 y.id,.string y.wa,.int .i64 y.pit,.int .i64 y.ly,.int .i64 y.co,.bool y.ft]),SL.aw 24 [3,4] [] (fun p=>.ex fun v1:Value=>.ex fun v2:Value=>.sep (.pure (p=.agg #[.int .i64 y.co,v1,v2])) (.sep (.row w3.heap.size 69 4 v1 WB.length (bcs WB)) (.row w3.heap.size 69 4 v2 TB.length (bcs TB)))),SL.box 11 [] [] w3.heap.size 52 #[.int .i64 0,.slice none 0 0,.slice none 0 0],SL.aw 11 [5,6] [5,6] (fun p=>.ex fun M:Nat=>.ex fun v1:Value=>.ex fun v2:Value=>.sep (.pure (p=.pointer (some ⟨M,0,none⟩))) (.sep (.blk w3.heap.size M 52 #[.int .i64 y.co,v1,v2]) (.sep (.row w3.heap.size 69 4 v1 WB.length (bcs WB)) (.row w3.heap.size 69 4 v2 TB.length (bcs TB)))))] [7] ?hck ?hkp (fun _=>[]) ?hin ?hdj ?hfr ?ob ?en1
 case hm=>kernel_rfl
 case hin=>exact SL.none_held rfl
 case hdj=>simp
 case hfr=>intro us;simp only [SL.frame,SL.put'];simp;exact rfl
 case ob =>
  refine ⟨?_,?_,?_,?_,?_,?_,?_,?_,trivial⟩
  all_goals first
   | (exact Z7x)
   | skip
  ·refine SLG.ob_sp rfl rfl rfl fun us w' Fe hG hu hd Kx hK=>?_
   try dsimp only
   simp [SL.O] at hu
   have hB5:Below w3.heap.size w3 w':=hG.below'
   obtain ⟨hc5,hf5⟩:=bcell hB5
   have hs5:=hB5.size
   refine SLF.wpo_do (SLF.wanted_free rfl) ?hd ?_
   case hd=>intro c h;cases h
   obtain ⟨⟨y0,y1,y2,y3,y4,y5,y6,y7,y8,y9,y10,y11,y12,y13,y14,y15⟩,yf,yl⟩:=ItmCells.of_heap ((hB5.block B1 hz1).trans hI3)
   exact Z72
  ·refine SLG.ob_sp rfl rfl rfl fun us w' Fe hG hu hd Kx hK=>?_
   try dsimp only
   simp [SL.O] at hu
   have hB5:Below w3.heap.size w3 w':=hG.below'
   obtain ⟨hc5,hf5⟩:=bcell hB5
   have hs5:=hB5.size
   refine SLF.wpo_do (SLF.wanted_free rfl) ?hd ?_
   case hd=>intro c h;cases h
   obtain ⟨e0,_⟩:=hu
   clear hc5 hf5
   go_step
   refine hK _ _ _ [w'.heap.size] Zh (.alloc _ _ _) ⟨⟨rfl,.inr ⟨w'.heap.size,1,#[.int .i64 own.id,.int .i64 own.kn,.int .u8 own.kd,.string own.wa,.int .i64 own.pit,.int .i64 own.ly,.int .i64 own.co,.bool own.ft,.int .i64 own.sh,.int .i64 own.fr,.int .i64 own.tw,.int .i64 own.lo,.int .i64 own.hi,.string own.st,.int .i64 own.li,.int .i64 own.vo],rfl,hs5,World.alloc_heap_new _ _,by omega,by unfold maxLen;omega,rfl,rfl⟩⟩,rfl⟩ ?_
   intro k hk
   simp at hk ⊢
   right
   exact hk ▸ ⟨Nat.le_refl _,by omega⟩
  ·refine SLG.ob_sp rfl rfl rfl fun us w' Fe hG hu hd Kx hK=>?_
   try dsimp only
   simp [SL.O] at hu
   have hB5:Below w3.heap.size w3 w':=hG.below'
   obtain ⟨hc5,hf5⟩:=bcell hB5
   have hs5:=hB5.size
   refine SLF.wpo_do (SLF.wanted_free rfl) ?hd ?_
   case hd=>intro c h;cases h
   obtain ⟨⟨ho1,e1⟩,e2,_⟩:=hu
   obtain ⟨sa,sc,hsl,_⟩:=owns_slice ho1
   have hmw:=((Hm.out.below hB3).below hB5).row
   have hmll:(ics ms).length=N * 16:=by rw [ics_length,HN.out]
   clear hc5 hf5
   refine wp_app elemT _ _ rfl (hsl ▸ ho1) hsl e2 hmw hmll (ics_one _) Z1s (by omega) (by omega) ?_
   intro v' w6 ho6 hg6 hb6 _ hat
   refine hK _ v' w6 _ Zh (.of_own hg6 (fun k e=>by rw [← hsl] at e;simp [SL.row,e1,e])) ⟨ho6,rfl⟩ ?_
   intro k hk
   rcases hat with h | h
   ·left;rw [← hsl] at h;simp [SL.row,e1,← h];simpa using hk
   ·right;rw [h] at hk;simp at hk;subst hk;exact ⟨Nat.le_refl _,by have:=(SL.row_bounds ho6 w'.heap.size (by simp [h])).2;exact this⟩
  ·refine SLG.ob_sp rfl rfl rfl fun us w' Fe hG hu hd Kx hK=>?_
   try dsimp only
   simp [SL.O] at hu
   have hB5:Below w3.heap.size w3 w':=hG.below'
   obtain ⟨hc5,hf5⟩:=bcell hB5
   have hs5:=hB5.size
   refine SLF.wpo_do (SLF.wanted_free rfl) ?hd ?_
   case hd=>intro c h;cases h
   obtain ⟨y0,y1,y2,y3,y4,y5,yf⟩:=cell6 ((hB5.block w.heap.size (by omega)).trans hY3)
   exact Z72
  ·refine SLG.ob_sp rfl rfl rfl fun us w' Fe hG hu hd Kx hK=>?_
   try dsimp only
   simp [SL.O] at hu
   have hB5:Below w3.heap.size w3 w':=hG.below'
   obtain ⟨hc5,hf5⟩:=bcell hB5
   have hs5:=hB5.size
   refine SLF.wpo_do (SLF.wanted_free rfl) ?hd ?_
   case hd=>intro c h;cases h
   obtain ⟨⟨ho3,_⟩,e4,_⟩:=hu
   obtain ⟨sa,sc,hsl,_⟩:=owns_slice ho3
   have hcall:=HOu.out w' sa sc (ItmsAt.of_owns (l:=own::ms) (by rw [hsl] at ho3;exact ho3) (by have:=HN.out;simp;omega) Hwid.out)
   clear hc5 hf5
   go_step
   refine hcall.mono ?_
   rintro e w6 ⟨v1,v2,rfl,hb6,h1,h2⟩
   exact hK _ _ w6 _ Zh (.of_below hb6) (SL.aw_in ⟨v1,v2,[],_,⟨rfl,rfl⟩,⟨_,_,⟨SL.row_base h1 hs5,rfl⟩,⟨SL.row_base h2 hs5,rfl⟩,rfl⟩,rfl⟩) (fun k hk=>by
    right
    simp only [List.nil_append,List.mem_append] at hk
    rcases hk with hk | hk
    ·exact SL.row_bounds h1 k hk
    ·exact SL.row_bounds h2 k hk)
  ·refine SLG.ob_sp rfl rfl rfl fun us w' Fe hG hu hd Kx hK=>?_
   try dsimp only
   simp [SL.O] at hu
   have hB5:Below w3.heap.size w3 w':=hG.below'
   exact Z7m
  ·refine SLG.ob_no rfl rfl rfl fun us w' Fe hG hu hd Kx hK=>?_
   try dsimp only
   simp [SL.O] at hu
   have hB5:Below w3.heap.size w3 w':=hG.below'
   obtain ⟨hc5,hf5⟩:=bcell hB5
   have hs5:=hB5.size
   refine SLF.wpo_do (SLF.wanted_free rfl) ?hd ?_
   case hd=>intro c h;cases h
   obtain ⟨h5,M,e6,hMb,hMh,eF6⟩:=hu
   obtain ⟨v1,v2,F1,F2,⟨e5,rfl⟩,⟨F3,F4,⟨r1,rfl⟩,⟨r2,rfl⟩,rfl⟩,hF5⟩:=SL.aw_out h5
   have hd1:=hd 5 6 Z3m Z3m (by simp)
   obtain ⟨xa,xc,rfl,_⟩:=owns_slice r1
   obtain ⟨ya,yc,rfl,_⟩:=owns_slice r2
   obtain ⟨y0,y1,y2,yf,yl⟩:=cell3s hMh
   have R1:=Lib.hid r1
   have R2:=Lib.hid r2
   have HD:=Lib.hid hd1
   have HF:=Lib.hid hF5
   have HE:=Lib.hid eF6
   clear hc5 hf5 h5 r1 r2 hd1 hF5 eF6
   go_step
   exact sto3_k e6 hMb hMh R1.out R2.out (by simpa using HF.out) HE.out HD.out (fun w1 F h1 h2 h3=>hK w1 F h1 (SL.aw_in h2) h3)
 case hck=>kernel_rfl
 case hkp=>kernel_rfl
 intro us7 w7 Fs7 hG hu hbd hd
 simp [SL.Used,SL.aw_sub] at hu
 obtain ⟨M,v1,v2,F1,F2,⟨e11,rfl⟩,⟨F3,F4,⟨hbM,hMh,rfl⟩,⟨F5,F6,⟨hr1,rfl⟩,⟨hr2,rfl⟩,rfl⟩,rfl⟩,hF⟩:=SL.aw_out hu
 have hB7:Below w3.heap.size w3 w7:=hG.below'
 have hR7:=(hB7.block (w.heap.size +1) (by omega)).trans hR3
 obtain ⟨xa,xc,rfl,_⟩:=owns_slice hr1
 obtain ⟨ya,yc,rfl,_⟩:=owns_slice hr2
 obtain ⟨q0,q1,q2,qf,ql⟩:=cell3s hMh
 have hw1:=BdsAt.of_owns hr1 (by have:=Hpl.out;omega)
 have hw2:=BdsAt.of_owns hr2 (by have:=Hpl.out;omega)
 have HB7:=Lib.hid (hB3.ch2 hB7)
 have hz7:=hB7.size
 rw [e11]
 clear hr1 hr2 hF hu hG hbd hd hB7 e11 hMh hR3 hY3 hI3 hB3 HOu Hm Hwid HN Hpl
 rcases Hkd.out with rfl | rfl
 ·obtain ⟨hP1,hP2⟩:=HPP.out.1 rfl
  have HPf:=Lib.hid (fun v w' h1 h2=>HP.out _ _ v w' hP1 hP2 h1 h2)
  clear hP1 hP2 HPP HP Hkd
  generalize y.co +1=PP at *
  go_wp2_with (go_at_call 39;(with_reducible refine (HWs.out _ xa xc ya yc hw1 hw2).mono ?_);rintro e w8 ⟨v8,rfl,hb8,ho8⟩;obtain ⟨a8,c8,rfl,_⟩:=owns_slice ho8;have hR8:=(hb8.block (w.heap.size +1) (by omega)).trans hR7;obtain ⟨r0,r1,rf,rl⟩:=cell2s hR8)
  have hK:=SLG.heap_set2 hR8 (.int .i64 PP) (.slice a8 WB.length c8)
  have hN:w.heap.size +1 ∉ (Value.slice a8 WB.length c8).ownBlock.toList:=fun hm=>by
   have:=(SL.row_bounds ho8 _ hm).1
   omega
  have hO:=SL.row_base (SLG.row_set2 ho8 hN (.int .i64 PP) (.slice a8 WB.length c8)) (show w.heap.size≤w7.heap.size by omega)
  have hB8:=(HB7.out.ch2 hb8).trans ((SLG.chg_set2 (E:=[w.heap.size +1]) (N:=w.heap.size +1) w8 (by simp) (.int .i64 PP) (.slice a8 WB.length c8)).belowE_w (HB7.out.ch2 hb8).size (by simp))
  obtain ⟨k0,k1,kf,kl⟩:=cell2s hK
  clear hK r0 r1 rf rl hR8 hR7 hb8 ho8 hN q0 q1 q2 qf ql hw1 hw2
  generalize (w8.setCell ⟨w.heap.size +1,0,none⟩ (.int .i64 PP)).setCell ⟨w.heap.size +1,1,none⟩ (.slice a8 WB.length c8)=W at *
  exact bodyPost_ret (v:=.agg #[.int .i64 PP,.slice a8 WB.length c8]) Z4o rfl (HPf.out _ _ hB8 hO)
 ·obtain ⟨hP1,hP2⟩:=HPP.out.2 rfl
  have HPf:=Lib.hid (fun v w' h1 h2=>HP.out _ _ v w' hP1 hP2 h1 h2)
  clear hP1 hP2 HPP HP Hkd
  generalize y.co=PP at *
  go_wp2_with (go_at_call 41;(with_reducible refine (HTs.out _ xa xc ya yc hw1 hw2).mono ?_);rintro e w8 ⟨v8,rfl,hb8,ho8⟩;obtain ⟨a8,c8,rfl,_⟩:=owns_slice ho8;have hR8:=(hb8.block (w.heap.size +1) (by omega)).trans hR7;obtain ⟨r0,r1,rf,rl⟩:=cell2s hR8)
  have hK:=SLG.heap_set2 hR8 (.int .i64 PP) (.slice a8 TB.length c8)
  have hN:w.heap.size +1 ∉ (Value.slice a8 TB.length c8).ownBlock.toList:=fun hm=>by
   have:=(SL.row_bounds ho8 _ hm).1
   omega
  have hO:=SL.row_base (SLG.row_set2 ho8 hN (.int .i64 PP) (.slice a8 TB.length c8)) (show w.heap.size≤w7.heap.size by omega)
  have hB8:=(HB7.out.ch2 hb8).trans ((SLG.chg_set2 (E:=[w.heap.size +1]) (N:=w.heap.size +1) w8 (by simp) (.int .i64 PP) (.slice a8 TB.length c8)).belowE_w (HB7.out.ch2 hb8).size (by simp))
  obtain ⟨k0,k1,kf,kl⟩:=cell2s hK
  clear hK r0 r1 rf rl hR8 hR7 hb8 ho8 hN q0 q1 q2 qf ql hw1 hw2
  generalize (w8.setCell ⟨w.heap.size +1,0,none⟩ (.int .i64 PP)).setCell ⟨w.heap.size +1,1,none⟩ (.slice a8 TB.length c8)=W at *
  exact bodyPost_ret (v:=.agg #[.int .i64 PP,.slice a8 TB.length c8]) Z4o rfl (HPf.out _ _ hB8 hO)
theorem sclash_any (x y:Itm) (w:World):Calls Tryz.prog 127 #[x.v,y.v] w fun e w'=>e=.returned (.bool (clashI x y))∧Below w.heap.size w w':=by
 have hX:=alKeep (o':=Obj.cells #[.int .i64 y.id,.int .i64 y.kn,.int .u8 y.kd,.string y.wa,.int .i64 y.pit,.int .i64 y.ly,.int .i64 y.co,.bool y.ft,.int .i64 y.sh,.int .i64 y.fr,.int .i64 y.tw,.int .i64 y.lo,.int .i64 y.hi,.string y.st,.int .i64 y.li,.int .i64 y.vo] 24) (World.alloc_heap_new w (Obj.cells #[.int .i64 x.id,.int .i64 x.kn,.int .u8 x.kd,.string x.wa,.int .i64 x.pit,.int .i64 x.ly,.int .i64 x.co,.bool x.ft,.int .i64 x.sh,.int .i64 x.fr,.int .i64 x.tw,.int .i64 x.lo,.int .i64 x.hi,.string x.st,.int .i64 x.li,.int .i64 x.vo] 24))
 have hY:=World.alloc_heap_new (w.alloc (Obj.cells #[.int .i64 x.id,.int .i64 x.kn,.int .u8 x.kd,.string x.wa,.int .i64 x.pit,.int .i64 x.ly,.int .i64 x.co,.bool x.ft,.int .i64 x.sh,.int .i64 x.fr,.int .i64 x.tw,.int .i64 x.lo,.int .i64 x.hi,.string x.st,.int .i64 x.li,.int .i64 x.vo] 24)) (Obj.cells #[.int .i64 y.id,.int .i64 y.kn,.int .u8 y.kd,.string y.wa,.int .i64 y.pit,.int .i64 y.ly,.int .i64 y.co,.bool y.ft,.int .i64 y.sh,.int .i64 y.fr,.int .i64 y.tw,.int .i64 y.lo,.int .i64 y.hi,.string y.st,.int .i64 y.li,.int .i64 y.vo] 24)
 rw [World.size_alloc] at hY
 have hB:=(one_alloc w (Obj.cells #[.int .i64 x.id,.int .i64 x.kn,.int .u8 x.kd,.string x.wa,.int .i64 x.pit,.int .i64 x.ly,.int .i64 x.co,.bool x.ft,.int .i64 x.sh,.int .i64 x.fr,.int .i64 x.tw,.int .i64 x.lo,.int .i64 x.hi,.string x.st,.int .i64 x.li,.int .i64 x.vo] 24)).ch2 (one_alloc _ (Obj.cells #[.int .i64 y.id,.int .i64 y.kn,.int .u8 y.kd,.string y.wa,.int .i64 y.pit,.int .i64 y.ly,.int .i64 y.co,.bool y.ft,.int .i64 y.sh,.int .i64 y.fr,.int .i64 y.tw,.int .i64 y.lo,.int .i64 y.hi,.string y.st,.int .i64 y.li,.int .i64 y.vo] 24))
 have x11:=(ItmCells.of_heap hX).1.c11
 have x12:=(ItmCells.of_heap hX).1.c12
 have y11:=(ItmCells.of_heap hY).1.c11
 have y12:=(ItmCells.of_heap hY).1.c12
 have HP:=Lib.hid (show ∀ w' B,clashI x y=B→Below w.heap.size w w'→(fun e w'=>e=Ending.returned (.bool (clashI x y))∧Below w.heap.size w w':Ending→World→Prop) (.returned (.bool B)) w' from fun w' B h1 h2=>⟨by rw [h1],h2⟩)
 generalize (fun e w'=>e=Ending.returned (.bool (clashI x y))∧Below w.heap.size w w':Ending→World→Prop)=Post at *
 simp only [Itm.v,Itm.cs]
 clear hX hY
 by_cases h1:y.hi<x.lo
 ·have d1:decide (y.hi<x.lo)=true:=by simpa using h1
  have HE:=Lib.hid (HP.out _ true (by unfold clashI;rw [d1];rfl) hB)
  exact Z77
 ·have d1:decide (y.hi<x.lo)=false:=by simpa using h1
  have HE:=Lib.hid (HP.out _ (decide (x.hi<y.lo)) (by unfold clashI;rw [d1];rfl) hB)
  exact Z77
theorem simpossible_any (a:Option Addr) (n cap:Nat) (s:List Itm) (kd:Int) (y:Shd) (b:Option Addr) (m cap2:Nat) (ms:List Itm) (own:Itm) (w:World) (hs:ItmsAt w a n cap s) (hl:s.length≤300) (hm:ItmsAt w b m cap2 ms) (hml:ms.length≤299) (hkd:kd=2∨kd=3) (hown:findI s y.id=some own) (hk1:own.kd=1) (how:own.Wide) (hco:3≤y.co∧y.co≤16)
 (hms:∀ x ∈ ms,x.kd=2∨x.kd=3→x.sh=y.id→ -10000≤x.lo∧x.lo≤10000) (hck:chk (sysP kd y.co) (sysB kd y.co (keptL ms kd y.id))=0) :
 Calls Tryz.prog 128 #[.slice a n cap,.int .u8 kd,y.v,.slice b m cap2] w fun e w'=>e=.returned (.bool (!okB (sysP kd y.co) (sysB kd y.co (keptL ms kd y.id))))∧Below w.heap.size w w':=by
 have hB0:=one_alloc w (Obj.cells #[.int .i64 y.id,.string y.wa,.int .i64 y.pit,.int .i64 y.ly,.int .i64 y.co,.bool y.ft] 72)
 have hW:=swith_any a n cap s kd y b m cap2 ms own (w.alloc (Obj.cells #[.int .i64 y.id,.string y.wa,.int .i64 y.pit,.int .i64 y.ly,.int .i64 y.co,.bool y.ft] 72)) (hs.below hB0) hl (hm.below hB0) hml hkd hown hk1 how hco hms
 have hY:=World.alloc_heap_new w (Obj.cells #[.int .i64 y.id,.string y.wa,.int .i64 y.pit,.int .i64 y.ly,.int .i64 y.co,.bool y.ft] 72)
 obtain ⟨p0,p1,p2,p3,p4,p5,pf⟩:=cell6 hY
 generalize sysP kd y.co=P at *
 generalize sysB kd y.co (keptL ms kd y.id)=B at *
 have hlb:=chk_len hck
 have hS:=fun W a1 c1 (h1:BdsAt W a1 B.length c1 B)=>gSolve_any P a1 _ c1 B W h1
 rw [hck] at hS
 simp only [decide_true,Bool.true_and] at hS
 unfold SysPost at hW
 simp only [Shd.v,Shd.cs] at hW ⊢
 generalize okB P B=K at *
 clear hck hY hs hm hms hown hk1 how hco hkd hml hl
 go_enter Tryz.func128,Tryz.ntmps128
 go_wp2_with (first
  | (go_at_call 100;(with_reducible refine hW.mono ?_);rintro e w2 ⟨v2,rfl,hb2,ho2⟩;obtain ⟨a2,c2,rfl,_⟩:=owns_slice ho2;have hq2:=BdsAt.of_owns ho2 (by omega))
  | (go_at_call 153;(with_reducible refine (hS _ a2 c2 hq2).mono ?_);rintro e w3 ⟨v3,rfl,hb3,_,_⟩))
 go_ret
 exact ⟨rfl,(hB0.ch2 hb2).ch2 hb3⟩
end Go.Proofs.YtelkcohhagblaaaGreat
