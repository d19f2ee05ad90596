/- What the functions answer, for every input. -/
import Derived.Test.YtelkcohhagblaaaGreatSe30
set_option linter.unusedSimpArgs false
set_option linter.unusedVariables false
set_option linter.unnecessarySimpa false
namespace Go.Proofs.YtelkcohhagblaaaGreat
open Go.RowKit Go.Shelf
set_option maxHeartbeats 8000000
set_option maxRecDepth 100000
/-- A new list of items, and an error. -/
def RowE (w:World) (E:Int) (xs:List Itm) (e:Ending) (w':World):Prop:=∃ v,e=.returned (.tuple #[v,.int .i64 E])∧Below w.heap.size w w'∧w'.ownsRow w.heap.size 24 16 v xs.length (ics xs)
def apE (l:List Itm) (x:Itm):Int:=if (chkI l).2=0 then refE l x else (chkI l).2
def apL (l:List Itm) (x:Itm):List Itm:=if apE l x=0 then l ++[x] else []
theorem RowE.nil (w w':World) (E:Int) (hb:Below w.heap.size w w'):RowE w E [] (.returned (.tuple #[.slice none 0 0,.int .i64 E])) w':=⟨_,rfl,hb,World.ownsRow_nil _ _ _ _⟩
theorem sAppend_any (x:Itm) (a:Option Addr) (n cap:Nat) (l:List Itm) (w:World) (h:ItmsAt w a n cap l) (hcap:l.length≤cap) (hck:∀ y,(y ∈ l∨y=x)→∀ w1,Calls Tryz.prog 26 #[y.v] w1 (EPost w1 (itemE y))) :
 Calls Tryz.prog 23 #[.slice a n cap,x.v] w (RowE w (apE l x) (apL l x)):=by
 have hsm:=h.small
 have hCh:=fun w1 (h1:ItmsAt w1 a n cap l)=>sCheck_any a n cap l w1 h1 hcap (fun y hy=>hck y (.inl hy))
 have hFo:=fun w1 (h1:ItmsAt w1 a n cap l)=>sfollows_any x a n cap l w1 h1 (hck x (.inr rfl))
 have hCl:=fun w1 (h1:ItmsAt w1 a n cap l) (hl:l.length≤10000)=>cloneT a n cap l w1 h1 hl
 have hR0:refE l x=0→l.length<300:=fun h0=>(refE_zero h0).1
 have hE:apE l x=if (chkI l).2=0 then refE l x else (chkI l).2:=rfl
 have hL:apL l x=if apE l x=0 then l ++[x] else []:=rfl
 have HP:=Lib.hid (show (apE l x≠0→∀ w',Below w.heap.size w w'→RowE w (apE l x) (apL l x) (.returned (.tuple #[.slice none 0 0,.int .i64 (apE l x)])) w')∧(apE l x=0→∀ w' v,Below w.heap.size w w'→w'.ownsRow w.heap.size 24 16 v (l.length +1) (ics l ++x.cs)→RowE w (apE l x) (apL l x) (.returned (.tuple #[v,.int .i64 (apE l x)])) w') from
  ⟨fun h0 w' hb=>by rw [hL,if_neg h0];exact RowE.nil _ _ _ hb,fun h0 w' v hb ho=>by rw [hL,if_pos h0];exact ⟨v,rfl,hb,by rw [List.length_append,ics_append,ics_one1];exact ho⟩⟩)
 generalize RowE w (apE l x) (apL l x)=Post at *
 generalize apE l x=AE at *
 unfold PairI at hCh
 unfold EPost at hFo
 clear hL hck
 generalize (chkI l).1=C1 at *
 generalize (chkI l).2=C2 at *
 generalize refE l x=R at *
 have hB0:=one_alloc w (Obj.cells #[.int .i64 x.id,.int .i64 x.kn,.int .u8 x.kd,.string x.wa,.int .i64 x.pit,.int .i64 x.ly,.int .i64 x.co,.bool x.ft,.int .i64 x.sh,.int .i64 x.fr,.int .i64 x.tw,.int .i64 x.lo,.int .i64 x.hi,.string x.st,.int .i64 x.li,.int .i64 x.vo] 24)
 have hA0:=World.alloc_heap_new w (Obj.cells #[.int .i64 x.id,.int .i64 x.kn,.int .u8 x.kd,.string x.wa,.int .i64 x.pit,.int .i64 x.ly,.int .i64 x.co,.bool x.ft,.int .i64 x.sh,.int .i64 x.fr,.int .i64 x.tw,.int .i64 x.lo,.int .i64 x.hi,.string x.st,.int .i64 x.li,.int .i64 x.vo] 24)
 simp only [Itm.v,Itm.cs] at hFo ⊢
 by_cases h1:C2=0
 ·subst h1
  rw [if_pos rfl] at hE
  subst hE
  by_cases h2:AE=0
  ·subst h2
   have hP:=Lib.hid (HP.out.2 rfl)
   have hl:=hR0 rfl
   clear HP hR0
   go_enter Tryz.func23,Tryz.ntmps23
   go_wp2_with (first
    | (go_at_call 21;(with_reducible refine (hCh _ (h.below hB0)).mono ?_);rintro e w1 ⟨rfl,hb1⟩;obtain ⟨⟨y0,y1,y2,y3,y4,y5,y6,y7,y8,y9,y10,y11,y12,y13,y14,y15⟩,_,_⟩:=ItmCells.of_heap ((hb1.block w.heap.size (by simp)).trans hA0))
    | (go_at_call 73;(with_reducible refine (hFo _ ((h.below hB0).below hb1)).mono ?_);rintro e w2 ⟨rfl,hb2⟩))
   have hB2:=(hB0.ch2 hb1).ch2 hb2
   have hX2:=(hb2.block w.heap.size (lt_size hb1 (by simp))).trans ((hb1.block w.heap.size (by simp)).trans hA0)
   have h2:=h.below hB2
   have zX:=(Array.getElem?_eq_some_iff.1 hX2).1
   have HX:=Lib.hid hX2
   clear hb1 hb2 hX2 hA0 hCh hFo h y0 y1 y2 y3 y4 y5 y6 y7 y8 y9 y10 y11 y12 y13 y14 y15
   apply SLG.rule0 ?hm [] [23,24,25,26,27,4,5] [SLF.pq 23 [] _,SL.row 24 [0] [] w2.heap.size 24 16 l.length (ics l),SL.pu 25 [] (.agg #[.int .i64 x.id,.int .i64 x.kn,.int .u8 x.kd,.string x.wa,.int .i64 x.pit,.int .i64 x.ly,.int .i64 x.co,.bool x.ft,.int .i64 x.sh,.int .i64 x.fr,.int .i64 x.tw,.int .i64 x.lo,.int .i64 x.hi,.string x.st,.int .i64 x.li,.int .i64 x.vo]),SL.aw 26 [2] [] (fun v=>.ex fun N:Nat=>.sep (.pure (v=.slice (some ⟨N,0,none⟩) 1 1)) (.blk w2.heap.size N 24 x.cs.toArray)),SL.row 27 [1,3] [1] w2.heap.size 24 16 (l.length +1) (ics l ++x.cs),SL.row 4 [4] [4] w2.heap.size 24 16 (l.length +1) (ics l ++x.cs),SLF.pq 5 [] _] [5,6] ?hck ?hkp (fun _=>[]) ?hin ?hdj ?hfr ?ob ?en1
   case hm=>kernel_rfl
   case hin=>exact SL.none_held rfl
   case hdj=>simp
   case hfr=>intro us;simp only [SL.frame,SL.put'];simp;exact rfl
   case ob =>
    refine ⟨?_,?_,?_,?_,?_,?_,?_,trivial⟩
    all_goals first
     | (intro us w' Fe hG hu hd hv Kx hK
        try dsimp only
        simp [SL.O] at hu hK
        have hB5:Below w2.heap.size w2 w':=hG.below'
        exact Z7r)
     | skip
    ·refine SLG.ob_sp rfl rfl rfl fun us w' Fe hG hu hd Kx hK=>?_
     try dsimp only
     simp [SL.O] at hu
     have hB5:Below w2.heap.size w2 w':=hG.below'
     obtain ⟨hc5,hf5⟩:=bcell hB5
     have hs5:=hB5.size
     refine SLF.wpo_do (SLF.wanted_free rfl) ?hd ?_
     case hd=>intro c h;cases h
     obtain ⟨e0,_⟩:=hu
     have hcc:=hCl w' (h2.below hB5) (by omega)
     clear hc5 hf5 hCl
     go_step
     refine hcc.mono ?_
     rintro e w6 ⟨v,rfl,hb6,ho6⟩
     exact hK _ v w6 _ Zh (.of_below hb6) ⟨SL.row_base ho6 hs5,rfl⟩ (fun k hk=>.inr (SL.row_bounds ho6 k hk))
    ·refine SLG.ob_sp rfl rfl rfl fun us w' Fe hG hu hd Kx hK=>?_
     try dsimp only
     simp [SL.O] at hu
     have hB5:Below w2.heap.size w2 w':=hG.below'
     obtain ⟨hc5,hf5⟩:=bcell hB5
     have hs5:=hB5.size
     refine SLF.wpo_do (SLF.wanted_free rfl) ?hd ?_
     case hd=>intro c h;cases h
     clear hu
     obtain ⟨⟨y0,y1,y2,y3,y4,y5,y6,y7,y8,y9,y10,y11,y12,y13,y14,y15⟩,yf,yl⟩:=ItmCells.of_heap ((hG.block _ zX (by simp)).trans HX.out)
     clear hc5 hf5 hCl
     go_step
     exact Z8
    ·refine SLG.ob_sp rfl rfl rfl fun us w' Fe hG hu hd Kx hK=>?_
     try dsimp only
     simp [SL.O] at hu
     have hB5:Below w2.heap.size w2 w':=hG.below'
     obtain ⟨hc5,hf5⟩:=bcell hB5
     have hs5:=hB5.size
     refine SLF.wpo_do (SLF.wanted_free rfl) ?hd ?_
     case hd=>intro c h;cases h
     obtain ⟨e2,_⟩:=hu
     clear hc5 hf5 hCl
     exact Z6r
    ·refine SLG.ob_sp rfl rfl rfl fun us w' Fe hG hu hd Kx hK=>?_
     try dsimp only
     simp [SL.O] at hu
     have hB5:Below w2.heap.size w2 w':=hG.below'
     obtain ⟨hc5,hf5⟩:=bcell hB5
     have hs5:=hB5.size
     refine SLF.wpo_do (SLF.wanted_free rfl) ?hd ?_
     case hd=>intro c h;cases h
     obtain ⟨⟨ho,e1⟩,hu3⟩:=hu
     obtain ⟨N,F1,F2,⟨hx,rfl⟩,⟨hN,hbl,rfl⟩,hF⟩:=SL.aw_out hu3
     clear hc5 hf5 hCl
     refine wp_app elemT _ _ rfl ho rfl hx (RowAt.of_heap hbl) (by rfl) (fun u hu=>ics_one [x] u Z3w) Z1s (by omega) (by omega) ?_
     intro v' w6 ho6 hg6 hb6 _ hat
     refine hK _ v' w6 _ Zh (.of_own hg6 (fun k e=>by simp [SL.row,e1,e])) ⟨ho6,rfl⟩ ?_
     intro k hk
     simp [SL.row,e1] at hk ⊢
     exact Z1a
    ·refine SLG.ob_sp rfl rfl rfl fun us w' Fe hG hu hd Kx hK=>?_
     try dsimp only
     simp [SL.O] at hu
     have hB5:Below w2.heap.size w2 w':=hG.below'
     obtain ⟨hc5,hf5⟩:=bcell hB5
     have hs5:=hB5.size
     refine SLF.wpo_do (SLF.wanted_free rfl) ?hd ?_
     case hd=>intro c h;cases h
     obtain ⟨ho,e4⟩:=hu
     clear hc5 hf5 hCl
     go_step
     exact hK _ _ _ _ Zh (SL.Chg.refl _ _) ⟨ho,rfl⟩ (fun k hk=>.inl (by simp [SL.row,e4] at hk ⊢;exact hk))
   case hck=>kernel_rfl
   case hkp=>kernel_rfl
   intro us w7 Fs hG hu hbd hd
   simp [SL.Used,SL.row,SLF.pq] at hu
   obtain ⟨⟨ho7,_⟩,h5,_⟩:=hu
   rw [h5]
   obtain ⟨va,vc,hv,_⟩:=owns_slice ho7
   have hB7:=hB2.ch2 (hG.below':Below w2.heap.size w2 w7)
   have HO:=Lib.hid (SL.row_base ho7 hB2.size)
   clear hG hbd hd ho7
   go_wp2_with fail
   exact hP.out _ _ hB7 HO.out
  ·have e2:(AE != 0)=true:=by simpa using h2
   have hP:=Lib.hid (HP.out.1 h2)
   clear h2 HP hR0 hCl
   go_enter Tryz.func23,Tryz.ntmps23
   go_wp2_with (first
    | (go_at_call 21;(with_reducible refine (hCh _ (h.below hB0)).mono ?_);rintro e w1 ⟨rfl,hb1⟩;obtain ⟨⟨y0,y1,y2,y3,y4,y5,y6,y7,y8,y9,y10,y11,y12,y13,y14,y15⟩,_,_⟩:=ItmCells.of_heap ((hb1.block w.heap.size (by simp)).trans hA0))
    | (go_at_call 73;(with_reducible refine (hFo _ ((h.below hB0).below hb1)).mono ?_);rintro e w2 ⟨rfl,hb2⟩))
   exact hP.out _ ((hB0.ch2 hb1).ch2 hb2)
 ·have e2:(C2 != 0)=true:=by simpa using h1
  rw [if_neg h1] at hE
  subst hE
  have hP:=Lib.hid (HP.out.1 h1)
  clear h1 HP hR0 hCl hFo
  go_enter Tryz.func23,Tryz.ntmps23
  go_wp2_with (go_at_call 21;(with_reducible refine (hCh _ (h.below hB0)).mono ?_);rintro e w1 ⟨rfl,hb1⟩)
  exact hP.out _ (hB0.ch2 hb1)
end Go.Proofs.YtelkcohhagblaaaGreat
