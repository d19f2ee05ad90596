/- What the functions answer, for every input. -/
import Derived.Test.YtelkcohhagblaaaGreatSe13
import Derived.Test.YtelkcohhagblaaaGreatSe11
set_option linter.unusedSimpArgs false
set_option linter.unusedVariables false
set_option linter.unnecessarySimpa false
namespace Go.Proofs.YtelkcohhagblaaaGreat
open Go.RowKit Go.Shelf
set_option maxHeartbeats 8000000
set_option maxRecDepth 100000
theorem kindB_out {x:Itm} (h:¬ (1≤x.kd∧x.kd≤7)):kindB x=false:=by
 unfold kindB
 repeat (rw [if_neg (by omega)])
theorem form_put (x:Itm) (h:1≤x.kd):∃ y:Itm,{ x.form with id:=0,kn:=0,kd:=0 }=y∧x.form=⟨x.id,x.kn,x.kd,y.wa,y.pit,y.ly,y.co,y.ft,y.sh,y.fr,y.tw,y.lo,y.hi,y.st,y.li,y.vo⟩∧y.id=0∧y.kn=0∧y.kd=0:=by
 refine ⟨_,rfl,?_,rfl,rfl,rfl⟩
 unfold Itm.form
 repeat' split
 all_goals rfl
theorem form_get {w':World} {f1 f2 f3 f4 f5 f6 f7:Nat} {c1 c2 c3 c4 c5 c6 c7:Array Value} (h1:FormAt w' 1 f1 c1) (h2:FormAt w' 2 f2 c2) (h3:FormAt w' 3 f3 c3) (h4:FormAt w' 4 f4 c4) (h5:FormAt w' 5 f5 c5) (h6:FormAt w' 6 f6 c6) (h7:FormAt w' 7 f7 c7) (k:Nat) (hk:1≤k) (k7:k≤7) :
 ∃ F caps,(#[Value.nilFunc,.func (.func f1) #[] c1,.func (.func f2) #[] c2,.func (.func f3) #[] c3,.func (.func f4) #[] c4,.func (.func f5) #[] c5,.func (.func f6) #[] c6,.func (.func f7) #[] c7]:Array Value)[k]?=some (.func (.func F) #[] caps)∧FormAt w' k F caps:=by
 obtain rfl | rfl | rfl | rfl | rfl | rfl | rfl:k=1∨k=2∨k=3∨k=4∨k=5∨k=6∨k=7:=by omega
 ·exact ⟨_,_,rfl,h1⟩
 ·exact ⟨_,_,rfl,h2⟩
 ·exact ⟨_,_,rfl,h3⟩
 ·exact ⟨_,_,rfl,h4⟩
 ·exact ⟨_,_,rfl,h5⟩
 ·exact ⟨_,_,rfl,h6⟩
 ·exact ⟨_,_,rfl,h7⟩
theorem chg_eq {E E':List Nat} {w w':World} (h:E=E') (c:SL.Chg E w w'):SL.Chg E' w w':=h ▸ c
theorem itemE_eq (x:Itm):itemE x=if headI x=true∧kindB x=true∧eqI x x.form=true then 0 else 1:=by
 unfold itemE itemB
 cases headI x <;> cases kindB x <;> cases eqI x x.form <;> rfl
theorem sCheckItem_in (id kn:Int) (k:Nat) (wa:ByteArray) (pit ly co:Int) (ft:Bool) (sh fr tw lo hi:Int) (st:ByteArray) (li vo:Int) (hk1:1≤k) (hk7:k≤7) (hwa:wa.size≤maxLen) (hst:st.size≤maxLen) (w:World) (g1:rngB id 1 1000000=true) (g2:rngB kn 0 100000=true)
 (hFm:∀ w1,Calls Tryz.prog 76 #[] w1 (FormPost w1)):Calls Tryz.prog 26 #[Itm.v ⟨id,kn,k,wa,pit,ly,co,ft,sh,fr,tw,lo,hi,st,li,vo⟩] w (EPost w (itemE ⟨id,kn,k,wa,pit,ly,co,ft,sh,fr,tw,lo,hi,st,li,vo⟩)):=by
 have hId:=fun w1=>sin_any id 1 1000000 w1
 have hKn:=fun w1=>sin_any kn 0 100000 w1
 rw [g1] at hId
 rw [g2] at hKn
 have hE:=itemE_eq ⟨id,kn,k,wa,pit,ly,co,ft,sh,fr,tw,lo,hi,st,li,vo⟩
 unfold headI at hE
 simp only [g1,g2,Bool.and_self,true_and] at hE
 obtain ⟨y,hy,hform,hy0,hy1,hy2⟩:=form_put ⟨id,kn,k,wa,pit,ly,co,ft,sh,fr,tw,lo,hi,st,li,vo⟩ (by simp only;omega)
 clear hy0 hy1 hy2
 rw [hform] at hE
 have hne:=neqI_run ⟨id,kn,k,wa,pit,ly,co,ft,sh,fr,tw,lo,hi,st,li,vo⟩ ⟨id,kn,k,y.wa,y.pit,y.ly,y.co,y.ft,y.sh,y.fr,y.tw,y.lo,y.hi,y.st,y.li,y.vo⟩
 simp only [Itm.v,Itm.cs] at hne
 simp only at hE hne
 generalize eqI ⟨id,kn,k,wa,pit,ly,co,ft,sh,fr,tw,lo,hi,st,li,vo⟩ ⟨id,kn,k,y.wa,y.pit,y.ly,y.co,y.ft,y.sh,y.fr,y.tw,y.lo,y.hi,y.st,y.li,y.vo⟩=TT at *
 have HP:=Lib.hid (show ∀ v w',Below w.heap.size w w'→itemE ⟨id,kn,k,wa,pit,ly,co,ft,sh,fr,tw,lo,hi,st,li,vo⟩=v→EPost w (itemE ⟨id,kn,k,wa,pit,ly,co,ft,sh,fr,tw,lo,hi,st,li,vo⟩) (.returned (.int .i64 v)) w' from fun v w' h1 h2=>⟨by rw [h2],h1⟩)
 generalize EPost w (itemE ⟨id,kn,k,wa,pit,ly,co,ft,sh,fr,tw,lo,hi,st,li,vo⟩)=Post at *
 rw [hE] at HP
 clear hE hform
 have hsay:=fun (W:World) F caps (h:FormAt W k F caps)=>h.says ⟨id,kn,k,wa,pit,ly,co,ft,sh,fr,tw,lo,hi,st,li,vo⟩ rfl hwa hst
 rw [hy] at hsay
 clear hy
 generalize kindB ⟨id,kn,k,wa,pit,ly,co,ft,sh,fr,tw,lo,hi,st,li,vo⟩=K at *
 simp only [Itm.v,Itm.cs] at hsay
 have Hsay:=Lib.hid hsay
 have HNE:=Lib.hid hne
 clear hsay g1 g2 hne
 have e1:decide ((k:Int)<1)=false:=by simp;omega
 have e2:decide ((8:Int)≤(k:Int))=false:=by simp;omega
 simp only [Itm.v,Itm.cs]
 go_enter Tryz.func26,Tryz.ntmps26
 go_wp2_with (first
  | (go_at_call 76;(with_reducible refine (hFm _).mono ?_);rintro e w1 ⟨f1,f2,f3,f4,f5,f6,f7,k1,k2,k3,k4,k5,k6,k7,rfl,hb1,F1,F2,F3,F4,F5,F6,F7⟩;have HF:=Lib.hid (form_get F1 F2 F3 F4 F5 F6 F7);clear F1 F2 F3 F4 F5 F6 F7;obtain ⟨hc1,hf1⟩:=bcell hb1;have hzX:=lt_size hb1 (b:=w.heap.size) Z9)
  | (go_at_call 77;(with_reducible refine (hId _).mono ?_);rintro e w2 ⟨rfl,rfl⟩)
  | (go_at_call 77;(with_reducible refine (hKn _).mono ?_);rintro e w2 ⟨rfl,rfl⟩))
 obtain ⟨F,caps,hL,hFa⟩:=HF.out k hk1 hk7
 have hX1:=(hb1.block w.heap.size (by simp)).trans (World.alloc_heap_new w (Obj.cells #[.int .i64 id,.int .i64 kn,.int .u8 k,.string wa,.int .i64 pit,.int .i64 ly,.int .i64 co,.bool ft,.int .i64 sh,.int .i64 fr,.int .i64 tw,.int .i64 lo,.int .i64 hi,.string st,.int .i64 li,.int .i64 vo] 24))
 have hB1:Below w.heap.size w w1:=(one_alloc w (Obj.cells #[.int .i64 id,.int .i64 kn,.int .u8 k,.string wa,.int .i64 pit,.int .i64 ly,.int .i64 co,.bool ft,.int .i64 sh,.int .i64 fr,.int .i64 tw,.int .i64 lo,.int .i64 hi,.string st,.int .i64 li,.int .i64 vo] 24)).ch2 hb1
 have hent:=hFa.ent
 have hcl:=Hsay.out _ F caps hFa
 clear HF hb1 hc1 hf1 hId hKn hFm hFa Hsay
 have hA:=World.alloc_heap_new w1 (Obj.cells #[Value.nilFunc,.func (.func f1) #[] k1,.func (.func f2) #[] k2,.func (.func f3) #[] k3,.func (.func f4) #[] k4,.func (.func f5) #[] k5,.func (.func f6) #[] k6,.func (.func f7) #[] k7] 110)
 have hX4:=alKeep (o':=Obj.cells #[Value.nilFunc,.func (.func f1) #[] k1,.func (.func f2) #[] k2,.func (.func f3) #[] k3,.func (.func f4) #[] k4,.func (.func f5) #[] k5,.func (.func f6) #[] k6,.func (.func f7) #[] k7] 110) hX1
 have hB4:=hB1.ch2 (one_alloc w1 (Obj.cells #[Value.nilFunc,.func (.func f1) #[] k1,.func (.func f2) #[] k2,.func (.func f3) #[] k3,.func (.func f4) #[] k4,.func (.func f5) #[] k5,.func (.func f6) #[] k6,.func (.func f7) #[] k7] 110))
 have hB14:=one_alloc w1 (Obj.cells #[Value.nilFunc,.func (.func f1) #[] k1,.func (.func f2) #[] k2,.func (.func f3) #[] k3,.func (.func f4) #[] k4,.func (.func f5) #[] k5,.func (.func f6) #[] k6,.func (.func f7) #[] k7] 110)
 generalize w1.alloc (Obj.cells #[Value.nilFunc,.func (.func f1) #[] k1,.func (.func f2) #[] k2,.func (.func f3) #[] k3,.func (.func f4) #[] k4,.func (.func f5) #[] k5,.func (.func f6) #[] k6,.func (.func f7) #[] k7] 110)=w4 at *
 have zA:=(Array.getElem?_eq_some_iff.1 hA).1
 have zX:=(Array.getElem?_eq_some_iff.1 hX4).1
 have ca:=((SL.cells_of hA).1 k).trans hL
 have cx:=(ItmCells.of_heap (x:=⟨id,kn,k,wa,pit,ly,co,ft,sh,fr,tw,lo,hi,st,li,vo⟩) hX4).1.c2
 simp only at cx
 have hcl2:=fun W (h:Below w4.heap.size w4 W)=>hcl W (hB14.ch2 h)
 clear hcl hB14 hB1
 generalize w1.heap.size=A at *
 have HX4:=Lib.hid hX4
 have i0:(0:Int)≤(k:Int):=by omega
 have i1:(k:Int)<8:=by omega
 clear hX1 hA hX4 hL
 apply SLG.rule0 ?hm [] [29,30,31,32,33,34,28,35,36,4,5] [SLF.pq 29 [] _,SLF.pq 30 [0] _,SLF.pq 31 [1] _,SLF.pq 32 [2] _,SL.pu 33 [] (.agg #[.int .i64 id,.int .i64 kn,.int .u8 k,.string wa,.int .i64 pit,.int .i64 ly,.int .i64 co,.bool ft,.int .i64 sh,.int .i64 fr,.int .i64 tw,.int .i64 lo,.int .i64 hi,.string st,.int .i64 li,.int .i64 vo]),SL.pu 34 [3,4] (.tuple #[.agg #[.int .i64 y.id,.int .i64 y.kn,.int .u8 y.kd,.string y.wa,.int .i64 y.pit,.int .i64 y.ly,.int .i64 y.co,.bool y.ft,.int .i64 y.sh,.int .i64 y.fr,.int .i64 y.tw,.int .i64 y.lo,.int .i64 y.hi,.string y.st,.int .i64 y.li,.int .i64 y.vo],.bool K]),SLF.pq 28 [5] _,SLF.pq 35 [6] _,SLF.pq 36 [6] _,SL.aw 4 [] [] (fun x=>.ex fun N:Nat=>.sep (.pure (x=.pointer (some ⟨N,0,none⟩))) (.blk w4.heap.size N 24 #[.int .i64 0,.int .i64 0,.int .u8 0,.string ⟨#[]⟩,.int .i64 0,.int .i64 0,.int .i64 0,.bool false,.int .i64 0,.int .i64 0,.int .i64 0,.int .i64 0,.int .i64 0,.string ⟨#[]⟩,.int .i64 0,.int .i64 0])),SL.aw 4 [7,9] [9] (fun x=>.ex fun N:Nat=>.sep (.pure (x=.pointer (some ⟨N,0,none⟩))) (.blk w4.heap.size N 24 #[.int .i64 y.id,.int .i64 y.kn,.int .u8 y.kd,.string y.wa,.int .i64 y.pit,.int .i64 y.ly,.int .i64 y.co,.bool y.ft,.int .i64 y.sh,.int .i64 y.fr,.int .i64 y.tw,.int .i64 y.lo,.int .i64 y.hi,.string y.st,.int .i64 y.li,.int .i64 y.vo])),SL.pu 5 [8] (.bool K)] [10,11] ?hck ?hkp (fun _=>[]) ?hin ?hdj ?hfr ?ob ?en1
 case hm=>kernel_rfl
 case hin=>exact SL.none_held rfl
 case hdj=>simp
 case hfr=>intro us;simp only [SL.frame,SL.put'];simp;exact rfl
 case ob =>
  refine ⟨?_,?_,?_,?_,?_,?_,?_,?_,?_,?_,?_,?_,trivial⟩
  all_goals first
   | (intro us w' Fe hG hu hd hv Kx hK
      try dsimp only
      simp [SL.O] at hu hK
      have hB5:Below w4.heap.size w4 w':=hG.below'
      obtain ⟨hc5,hf5⟩:=bcell hB5
      have hs5:=hB5.size
      have p2:=(hc5 w.heap.size (0 +2) zX).trans cx;have p3:=(hc5 A k zA).trans ca
      clear hv hG
      exact Z5z)
   | skip
  ·refine SLG.ob_sp rfl rfl rfl fun us w' Fe hG hu hd Kx hK=>?_
   try dsimp only
   simp [SL.O] at hu
   have hB5:Below w4.heap.size w4 w':=hG.below'
   obtain ⟨hc5,hf5⟩:=bcell hB5
   have hs5:=hB5.size
   have p2:=(hc5 w.heap.size (0 +2) zX).trans cx;have p3:=(hc5 A k zA).trans ca
   refine SLF.wpo_do (SLF.wanted_free rfl) ?hd ?_
   case hd=>intro c h;cases h
   clear hu
   obtain ⟨⟨y0,y1,y2,y3,y4,y5,y6,y7,y8,y9,y10,y11,y12,y13,y14,y15⟩,yf,yl⟩:=ItmCells.of_heap (x:=⟨id,kn,k,wa,pit,ly,co,ft,sh,fr,tw,lo,hi,st,li,vo⟩) ((hG.block _ zX (by simp)).trans HX4.out)
   simp only at y0 y1 y2 y3 y4 y5 y6 y7 y8 y9 y10 y11 y12 y13 y14 y15
   clear p2 p3 hc5 hf5
   go_step
   exact Z8
  ·refine SLG.ob_sp rfl rfl rfl fun us w' Fe hG hu hd Kx hK=>?_
   try dsimp only
   simp [SL.O] at hu
   have hB5:Below w4.heap.size w4 w':=hG.below'
   obtain ⟨hc5,hf5⟩:=bcell hB5
   have hs5:=hB5.size
   have p2:=(hc5 w.heap.size (0 +2) zX).trans cx;have p3:=(hc5 A k zA).trans ca
   refine SLF.wpo_do (SLF.wanted_free rfl) ?hd ?_
   case hd=>intro c h;cases h
   obtain ⟨⟨q1,_⟩,q2,_⟩:=hu
   have hcc:=hcl2 w' hB5
   clear p2 p3 hcl2 hc5 hf5
   exact Z7e
  ·refine SLG.ob_sp rfl rfl rfl fun us w' Fe hG hu hd Kx hK=>?_
   try dsimp only
   simp [SL.O] at hu
   have hB5:Below w4.heap.size w4 w':=hG.below'
   obtain ⟨hc5,hf5⟩:=bcell hB5
   have hs5:=hB5.size
   have p2:=(hc5 w.heap.size (0 +2) zX).trans cx;have p3:=(hc5 A k zA).trans ca
   refine SLF.wpo_do (SLF.wanted_free rfl) ?hd ?_
   case hd=>intro c h;cases h
   exact Z6r
  ·refine SLG.ob_no rfl rfl rfl fun us w' Fe hG hu hd Kx hK=>?_
   try dsimp only
   simp [SL.O] at hu
   have hB5:Below w4.heap.size w4 w':=hG.below'
   obtain ⟨hc5,hf5⟩:=bcell hB5
   have hs5:=hB5.size
   have p2:=(hc5 w.heap.size (0 +2) zX).trans cx;have p3:=(hc5 A k zA).trans ca
   refine SLF.wpo_do (SLF.wanted_free rfl) ?hd ?_
   case hd=>intro c h;cases h
   obtain ⟨⟨e7,_⟩,h9⟩:=hu
   obtain ⟨N,F1,F2,⟨hx,rfl⟩,⟨hN,hbl,rfl⟩,hF⟩:=SL.aw_out h9
   obtain ⟨⟨y0,y1,y2,y3,y4,y5,y6,y7,y8,y9,y10,y11,y12,y13,y14,y15⟩,yf,yl⟩:=ItmCells.of_heap (x:=Itm.zero) hbl
   simp only [Itm.zero] at y0 y1 y2 y3 y4 y5 y6 y7 y8 y9 y10 y11 y12 y13 y14 y15
   have HB:=Lib.hid hbl
   clear hbl p2 p3 hcl2 hc5 hf5
   go_step
   obtain ⟨qA,qC⟩:=sixteen (v0:=.int .i64 y.id) (v1:=.int .i64 y.kn) (v2:=.int .u8 y.kd) (v3:=.string y.wa) (v4:=.int .i64 y.pit) (v5:=.int .i64 y.ly) (v6:=.int .i64 y.co) (v7:=.bool y.ft) (v8:=.int .i64 y.sh) (v9:=.int .i64 y.fr) (v10:=.int .i64 y.tw) (v11:=.int .i64 y.lo) (v12:=.int .i64 y.hi) (v13:=.string y.st) (v14:=.int .i64 y.li) (v15:=.int .i64 y.vo) HB.out
   refine hK _ _ (chg_eq (by simp [SL.aw_eat,hF]) qC) (SL.aw_in ⟨N,_,_,⟨hx,rfl⟩,⟨hN,qA,rfl⟩,rfl⟩) ?_
   intro z hz
   left
   simpa [SL.aw_eat,hF] using hz
  ·refine SLG.ob_sp rfl rfl rfl fun us w' Fe hG hu hd Kx hK=>?_
   try dsimp only
   simp [SL.O] at hu
   have hB5:Below w4.heap.size w4 w':=hG.below'
   obtain ⟨hc5,hf5⟩:=bcell hB5
   have hs5:=hB5.size
   have p2:=(hc5 w.heap.size (0 +2) zX).trans cx;have p3:=(hc5 A k zA).trans ca
   exact Z7
 case hck=>kernel_rfl
 case hkp=>kernel_rfl
 intro us w7 Fs hG hu hbd hd
 simp [SL.Used,SL.pu,SL.aw_sub] at hu
 obtain ⟨h10,e11,_⟩:=hu
 obtain ⟨N,F1,F2,⟨hx4,rfl⟩,⟨hN,hbl,rfl⟩,hF⟩:=SL.aw_out h10
 have hB7:Below w4.heap.size w4 w7:=hG.below'
 have hX7:=(hB7.block _ zX).trans HX4.out
 have HBW:=Lib.hid (hB4.ch2 hB7)
 have hNw:w.heap.size<N:=by omega
 simp only [hx4,e11]
 clear hG hbd hd hcl2 hent ca cx HX4 hB7 hB4 h10 hF hx4 e11 zA i0 i1
 as_aux_lemma =>
 have zN:=(Array.getElem?_eq_some_iff.1 hbl).1
 have zX7:=(Array.getElem?_eq_some_iff.1 hX7).1
 have d0:=(ItmCells.of_heap (x:=⟨id,kn,k,wa,pit,ly,co,ft,sh,fr,tw,lo,hi,st,li,vo⟩) hX7).1.c0
 have d1:=(ItmCells.of_heap (x:=⟨id,kn,k,wa,pit,ly,co,ft,sh,fr,tw,lo,hi,st,li,vo⟩) hX7).1.c1
 have d2:=(ItmCells.of_heap (x:=⟨id,kn,k,wa,pit,ly,co,ft,sh,fr,tw,lo,hi,st,li,vo⟩) hX7).1.c2
 simp only at d0 d1 d2
 have HX7:=Lib.hid hX7
 clear hX7
 go_wp2_with fail
 apply SLG.rule0 ?hm [N] [37,38,39,40,41,42,43,44,45] [SLF.pq 37 [] _,SLF.pq 38 [0] _,SLF.pq 39 [] _,SLF.pq 40 [2] _,SLF.pq 41 [] _,SLF.pq 42 [4] _,SLF.pq 43 [] _,SL.boxAt 4 [1,6,12] [12] N 24 #[.int .i64 id,.int .i64 y.kn,.int .u8 y.kd,.string y.wa,.int .i64 y.pit,.int .i64 y.ly,.int .i64 y.co,.bool y.ft,.int .i64 y.sh,.int .i64 y.fr,.int .i64 y.tw,.int .i64 y.lo,.int .i64 y.hi,.string y.st,.int .i64 y.li,.int .i64 y.vo],SLF.pq 44 [] _,SL.boxAt 4 [3,7,8] [7] N 24 #[.int .i64 id,.int .i64 kn,.int .u8 y.kd,.string y.wa,.int .i64 y.pit,.int .i64 y.ly,.int .i64 y.co,.bool y.ft,.int .i64 y.sh,.int .i64 y.fr,.int .i64 y.tw,.int .i64 y.lo,.int .i64 y.hi,.string y.st,.int .i64 y.li,.int .i64 y.vo],SLF.pq 45 [] _,SL.boxAt 4 [5,9,10] [9] N 24 #[.int .i64 id,.int .i64 kn,.int .u8 k,.string y.wa,.int .i64 y.pit,.int .i64 y.ly,.int .i64 y.co,.bool y.ft,.int .i64 y.sh,.int .i64 y.fr,.int .i64 y.tw,.int .i64 y.lo,.int .i64 y.hi,.string y.st,.int .i64 y.li,.int .i64 y.vo],SL.boxAt 4 [] [] N 24 #[.int .i64 y.id,.int .i64 y.kn,.int .u8 y.kd,.string y.wa,.int .i64 y.pit,.int .i64 y.ly,.int .i64 y.co,.bool y.ft,.int .i64 y.sh,.int .i64 y.fr,.int .i64 y.tw,.int .i64 y.lo,.int .i64 y.hi,.string y.st,.int .i64 y.li,.int .i64 y.vo]] [11] ?hck ?hkp (fun i=>if i=12 then [N] else []) ?hin ?hdj ?hfr ?ob ?en2
 case hm=>kernel_rfl
 case hin=>exact SL.one_held rfl rfl ⟨rfl,hbl,rfl⟩ zN
 case hdj=>exact SL.one_apart
 case hfr=>intro us;simp only [SL.frame,SL.put'];simp;exact rfl
 case ob =>
  refine ⟨?_,?_,?_,?_,?_,?_,?_,?_,?_,?_,?_,?_,trivial⟩
  all_goals first
   | (intro us w' Fe hG hu hd hv Kx hK
      try dsimp only
      simp [SL.O] at hu hK
      have hB5:Below w.heap.size w w':=HBW.out.trans (hG.belowF HBW.out.size Zj)
      obtain ⟨hc5,hf5⟩:=bcell hB5
      have hs5:=hB5.size
      obtain ⟨hc6,hf6⟩:=hG.cellsF;have p0:=(hc6 w.heap.size (0 +0) zX7 Zj).trans d0;have p1:=(hc6 w.heap.size (0 +1) zX7 Zj).trans d1;have p2:=(hc6 w.heap.size (0 +2) zX7 Zj).trans d2
      clear hv
      exact Z5z)
   | skip
  ·refine SLG.ob_no rfl rfl rfl fun us w' Fe hG hu hd Kx hK=>?_
   try dsimp only
   simp [SL.O] at hu
   have hB5:Below w.heap.size w w':=HBW.out.trans (hG.belowF HBW.out.size Zj)
   obtain ⟨hc5,hf5⟩:=bcell hB5
   have hs5:=hB5.size
   obtain ⟨hc6,hf6⟩:=hG.cellsF;have p0:=(hc6 w.heap.size (0 +0) zX7 Zj).trans d0;have p1:=(hc6 w.heap.size (0 +1) zX7 Zj).trans d1;have p2:=(hc6 w.heap.size (0 +2) zX7 Zj).trans d2
   refine SLF.wpo_do (SLF.wanted_free rfl) ?hd ?_
   case hd=>intro c h;cases h
   obtain ⟨⟨e1,_⟩,⟨e6,_⟩,e4,hbl,e12⟩:=hu
   obtain ⟨⟨y0,y1,y2,y3,y4,y5,y6,y7,y8,y9,y10,y11,y12,y13,y14,y15⟩,yf,yl⟩:=ItmCells.of_heap (x:=⟨y.id,y.kn,y.kd,y.wa,y.pit,y.ly,y.co,y.ft,y.sh,y.fr,y.tw,y.lo,y.hi,y.st,y.li,y.vo⟩) hbl
   simp only at y0 y1 y2 y3 y4 y5 y6 y7 y8 y9 y10 y11 y12 y13 y14 y15
   have HB:=Lib.hid hbl
   clear hbl p0 p1 p2 hc5 hf5 hc6 hf6
   go_step
   refine hK _ _ (.setCell _ Z50 _) ⟨e4,by simpa using SL.heap_set HB.out (.int .i64 id) (i:=0),rfl⟩ ?_
   exact Z3q
  ·refine SLG.ob_no rfl rfl rfl fun us w' Fe hG hu hd Kx hK=>?_
   try dsimp only
   simp [SL.O] at hu
   have hB5:Below w.heap.size w w':=HBW.out.trans (hG.belowF HBW.out.size Zj)
   obtain ⟨hc5,hf5⟩:=bcell hB5
   have hs5:=hB5.size
   obtain ⟨hc6,hf6⟩:=hG.cellsF;have p0:=(hc6 w.heap.size (0 +0) zX7 Zj).trans d0;have p1:=(hc6 w.heap.size (0 +1) zX7 Zj).trans d1;have p2:=(hc6 w.heap.size (0 +2) zX7 Zj).trans d2
   refine SLF.wpo_do (SLF.wanted_free rfl) ?hd ?_
   case hd=>intro c h;cases h
   obtain ⟨⟨e1,_⟩,⟨e4,hbl,e12⟩,e6,_⟩:=hu
   obtain ⟨⟨y0,y1,y2,y3,y4,y5,y6,y7,y8,y9,y10,y11,y12,y13,y14,y15⟩,yf,yl⟩:=ItmCells.of_heap (x:=⟨id,y.kn,y.kd,y.wa,y.pit,y.ly,y.co,y.ft,y.sh,y.fr,y.tw,y.lo,y.hi,y.st,y.li,y.vo⟩) hbl
   simp only at y0 y1 y2 y3 y4 y5 y6 y7 y8 y9 y10 y11 y12 y13 y14 y15
   have HB:=Lib.hid hbl
   clear hbl p0 p1 p2 hc5 hf5 hc6 hf6
   go_step
   refine hK _ _ (.setCell _ Z50 _) ⟨e4,by simpa using SL.heap_set HB.out (.int .i64 kn) (i:=1),rfl⟩ ?_
   exact Z3q
  ·refine SLG.ob_no rfl rfl rfl fun us w' Fe hG hu hd Kx hK=>?_
   try dsimp only
   simp [SL.O] at hu
   have hB5:Below w.heap.size w w':=HBW.out.trans (hG.belowF HBW.out.size Zj)
   obtain ⟨hc5,hf5⟩:=bcell hB5
   have hs5:=hB5.size
   obtain ⟨hc6,hf6⟩:=hG.cellsF;have p0:=(hc6 w.heap.size (0 +0) zX7 Zj).trans d0;have p1:=(hc6 w.heap.size (0 +1) zX7 Zj).trans d1;have p2:=(hc6 w.heap.size (0 +2) zX7 Zj).trans d2
   refine SLF.wpo_do (SLF.wanted_free rfl) ?hd ?_
   case hd=>intro c h;cases h
   obtain ⟨⟨e1,_⟩,⟨e4,hbl,e12⟩,e6,_⟩:=hu
   obtain ⟨⟨y0,y1,y2,y3,y4,y5,y6,y7,y8,y9,y10,y11,y12,y13,y14,y15⟩,yf,yl⟩:=ItmCells.of_heap (x:=⟨id,kn,y.kd,y.wa,y.pit,y.ly,y.co,y.ft,y.sh,y.fr,y.tw,y.lo,y.hi,y.st,y.li,y.vo⟩) hbl
   simp only at y0 y1 y2 y3 y4 y5 y6 y7 y8 y9 y10 y11 y12 y13 y14 y15
   have HB:=Lib.hid hbl
   clear hbl p0 p1 p2 hc5 hf5 hc6 hf6
   go_step
   refine hK _ _ (.setCell _ Z50 _) ⟨e4,by simpa using SL.heap_set HB.out (.int .u8 k) (i:=2),rfl⟩ ?_
   exact Z3q
 case hck=>kernel_rfl
 case hkp=>kernel_rfl
 intro us8 w8 Fs8 hG hu hbd hd
 simp [SL.Used,SL.boxAt] at hu
 obtain ⟨e4,hbl8,_⟩:=hu
 have hB8:Below w.heap.size w w8:=HBW.out.trans (hG.belowF HBW.out.size Zj)
 obtain ⟨⟨x0,x1,x2,x3,x4,x5,x6,x7,x8,x9,x10,x11,x12,x13,x14,x15⟩,_,_⟩:=ItmCells.of_heap (x:=⟨id,kn,k,wa,pit,ly,co,ft,sh,fr,tw,lo,hi,st,li,vo⟩) ((hG.block w.heap.size zX7 Zj).trans HX7.out)
 obtain ⟨⟨y0,y1,y2,y3,y4,y5,y6,y7,y8,y9,y10,y11,y12,y13,y14,y15⟩,_,_⟩:=ItmCells.of_heap (x:=⟨id,kn,k,y.wa,y.pit,y.ly,y.co,y.ft,y.sh,y.fr,y.tw,y.lo,y.hi,y.st,y.li,y.vo⟩) hbl8
 simp only at x0 x1 x2 x3 x4 x5 x6 x7 x8 x9 x10 x11 x12 x13 x14 x15 y0 y1 y2 y3 y4 y5 y6 y7 y8 y9 y10 y11 y12 y13 y14 y15
 have HB:=Lib.hid hB8
 clear hG hbd hd hB8 hbl8 d0 d1 d2 hbl e4
 cases K with
 | false =>
   exact Z57
 | true =>
   have hne:=HNE.out
   cases TT with
   | false =>
     exact Z57
   | true =>
     go_wp2_with fail
     exact HP.out 0 _ HB.out (by simp)
theorem sCheckItem_of (x:Itm) (w:World) (hx:x.Wide) (hFm:∀ w1,Calls Tryz.prog 76 #[] w1 (FormPost w1)):Calls Tryz.prog 26 #[x.v] w (EPost w (itemE x)):=by
 by_cases hM:(1≤x.kd∧x.kd≤7)∧rngB x.id 1 1000000=true∧rngB x.kn 0 100000=true
 ·obtain ⟨hk,g1,g2⟩:=hM
  obtain ⟨id,kn,kd,wa,pit,ly,co,ft,sh,fr,tw,lo,hi,st,li,vo⟩:=x
  simp only at hk g1 g2
  obtain ⟨k,rfl⟩:∃ k:Nat,kd=k:=⟨kd.toNat,by omega⟩
  exact sCheckItem_in id kn k wa pit ly co ft sh fr tw lo hi st li vo (by omega) (by omega) hx.wa hx.st w g1 g2 hFm
 have hId:=fun w1=>sin_any x.id 1 1000000 w1
 have hKn:=fun w1=>sin_any x.kn 0 100000 w1
 have hE:=itemE_eq x
 unfold headI at hE
 have HP:=Lib.hid (show ∀ v w',Below w.heap.size w w'→itemE x=v→EPost w (itemE x) (.returned (.int .i64 v)) w' from fun v w' h1 h2=>⟨by rw [h2],h1⟩)
 generalize EPost w (itemE x)=Post at *
 rw [hE] at HP
 clear hE
 have hkd:=hx.kd
 by_cases hk:1≤x.kd∧x.kd≤7
 ·obtain ⟨k,hkk⟩:∃ k:Nat,x.kd=k:=⟨x.kd.toNat,by omega⟩
  have e1:decide (x.kd<1)=false:=by simp;omega
  have e2:decide ((8:Int)≤x.kd)=false:=by simp;omega
  cases g1:rngB x.id 1 1000000
  ·rw [g1] at hId
   rw [if_neg (by rw [g1];simp)] at HP
   clear hk hkk g1 hM
   exact Z5w
  cases g2:rngB x.kn 0 100000
  ·rw [g1] at hId
   rw [g2] at hKn
   rw [if_neg (by rw [g1,g2];simp)] at HP
   clear hk hkk g1 g2 hM
   exact Z5w
  exact absurd ⟨hk,g1,g2⟩ hM
 ·rw [if_neg (by rw [kindB_out hk];simp)] at HP
  by_cases h1:x.kd<1
  ·have e1:decide (x.kd<1)=true:=by simpa using h1
   clear hk h1 hM
   exact Z5w
  ·have e1:decide (x.kd<1)=false:=by simpa using h1
   have e2:decide ((8:Int)≤x.kd)=true:=by simp;omega
   clear hk h1 hM
   exact Z5w
end Go.Proofs.YtelkcohhagblaaaGreat
