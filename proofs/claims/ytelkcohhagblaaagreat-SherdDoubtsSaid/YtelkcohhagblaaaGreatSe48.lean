/- What the functions answer, for every input. -/
import Derived.Test.YtelkcohhagblaaaGreatSe45
import Derived.Test.YtelkcohhagblaaaGreatSe46
import Derived.Test.YtelkcohhagblaaaGreatSe47
import Derived.Test.YtelkcohhagblaaaGreatSe21
set_option linter.unusedSimpArgs false
set_option linter.unusedVariables false
set_option linter.unnecessarySimpa false
namespace Go.Proofs.YtelkcohhagblaaaGreat
theorem Z9k {P:Prop}(h:P:=by
 go_wp2_with (first
  | (go_at_call 78;(with_reducible refine (c1 _).mono ?_);rintro e w1 ⟨rfl,rfl⟩)
  | (go_at_call 81;(with_reducible refine (c2 _).mono ?_);rintro e w2 ⟨rfl,hb2⟩)
  | (go_at_call 80;(with_reducible refine (c5 _).mono ?_);rintro e w1 ⟨rfl,rfl⟩))
 exact Z88):P:=h
theorem Z9l {P:Prop}(h:P:=by
 go_wp2_with fail
 go_meet
 exact ⟨rfl,rfl⟩):P:=h
theorem Z84 {P:Prop}(h:P:=by
 as_aux_lemma =>
 have hz0:∀ W:World,Below W.heap.size W (W.alloc (Obj.cells #[.int .i64 y.id,.int .i64 y.kn,.int .u8 y.kd,.string y.wa,.int .i64 y.pit,.int .i64 y.ly,.int .i64 y.co,.bool y.ft,.int .i64 y.sh,.int .i64 y.fr,.int .i64 y.tw,.int .i64 y.lo,.int .i64 y.hi,.string y.st,.int .i64 y.li,.int .i64 y.vo] 24)):=fun W=>one_alloc W _
 go_wp2_with (first
  | (go_at_call 80;(with_reducible refine (hM _).mono ?_);rintro e w1 ⟨rfl,rfl⟩)
  | (go_at_call 138;(with_reducible refine (hF _ h10).mono ?_);rintro e w2 ⟨rfl,hb2⟩;obtain ⟨hc2,hf2⟩:=bcell hb2;have z2:=Nat.lt_of_lt_of_le z9 hb2.size;have hY:=World.alloc_heap_new w2 (Obj.cells #[.int .i64 y.id,.int .i64 y.kn,.int .u8 y.kd,.string y.wa,.int .i64 y.pit,.int .i64 y.ly,.int .i64 y.co,.bool y.ft,.int .i64 y.sh,.int .i64 y.fr,.int .i64 y.tw,.int .i64 y.lo,.int .i64 y.hi,.string y.st,.int .i64 y.li,.int .i64 y.vo] 24);have hB2:=(hB9.ch2 hb2).ch2 (one_alloc w2 (Obj.cells #[.int .i64 y.id,.int .i64 y.kn,.int .u8 y.kd,.string y.wa,.int .i64 y.pit,.int .i64 y.ly,.int .i64 y.co,.bool y.ft,.int .i64 y.sh,.int .i64 y.fr,.int .i64 y.tw,.int .i64 y.lo,.int .i64 y.hi,.string y.st,.int .i64 y.li,.int .i64 y.vo] 24));have h11:=(h10.below hb2).below (one_alloc w2 (Obj.cells #[.int .i64 y.id,.int .i64 y.kn,.int .u8 y.kd,.string y.wa,.int .i64 y.pit,.int .i64 y.ly,.int .i64 y.co,.bool y.ft,.int .i64 y.sh,.int .i64 y.fr,.int .i64 y.tw,.int .i64 y.lo,.int .i64 y.hi,.string y.st,.int .i64 y.li,.int .i64 y.vo] 24)))
  | (refine wpList_storeI_nw rfl rfl _ _ rfl rfl rfl rfl ?_)
  | (go_at_call 139;(with_reducible refine (hOw _ h11).mono ?_);rintro e w3 ⟨rfl,rfl⟩))
 exact HP.out _ _ hB2 rfl):P:=h
theorem Z88 {P:Prop}(h:P:=by
 exact HP.out _ _ (by rw [← c6.out];rfl) ((one_alloc _ _).ch2 (one_alloc _ _))):P:=h
theorem Z89 {P:Prop}(h:P:=by
 as_aux_lemma =>
 have hz0:∀ W:World,Below W.heap.size W (W.alloc (Obj.cells #[.int .i64 Itm.zero.id,.int .i64 Itm.zero.kn,.int .u8 Itm.zero.kd,.string Itm.zero.wa,.int .i64 Itm.zero.pit,.int .i64 Itm.zero.ly,.int .i64 Itm.zero.co,.bool Itm.zero.ft,.int .i64 Itm.zero.sh,.int .i64 Itm.zero.fr,.int .i64 Itm.zero.tw,.int .i64 Itm.zero.lo,.int .i64 Itm.zero.hi,.string Itm.zero.st,.int .i64 Itm.zero.li,.int .i64 Itm.zero.vo] 24)):=fun W=>one_alloc W _
 go_wp2_with (first
  | (go_at_call 80;(with_reducible refine (hM _).mono ?_);rintro e w1 ⟨rfl,rfl⟩)
  | (go_at_call 138;(with_reducible refine (hF _ h10).mono ?_);rintro e w2 ⟨rfl,hb2⟩;obtain ⟨hc2,hf2⟩:=bcell hb2;have z2:=Nat.lt_of_lt_of_le z9 hb2.size;have hY:=World.alloc_heap_new w2 (Obj.cells #[.int .i64 Itm.zero.id,.int .i64 Itm.zero.kn,.int .u8 Itm.zero.kd,.string Itm.zero.wa,.int .i64 Itm.zero.pit,.int .i64 Itm.zero.ly,.int .i64 Itm.zero.co,.bool Itm.zero.ft,.int .i64 Itm.zero.sh,.int .i64 Itm.zero.fr,.int .i64 Itm.zero.tw,.int .i64 Itm.zero.lo,.int .i64 Itm.zero.hi,.string Itm.zero.st,.int .i64 Itm.zero.li,.int .i64 Itm.zero.vo] 24);have hB2:=(hB9.ch2 hb2).ch2 (one_alloc w2 (Obj.cells #[.int .i64 Itm.zero.id,.int .i64 Itm.zero.kn,.int .u8 Itm.zero.kd,.string Itm.zero.wa,.int .i64 Itm.zero.pit,.int .i64 Itm.zero.ly,.int .i64 Itm.zero.co,.bool Itm.zero.ft,.int .i64 Itm.zero.sh,.int .i64 Itm.zero.fr,.int .i64 Itm.zero.tw,.int .i64 Itm.zero.lo,.int .i64 Itm.zero.hi,.string Itm.zero.st,.int .i64 Itm.zero.li,.int .i64 Itm.zero.vo] 24));have h11:=(h10.below hb2).below (one_alloc w2 (Obj.cells #[.int .i64 Itm.zero.id,.int .i64 Itm.zero.kn,.int .u8 Itm.zero.kd,.string Itm.zero.wa,.int .i64 Itm.zero.pit,.int .i64 Itm.zero.ly,.int .i64 Itm.zero.co,.bool Itm.zero.ft,.int .i64 Itm.zero.sh,.int .i64 Itm.zero.fr,.int .i64 Itm.zero.tw,.int .i64 Itm.zero.lo,.int .i64 Itm.zero.hi,.string Itm.zero.st,.int .i64 Itm.zero.li,.int .i64 Itm.zero.vo] 24)))
  | (refine wpList_storeI_nw rfl rfl _ _ rfl rfl rfl rfl ?_)
  | (go_at_call 139;(with_reducible refine (hOw _ h11).mono ?_);rintro e w3 ⟨rfl,rfl⟩))
 exact HP.out _ _ hB2 rfl):P:=h
theorem Z8b {P:Prop}(h:P:=by
 as_aux_lemma =>
 go_upto_region 37 with (first
  | (go_at_call 78;(with_reducible refine (c1 _).mono ?_);rintro e w1 ⟨rfl,rfl⟩)
  | (go_at_call 81;(with_reducible refine (c2 _).mono ?_);rintro e w2 ⟨rfl,hb2⟩;have hX2:=(hb2.block w.heap.size Zj).trans (alKeep (World.alloc_heap_new w _));have hR2:=(hb2.block (w.heap.size +1) (by simp)).trans (alloc2_get w _ _);have hB2:=((one_alloc w _).ch2 (one_alloc _ _)).ch2 hb2)
  | (go_at_call 80;(with_reducible refine (c5 _).mono ?_);rintro e w1 ⟨rfl,rfl⟩))
 have d2:=(SL.cells_of hX2).1 2
 obtain ⟨⟨r0,r1,r2,r3,r4,r5,r6,r7,r8,r9,r10,r11,r12,r13,r14,r15⟩,rf,rl⟩:=ItmCells.of_heap (x:=⟨0,0,0,x.wa,x.pit,x.ly,x.co,x.ft,0,x.fr,x.tw,x.lo,x.hi,x.st,x.li,x.vo⟩) hR2
 simp only at r0 r1 r2 r3 r4 r5 r6 r7 r8 r9 r10 r11 r12 r13 r14 r15 d2
 have HB:=Lib.hid hB2
 clear hX2 hR2 hb2 hB2
 go_wp2_with fail
 all_goals first
  | exact HP.out _ _ (by rw [← c6.out];rfl) (HB.out.setCell (show w.heap.size≤w.heap.size +1 by omega) _)
  | (rename_i hh;exact absurd (List.isEmpty_iff.1 hh) hn2)):P:=h
theorem Z8w {P:Prop}(h:P:=by
 clear hP2 hk
 cases P <;>
 ·exact Z9l):P:=h
theorem Z8x {P:Prop}(h:P:=by
 go_wp2_with fail
 go_quiet (fail)
 go_wp2_with fail
 go_meet
 exact ⟨rfl,belowN (Below.refl _ _)⟩):P:=h
open Go.RowKit Go.Shelf
set_option maxHeartbeats 8000000
set_option maxRecDepth 100000
theorem item5_eq (x:Itm) (hk:x.kd=5):eqI ⟨0,0,0,x.wa,x.pit,x.ly,x.co,x.ft,0,x.fr,x.tw,x.lo,x.hi,⟨#[]⟩,x.li,x.vo⟩ Itm.zero=eqI x x.form:=by
 unfold Itm.form eqI Itm.zero
 simp [hk]
theorem alloc2_get (w:World) (A B:Obj):((w.alloc A).alloc B).heap[w.heap.size +1]?=some B:=by
 have:=World.alloc_heap_new (w.alloc A) B
 rwa [World.size_alloc] at this
theorem r2item5 (x:Itm) (w:World) (h:headI x=true) (hx:x.Wide) (hk:x.kd=5):Calls Tryz.prog 27 #[x.v] w (EPost w (itemE x)):=by
 have hI:itemB x=(kindB x && eqI x x.form):=by unfold itemB;rw [h];rfl
 unfold headI at h
 rw [Bool.and_eq_true] at h
 obtain ⟨h1,h2⟩:=h
 have hW1:=fun W=>r2within_any x.id 1 1000000 W
 have hW2:=fun W=>r2within_any x.kn 0 100000 W
 rw [h1] at hW1
 rw [h2] at hW2
 clear h1 h2
 have hB0:=(one_alloc w (Obj.cells #[.int .i64 x.id,.int .i64 x.kn,.int .u8 x.kd,.string x.wa,.int .i64 x.pit,.int .i64 x.ly,.int .i64 x.co,.bool x.ft,.int .i64 x.sh,.int .i64 x.fr,.int .i64 x.tw,.int .i64 x.lo,.int .i64 x.hi,.string x.st,.int .i64 x.li,.int .i64 x.vo] 24)).ch2 (one_alloc _ (Obj.cells #[.int .i64 x.id,.int .i64 x.kn,.int .u8 x.kd,.string x.wa,.int .i64 x.pit,.int .i64 x.ly,.int .i64 x.co,.bool x.ft,.int .i64 x.sh,.int .i64 x.fr,.int .i64 x.tw,.int .i64 x.lo,.int .i64 x.hi,.string x.st,.int .i64 x.li,.int .i64 x.vo] 24))
 have HX:=World.alloc_heap_new w (Obj.cells #[.int .i64 x.id,.int .i64 x.kn,.int .u8 x.kd,.string x.wa,.int .i64 x.pit,.int .i64 x.ly,.int .i64 x.co,.bool x.ft,.int .i64 x.sh,.int .i64 x.fr,.int .i64 x.tw,.int .i64 x.lo,.int .i64 x.hi,.string x.st,.int .i64 x.li,.int .i64 x.vo] 24)
 have hdc:=(ItmCells.of_heap HX).1
 have d0:=hdc.c0
 have d1:=hdc.c1
 have HP:=Lib.hid (show ∀ v w',v=itemE x→Below w.heap.size w w'→EPost w (itemE x) (.returned (.int .i64 v)) w' from fun v w' hv hb=>⟨by rw [hv],hb⟩)
 have hie:itemE x=if (kindB x && eqI x x.form)=true then 0 else 1:=by unfold itemE;rw [hI]
 rw [hie] at HP ⊢
 clear hI hie
 have hE:=item5_eq x hk
 have hne:=fun W=>neqI_run ⟨0,0,0,x.wa,x.pit,x.ly,x.co,x.ft,0,x.fr,x.tw,x.lo,x.hi,⟨#[]⟩,x.li,x.vo⟩ Itm.zero W
 rw [hE] at hne
 simp only [Itm.v,Itm.cs,Itm.zero] at hne
 have hK:kindB x=(rngB x.sh 1 1000000 && setS x.st.data.toList):=by unfold kindB;rw [if_neg (by omega),if_neg (by omega),if_neg (by omega),if_neg (by omega),if_pos hk]
 rw [hK] at HP ⊢
 clear hK hE
 have c1:=fun W=>r2within_any x.sh 1 1000000 W
 have c2:=fun W=>r2classes_any x.st W hx.st
 have c5:=fun W=>r2measures_any 5 W
 rw [show measB 5=true from rfl] at c5
 have hS:setS x.st.data.toList=(ascS x.st.data.toList && !x.st.data.toList.isEmpty):=rfl
 rw [hS] at HP ⊢
 clear hS
 generalize eqI x x.form=E at *
 generalize rngB x.sh 1 1000000=B1 at *
 generalize ascS x.st.data.toList=B2 at *
 generalize hN:x.st.data.toList.isEmpty=N at *
 generalize hZ:(B1 && (B2 && !N) && E)=Z at *
 generalize EPost w (if Z=true then 0 else 1)=Post at *
 have c6:=Lib.hid hZ
 clear hZ
 have Hk:=Lib.hid hk
 clear hk
 show Calls Tryz.prog _ #[.agg #[.int .i64 x.id,.int .i64 x.kn,.int .u8 x.kd,.string x.wa,.int .i64 x.pit,.int .i64 x.ly,.int .i64 x.co,.bool x.ft,.int .i64 x.sh,.int .i64 x.fr,.int .i64 x.tw,.int .i64 x.lo,.int .i64 x.hi,.string x.st,.int .i64 x.li,.int .i64 x.vo]] w _
 go_enter Tryz.func27,Tryz.ntmps27
 go_upto_region 8 with (first
  | (refine wpList_loadI rfl _ rfl rfl hdc ?_)
  | (refine wpList_storeI_nw (by simp) rfl _ _ rfl rfl rfl rfl ?_)
  | (go_at_call 78;(with_reducible refine (hW1 _).mono ?_);rintro e w1 ⟨rfl,rfl⟩)
  | (go_at_call 78;(with_reducible refine (hW2 _).mono ?_);rintro e w1 ⟨rfl,rfl⟩))
 have hk:=Hk.out
 clear hW1 hW2 HX hdc d0 d1 Hk
 cases B1
 ·as_aux_lemma =>
  exact Z9k
 have hn1:(N=true→x.st.toList=[])∧(N=false→¬ x.st.toList=[]):=by
  rw [← hN,ByteArray.toList_eq]
  cases x.st.data.toList <;> simp
 clear hN
 cases N
 rotate_left
 ·have hn2:=hn1.1 rfl
  clear hn1
  as_aux_lemma =>
  have c6:=Lib.hid (show false=Z by rw [← c6.out];cases B2 <;> rfl)
  exact Z9k
 have hn2:=hn1.2 rfl
 clear hn1
 cases B2
 ·exact Z8b
 cases E <;>
 ·exact Z8b
theorem r2item0 (x:Itm) (w:World) (h:headI x=true) (hk:¬ (1≤x.kd∧x.kd≤7)):Calls Tryz.prog 27 #[x.v] w (EPost w (itemE x)):=by
 have hI:itemB x=(kindB x && eqI x x.form):=by unfold itemB;rw [h];rfl
 unfold headI at h
 rw [Bool.and_eq_true] at h
 obtain ⟨h1,h2⟩:=h
 have hW1:=fun W=>r2within_any x.id 1 1000000 W
 have hW2:=fun W=>r2within_any x.kn 0 100000 W
 rw [h1] at hW1
 rw [h2] at hW2
 clear h1 h2
 have hB0:=(one_alloc w (Obj.cells #[.int .i64 x.id,.int .i64 x.kn,.int .u8 x.kd,.string x.wa,.int .i64 x.pit,.int .i64 x.ly,.int .i64 x.co,.bool x.ft,.int .i64 x.sh,.int .i64 x.fr,.int .i64 x.tw,.int .i64 x.lo,.int .i64 x.hi,.string x.st,.int .i64 x.li,.int .i64 x.vo] 24)).ch2 (one_alloc _ (Obj.cells #[.int .i64 x.id,.int .i64 x.kn,.int .u8 x.kd,.string x.wa,.int .i64 x.pit,.int .i64 x.ly,.int .i64 x.co,.bool x.ft,.int .i64 x.sh,.int .i64 x.fr,.int .i64 x.tw,.int .i64 x.lo,.int .i64 x.hi,.string x.st,.int .i64 x.li,.int .i64 x.vo] 24))
 have HX:=World.alloc_heap_new w (Obj.cells #[.int .i64 x.id,.int .i64 x.kn,.int .u8 x.kd,.string x.wa,.int .i64 x.pit,.int .i64 x.ly,.int .i64 x.co,.bool x.ft,.int .i64 x.sh,.int .i64 x.fr,.int .i64 x.tw,.int .i64 x.lo,.int .i64 x.hi,.string x.st,.int .i64 x.li,.int .i64 x.vo] 24)
 have hdc:=(ItmCells.of_heap HX).1
 have d0:=hdc.c0
 have d1:=hdc.c1
 have HP:=Lib.hid (show ∀ v w',v=itemE x→Below w.heap.size w w'→EPost w (itemE x) (.returned (.int .i64 v)) w' from fun v w' hv hb=>⟨by rw [hv],hb⟩)
 have hie:itemE x=if (kindB x && eqI x x.form)=true then 0 else 1:=by unfold itemE;rw [hI]
 rw [hie] at HP ⊢
 clear hI hie
 have hK:kindB x=false:=by unfold kindB;rw [if_neg (by omega),if_neg (by omega),if_neg (by omega),if_neg (by omega),if_neg (by omega),if_neg (by omega),if_neg (by omega)]
 rw [hK] at HP ⊢
 clear hK
 generalize eqI x x.form=E at *
 generalize EPost w (if (false && E)=true then 0 else 1)=Post at *
 have c5:=fun W=>r2measures_any x.kd W
 rw [show measB x.kd=false by unfold measB;simp;omega] at c5
 have e1:(x.kd == 1)=false:=by simp;omega
 have e2:(x.kd == 2)=false:=by simp;omega
 have e3:(x.kd == 3)=false:=by simp;omega
 have e4:(x.kd == 4)=false:=by simp;omega
 have e5:(x.kd == 5)=false:=by simp;omega
 have e6:(x.kd == 6)=false:=by simp;omega
 have e7:(x.kd == 7)=false:=by simp;omega
 have f1:decide (x.kd=1)=false:=by simp;omega
 have f2:decide (x.kd=2)=false:=by simp;omega
 have f3:decide (x.kd=3)=false:=by simp;omega
 have f4:decide (x.kd=4)=false:=by simp;omega
 have f5:decide (x.kd=5)=false:=by simp;omega
 have f6:decide (x.kd=6)=false:=by simp;omega
 have f7:decide (x.kd=7)=false:=by simp;omega
 have Hk:=Lib.hid hk
 clear hk
 show Calls Tryz.prog _ #[.agg #[.int .i64 x.id,.int .i64 x.kn,.int .u8 x.kd,.string x.wa,.int .i64 x.pit,.int .i64 x.ly,.int .i64 x.co,.bool x.ft,.int .i64 x.sh,.int .i64 x.fr,.int .i64 x.tw,.int .i64 x.lo,.int .i64 x.hi,.string x.st,.int .i64 x.li,.int .i64 x.vo]] w _
 go_enter Tryz.func27,Tryz.ntmps27
 go_upto_region 8 with (first
  | (refine wpList_loadI rfl _ rfl rfl hdc ?_)
  | (refine wpList_storeI_nw (by simp) rfl _ _ rfl rfl rfl rfl ?_)
  | (go_at_call 78;(with_reducible refine (hW1 _).mono ?_);rintro e w1 ⟨rfl,rfl⟩)
  | (go_at_call 78;(with_reducible refine (hW2 _).mono ?_);rintro e w1 ⟨rfl,rfl⟩))
 have hk:=Hk.out
 clear hW1 hW2 HX hdc d0 d1 Hk
 go_wp2_with (go_at_call 80;(with_reducible refine (c5 _).mono ?_);rintro e w1 ⟨rfl,rfl⟩)
 exact HP.out _ _ (by simp) ((one_alloc _ _).ch2 (one_alloc _ _))
set_option maxHeartbeats 30000000
theorem r2CheckItem_any (x:Itm) (w:World) (hx:x.Wide):Calls Tryz.prog 27 #[x.v] w (EPost w (itemE x)):=by
 cases h:headI x
 ·have e:itemE x=1:=by unfold itemE itemB;rw [h];rfl
  rw [e]
  exact r2item_head x w h
 ·by_cases hk:1≤x.kd∧x.kd≤7
  ·have:x.kd=1∨x.kd=2∨x.kd=3∨x.kd=4∨x.kd=5∨x.kd=6∨x.kd=7:=by omega
   rcases this with hk | hk | hk | hk | hk | hk | hk
   ·exact r2item1 x w h hx hk
   ·exact r2item2 x w h hx hk
   ·exact r2item3 x w h hx hk
   ·exact r2item4 x w h hx hk
   ·exact r2item5 x w h hx hk
   ·exact r2item6 x w h hx hk
   ·exact r2item7 x w h hx hk
  ·exact r2item0 x w h hk
theorem any_upto {l:List Itm} {f:Itm→Bool} {k:Nat} (hk:k<l.length) (h:(l.take k).any f=false) (hf:f (l.getD k default)=false):(l.take (k +1)).any f=false:=by
 rw [List.take_succ_eq_append_getElem hk,List.any_append,h]
 rw [List.getD_eq_getElem?_getD,List.getElem?_eq_getElem hk] at hf
 simpa using hf
theorem any_hitI {l:List Itm} {f:Itm→Bool} {k:Nat} (hk:k<l.length) (hf:f (l.getD k default)=true):l.any f=true:=List.any_eq_true.2 ⟨_,Itm.mem hk,hf⟩
theorem ownK_all {l:List Itm} (hl:∀ y ∈ l,itemB y=true) {id:Int} (hid:1≤id):ownK l id l.length=(ownN l id:Int):=by
 unfold ownK
 rw [List.take_length,← own_eq hl hid]
 rfl
theorem findI_mem {l:List Itm} {id:Int} {y:Itm} (h:findI l id=some y):y ∈ l∧y.id=id:=by
 unfold findI at h
 exact ⟨(standL_sub (List.mem_of_find?_eq_some h)).1,by have:=List.find?_some h;simpa using this⟩
theorem r2refused_any (x:Itm) (a:Option Addr) (n cap:Nat) (l:List Itm) (w:World) (h:ItmsAt w a n cap l) (hx:x.Wide) (hl:∀ y ∈ l,itemB y=true) :
 Calls Tryz.prog 74 #[.slice a n cap,x.v] w (EPost w (refE l x)):=by
 have hsm:n≤140737488351232:=by rw [h.len];exact h.small
 have hR:refE l x=if 300≤n then 2 else if itemE x≠0 then 1 else if l.any (fun y=>y.id == x.id) then 6 else if lateB l x then 7 else ofE l x:=by
  rw [h.len]
  unfold refE itemE
  cases itemB x <;> rfl
 have hCk:=fun W=>r2CheckItem_any x W hx
 unfold EPost at hCk
 have HP:=Lib.hid (show ∀ v w',Below w.heap.size w w'→refE l x=v→EPost w (refE l x) (.returned (.int .i64 v)) w' from fun v w' h1 h2=>⟨by rw [h2],h1⟩)
 generalize EPost w (refE l x)=Post at *
 rw [hR] at HP
 clear hR
 have hB0:=one_alloc w (Obj.cells #[.int .i64 x.id,.int .i64 x.kn,.int .u8 x.kd,.string x.wa,.int .i64 x.pit,.int .i64 x.ly,.int .i64 x.co,.bool x.ft,.int .i64 x.sh,.int .i64 x.fr,.int .i64 x.tw,.int .i64 x.lo,.int .i64 x.hi,.string x.st,.int .i64 x.li,.int .i64 x.vo] 24)
 have hX0:=World.alloc_heap_new w (Obj.cells #[.int .i64 x.id,.int .i64 x.kn,.int .u8 x.kd,.string x.wa,.int .i64 x.pit,.int .i64 x.ly,.int .i64 x.co,.bool x.ft,.int .i64 x.sh,.int .i64 x.fr,.int .i64 x.tw,.int .i64 x.lo,.int .i64 x.hi,.string x.st,.int .i64 x.li,.int .i64 x.vo] 24)
 have hdc:=(ItmCells.of_heap hX0).1
 generalize hE:itemE x=E at *
 by_cases h3:300≤n
 ·have e1:decide ((300:Int)≤(n:Int))=true:=by simp;omega
  rw [if_pos h3] at HP
  clear hCk h
  show Calls Tryz.prog _ #[_,.agg #[.int .i64 x.id,.int .i64 x.kn,.int .u8 x.kd,.string x.wa,.int .i64 x.pit,.int .i64 x.ly,.int .i64 x.co,.bool x.ft,.int .i64 x.sh,.int .i64 x.fr,.int .i64 x.tw,.int .i64 x.lo,.int .i64 x.hi,.string x.st,.int .i64 x.li,.int .i64 x.vo]] w _
  go_enter Tryz.func74,Tryz.ntmps74
  go_wp2_with fail
  exact HP.out _ _ hB0 rfl
 ·have e1:decide ((300:Int)≤(n:Int))=false:=by simp;omega
  rw [if_neg h3] at HP
  by_cases h0:E=0
  ·subst h0
   rw [if_neg (by simp)] at HP
   have hx0:itemB x=true:=by
    unfold itemE at hE
    cases hi:itemB x
    ·rw [hi] at hE;simp at hE
    ·rfl
   clear hE
   show Calls Tryz.prog _ #[_,.agg #[.int .i64 x.id,.int .i64 x.kn,.int .u8 x.kd,.string x.wa,.int .i64 x.pit,.int .i64 x.ly,.int .i64 x.co,.bool x.ft,.int .i64 x.sh,.int .i64 x.fr,.int .i64 x.tw,.int .i64 x.lo,.int .i64 x.hi,.string x.st,.int .i64 x.li,.int .i64 x.vo]] w _
   go_enter Tryz.func74,Tryz.ntmps74
   go_wp2_with (first
    | (refine wpList_loadI rfl _ rfl rfl hdc ?_)
    | (go_at_call 27;(with_reducible refine (hCk _).mono ?_);rintro e w1 ⟨rfl,hb1⟩))
   have hX1:=(hb1.block w.heap.size (by simp)).trans hX0
   have hB1:=hB0.ch2 hb1
   clear hX0 hB0 hb1 hdc hCk
   have HL:=Lib.hid h.len
   have hT0:=fun (hp:n=0)=>(show lateB l x=false by
    have hl:l.length=0:=by rw [← h.len];exact hp
    unfold lateB;simp [hl])
   have hT1:=fun m (hp:n=m +1)=>(show lateB l x=decide (x.kn<(l.getD m default).kn) by
    have hl:l.length=m +1:=by rw [← h.len];exact hp
    rw [lateB_pos (by omega),hl]
    rfl)
   have hget:=fun (W:World) (hw:ItmsAt W a n cap l) m (hp:n=m +1)=>hw.get (show m<l.length by rw [← hw.len];omega)
   go_loopw [5] (fun i wr=>∃ k:Nat,k≤n∧i=.int .i64 k∧Below w.heap.size w wr∧wr.heap[w.heap.size]?=some (.cells #[.int .i64 x.id,.int .i64 x.kn,.int .u8 x.kd,.string x.wa,.int .i64 x.pit,.int .i64 x.ly,.int .i64 x.co,.bool x.ft,.int .i64 x.sh,.int .i64 x.fr,.int .i64 x.tw,.int .i64 x.lo,.int .i64 x.hi,.string x.st,.int .i64 x.li,.int .i64 x.vo] 24 (0,0))∧(l.take k).any (fun y=>y.id == x.id)=false) (fun i _=>n - (RowKit.intOf i).toNat)
   case atStart=>exact ⟨0,Nat.zero_le _,rfl,hB1,hX1,rfl⟩
   case round =>
    clear hX1 hB1
    obtain ⟨k,hk,rfl,hB,hX,hall⟩:=hrel
    have hnn:(0:Int)≤k:=by omega
    by_cases hlt:k<n
    ·have i1:(k:Int)<(n:Int):=by omega
     have hlt2:k<l.length:=HL.out ▸ hlt
     obtain ⟨b,o,rfl,_,hc⟩:=(h.below hB).get hlt2
     have d0:=hc.c0
     have p0:=(ItmCells.of_heap hX).1.c0
     have Hn:=Lib.hid (any_upto (f:=fun y=>y.id == x.id) hlt2 hall)
     have Hh:=Lib.hid (any_hitI (f:=fun y=>y.id == x.id) hlt2)
     clear hc hall hlt2 hget hT0 hT1
     generalize l.getD k default=y at *
     cases B1:y.id == x.id
     ·have B2:decide (y.id=x.id)=false:=by simpa using B1
      have Hn:=Lib.hid (Hn.out B1)
      clear Hh
      go_wp2_with fail
      go_quiet (fail)
      go_wp2
      go_roundw
      case rel=>exact ⟨k +1,by omega,by go_num,belowN hB,by simpa using hX,Hn.out⟩
      case measure=>simp [RowKit.intOf];omega
     ·have B2:decide (y.id=x.id)=true:=by simpa using B1
      have Hh:=Lib.hid (Hh.out B1)
      clear Hn
      go_wp2_with fail
      go_quiet (fail)
      go_wp2
      exact HP.out _ _ (belowN hB) (by rw [Hh.out];rfl)
    ·have hk2:k=n:=by omega
     subst hk2
     rw [List.take_of_length_le (Nat.le_of_eq HL.out.symm)] at hall
     rw [hall] at HP
     simp only [Bool.false_eq_true,if_false] at HP
     have h9:=h.below hB
     clear hall hlt h hk
     obtain ⟨T,hT⟩:∃ T,lateB l x=T:=⟨_,rfl⟩
     rw [hT] at HP hT0
     have hT1:=fun m hp=>hT.symm.trans (hT1 m hp)
     clear hT
     go_upto_region 10 with fail
     go_cut [44] (fun t wx=>t=.bool T∧Below wr.heap.size wr wx)
     case first =>
      as_aux_lemma =>
      have p1:=(ItmCells.of_heap hX).1.c1
      cases k with
      | zero =>
        have hT0:=hT0 rfl
        subst hT0
        clear hT1 hget
        exact Z8x
      | succ m =>
        obtain ⟨b,o,rfl,_,hc⟩:=hget _ h9 m rfl
        have hT2:=(hT1 m rfl).symm
        have c1:=hc.c1
        have hwr:IntKind.i64.wrap ((m:Int) +1 - 1)=m:=by rw [show (m:Int) +1 - 1=m by omega];exact IntWalk.i64_in _ (by omega)
        have i0:(0:Int)≤m:=by omega
        have i1:(m:Int)<(m:Int) +1:=by omega
        have i2:decide ((0:Int)<(m:Int) +1)=true:=by simp <;> omega
        clear hc hT0 hT1 hget
        generalize (l.getD m default).kn=kn at *
        cases T <;>
        ·exact Z8x
     case rest =>
      obtain ⟨rfl,hb9⟩:=hcut
      obtain ⟨w9,rfl⟩:∃ w9,w9=wc:=⟨_,rfl⟩
      have hX9:=(hb9.block w.heap.size (Array.getElem?_eq_some_iff.1 hX).1).trans hX
      have h10:=h9.below hb9
      have hB9:=hB.ch2 hb9
      clear hX h9 hb9 hB hget hT0 hT1
      cases T
      rotate_left
      ·simp only [if_true] at HP
       go_wp2_with fail
       exact HP.out _ _ hB9 rfl
      simp only [Bool.false_eq_true,if_false] at HP
      obtain ⟨⟨_,_,d2,_,_,_,_,_,d8,_,d10,_,_,_,_,d15⟩,_,z9⟩:=ItmCells.of_heap hX9
      have HX9:=Lib.hid hX9
      clear hX9
      have hM:=fun W=>r2measures_any x.kd W
      cases M:measB x.kd
      ·rw [M] at hM
       by_cases h7:x.kd=7
       ·have e7:(x.kd == 7)=true:=by simpa using h7
        have hF:=fun W hh=>r2find_any a k cap l x.vo W hh
        have hof:ofE l x=match findI l x.vo with | none=>5 | some y=>if y.kd=1∧0<ownN l y.id then 8 else 0:=by unfold ofE;rw [if_pos h7];rfl
        rw [hof] at HP
        clear hof h7
        unfold FindPost at hF
        cases O:findI l x.vo with
        | none =>
          rw [O] at hF HP
          simp only [Option.getD,Option.isSome] at hF HP
          clear O
          exact Z89
        | some y =>
          rw [O] at hF HP
          simp only [Option.getD,Option.isSome] at hF HP
          have hm:=findI_mem O
          have hOw:=fun W hh=>r2own_any a k cap l y.id W hh
          rw [ownK_all hl (itemB_id (hl y hm.1)).1] at hOw
          clear O hm
          generalize ownN l y.id=q at *
          by_cases hk:y.kd=1
          ·have f1:(y.kd == 1)=true:=by simpa using hk
           by_cases hq:0<q
           ·rw [if_pos ⟨hk,hq⟩] at HP
            have f2:decide ((0:Int)<(q:Int))=true:=by simpa using hq
            clear hk
            exact Z84
           ·rw [if_neg (by omega)] at HP
            have f2:decide ((0:Int)<(q:Int))=false:=by simp;omega
            clear hk
            exact Z84
          ·have f1:(y.kd == 1)=false:=by simpa using hk
           rw [if_neg (by omega)] at HP
           clear hk
           exact Z84
       ·have e7:(x.kd == 7)=false:=by simpa using h7
        have hof:ofE l x=0:=by unfold ofE;rw [if_neg h7,if_neg (by simp [M])]
        rw [hof] at HP
        as_aux_lemma =>
        go_wp2_with (go_at_call 80;(with_reducible refine (hM _).mono ?_);rintro e w1 ⟨rfl,rfl⟩)
        exact HP.out _ _ hB9 rfl
      ·rw [M] at hM
       have hkr:2≤x.kd∧x.kd≤5:=by unfold measB at M;simpa using M
       have e7:(x.kd == 7)=false:=by simp;omega
       have hF:=fun W hh=>r2find_any a k cap l x.sh W hh
       have hOw:=fun W hh=>r2own_any a k cap l x.sh W hh
       rw [ownK_all hl (itemB_sh1 hx0 M)] at hOw
       have hof:ofE l x=match findI l x.sh with | none=>5 | some y=>if y.kd≠1 then 5 else if x.kd=2∧y.co<x.tw∨x.kd=3∧y.co≤x.tw then 1 else if 150≤ownN l y.id then 2 else 0:=by unfold ofE;rw [if_neg (by omega),if_pos M];rfl
       rw [hof] at HP
       clear hof M
       unfold FindPost at hF
       cases O:findI l x.sh with
       | none =>
         rw [O] at hF HP
         simp only [Option.getD,Option.isSome] at hF HP
         clear O hkr
         exact Z89
       | some y =>
         rw [O] at hF HP
         simp only [Option.getD,Option.isSome] at hF HP
         have hm:=(findI_mem O).2
         rw [hm] at HP
         clear O hm
         generalize ownN l x.sh=q at *
         by_cases hk:y.kd=1
         ·have f1:(y.kd != 1)=false:=by simpa using hk
          rw [if_neg (by omega)] at HP
          obtain ⟨P,hP⟩:∃ P:Bool,P=decide (x.kd=2∧y.co<x.tw∨x.kd=3∧y.co≤x.tw):=⟨_,rfl⟩
          have hP2:(P=true ↔ x.kd=2∧y.co<x.tw∨x.kd=3∧y.co≤x.tw):=by rw [hP];simp
          obtain ⟨Q,hQ⟩:∃ Q:Bool,decide ((150:Int)≤(q:Int))=Q:=⟨_,rfl⟩
          have hQ2:(Q=true ↔ 150≤q):=by rw [← hQ];simp;omega
          have HP:=Lib.hid (show ∀ v w',Below w.heap.size w w'→(if P=true then 1 else if Q=true then 2 else 0)=v→Post (.returned (.int .i64 v)) w' from fun v w' h1 h2=>HP.out v w' h1 (by simp only [← hP2,← hQ2];exact h2))
          have hkk:x.kd=2∨x.kd=3∨(x.kd≠2∧x.kd≠3):=by omega
          clear hk hkr hQ2 hP
          go_upto_region 16 with (first
           | (go_at_call 80;(with_reducible refine (hM _).mono ?_);rintro e w1 ⟨rfl,rfl⟩)
           | (go_at_call 138;(with_reducible refine (hF _ h10).mono ?_);rintro e w2 ⟨rfl,hb2⟩;obtain ⟨hc2,hf2⟩:=bcell hb2;have z2:=Nat.lt_of_lt_of_le z9 hb2.size;have hY:=World.alloc_heap_new w2 (Obj.cells #[.int .i64 y.id,.int .i64 y.kn,.int .u8 y.kd,.string y.wa,.int .i64 y.pit,.int .i64 y.ly,.int .i64 y.co,.bool y.ft,.int .i64 y.sh,.int .i64 y.fr,.int .i64 y.tw,.int .i64 y.lo,.int .i64 y.hi,.string y.st,.int .i64 y.li,.int .i64 y.vo] 24);have hb3:=hb2.ch2 (one_alloc w2 (Obj.cells #[.int .i64 y.id,.int .i64 y.kn,.int .u8 y.kd,.string y.wa,.int .i64 y.pit,.int .i64 y.ly,.int .i64 y.co,.bool y.ft,.int .i64 y.sh,.int .i64 y.fr,.int .i64 y.tw,.int .i64 y.lo,.int .i64 y.hi,.string y.st,.int .i64 y.li,.int .i64 y.vo] 24)))
           | (refine wpList_storeI_nw rfl rfl _ _ rfl rfl rfl rfl ?_))
          have hX4:=(hb3.block _ z9).trans HX9.out
          have h11:=h10.below hb3
          have hB2:=hB9.ch2 hb3
          clear hc2 hf2 hb2 hb3 hF hM h10 hB9 HX9 z9 d2 d8 d10 d15
          generalize w2.alloc (Obj.cells #[.int .i64 y.id,.int .i64 y.kn,.int .u8 y.kd,.string y.wa,.int .i64 y.pit,.int .i64 y.ly,.int .i64 y.co,.bool y.ft,.int .i64 y.sh,.int .i64 y.fr,.int .i64 y.tw,.int .i64 y.lo,.int .i64 y.hi,.string y.st,.int .i64 y.li,.int .i64 y.vo] 24)=w4 at *
          have c6:=(SL.cells_of hY).1 6
          have d2:=(SL.cells_of hX4).1 2
          have d8:=(SL.cells_of hX4).1 8
          have d10:=(SL.cells_of hX4).1 10
          simp only [List.getElem?_toArray,List.getElem?_cons_succ,List.getElem?_cons_zero] at c6 d2 d8 d10
          clear hY hX4 z2
          go_cut [83] (fun t wx=>t=.bool P∧wx=w4)
          case first =>
           as_aux_lemma =>
           clear h11 hB2 HP hOw hQ
           rcases hkk with hk | hk | hk
           ·have g1:(x.kd == 2)=true:=by simpa using hk
            have g2:(x.kd == 3)=false:=by simp;omega
            have hPc:decide (y.co<x.tw)=P:=by rw [Bool.eq_iff_iff,hP2];simp;omega
            exact Z8w
           ·have g1:(x.kd == 2)=false:=by simp;omega
            have g2:(x.kd == 3)=true:=by simpa using hk
            have hPc:decide (y.co≤x.tw)=P:=by rw [Bool.eq_iff_iff,hP2];simp;omega
            exact Z8w
           ·have g1:(x.kd == 2)=false:=by simp;omega
            have g2:(x.kd == 3)=false:=by simp;omega
            have hPc:P=false:=by rw [Bool.eq_false_iff];intro h;rw [hP2] at h;omega
            subst hPc
            clear hP2 hk
            exact Z9l
          case rest =>
           obtain ⟨rfl,rfl⟩:=hcut
           clear hP2 hkk c6 d10
           cases P
           ·simp only [Bool.false_eq_true,if_false] at HP
            cases Q <;>
            ·simp only [Bool.false_eq_true,if_false,if_true] at HP
             go_wp2_with (go_at_call 139;(with_reducible refine (hOw _ h11).mono ?_);rintro e w5 ⟨rfl,rfl⟩)
             exact HP.out _ _ hB2 rfl
           ·simp only [if_true] at HP
            go_wp2_with fail
            exact HP.out _ _ hB2 rfl
         ·have f1:(y.kd != 1)=true:=by simpa using hk
          rw [if_pos hk] at HP
          clear hk hkr
          exact Z84
  ·have e2:(E != 0)=true:=by simpa using h0
   rw [if_pos h0] at HP
   clear hE h h0
   show Calls Tryz.prog _ #[_,.agg #[.int .i64 x.id,.int .i64 x.kn,.int .u8 x.kd,.string x.wa,.int .i64 x.pit,.int .i64 x.ly,.int .i64 x.co,.bool x.ft,.int .i64 x.sh,.int .i64 x.fr,.int .i64 x.tw,.int .i64 x.lo,.int .i64 x.hi,.string x.st,.int .i64 x.li,.int .i64 x.vo]] w _
   go_enter Tryz.func74,Tryz.ntmps74
   go_wp2_with (first
    | (refine wpList_loadI rfl _ rfl rfl hdc ?_)
    | (go_at_call 27;(with_reducible refine (hCk _).mono ?_);rintro e w1 ⟨rfl,hb1⟩))
   exact HP.out _ _ (hB0.ch2 hb1) rfl
end Go.Proofs.YtelkcohhagblaaaGreat
