/-
  The law ChecksE, walked, and its statement.
-/
import Derived.Test.YtelkcohhagblaaaGreatLawChecksA
set_option linter.unusedSimpArgs false
set_option linter.unusedVariables false
set_option linter.unnecessarySimpa false
namespace Go.Proofs.YtelkcohhagblaaaGreat
theorem Z8p {P:Prop}(h:P:=by
 go_wp2_with (first
  | (go_at_call 78;(with_reducible refine (c1 _).mono ?_);rintro e w1 ⟨rfl,rfl⟩)
  | (go_at_call 81;(with_reducible refine (c2 _).mono ?_);rintro e w2 ⟨rfl,hb2⟩)
  | (go_at_call 80;(with_reducible refine (c5 _).mono ?_);rintro e w1 ⟨rfl,rfl⟩))
 exact Z88):P:=h
theorem Z88 {P:Prop}(h:P:=by
 exact HP.out _ _ (by rw [← c6.out];rfl) ((one_alloc _ _).ch2 (one_alloc _ _))):P:=h
theorem Z8a {P:Prop}(h:P:=by
 as_aux_lemma =>
 go_upto_region 37 with (first
  | (go_at_call 78;(with_reducible refine (c1 _).mono ?_);rintro e w1 ⟨rfl,rfl⟩)
  | (go_at_call 81;(with_reducible refine (c2 _).mono ?_);rintro e w2 ⟨rfl,hb2⟩;have hX2:=(hb2.block w.heap.size Zj).trans (alKeep (World.alloc_heap_new w _));have hR2:=(hb2.block (w.heap.size +1) (by simp)).trans (alloc2_get w _ _);have hB2:=((one_alloc w _).ch2 (one_alloc _ _)).ch2 hb2)
  | (go_at_call 80;(with_reducible refine (c5 _).mono ?_);rintro e w1 ⟨rfl,rfl⟩))
 have d2:=(SL.cells_of hX2).1 2
 obtain ⟨⟨r0,r1,r2,r3,r4,r5,r6,r7,r8,r9,r10,r11,r12,r13,r14,r15⟩,rf,rl⟩:=ItmCells.of_heap (x:=⟨0,0,0,x.wa,x.pit,x.ly,x.co,x.ft,0,x.fr,x.tw,x.lo,x.hi,x.st,x.li,x.vo⟩) hR2
 simp only at r0 r1 r2 r3 r4 r5 r6 r7 r8 r9 r10 r11 r12 r13 r14 r15 d2
 have HB:=Lib.hid hB2
 clear hX2 hR2 hb2 hB2
 go_wp2_with fail
 all_goals first
  | exact HP.out _ _ (by rw [← c6.out];rfl) (HB.out.setCell (show w.heap.size≤w.heap.size +1 by omega) _)
  | (rename_i hh;exact absurd (List.isEmpty_iff.1 hh) hn2)):P:=h
open Go.RowKit Go.Shelf
set_option maxHeartbeats 8000000
set_option maxRecDepth 100000
theorem item5_eq (x:Itm) (hk:x.kd=5):eqI ⟨0,0,0,x.wa,x.pit,x.ly,x.co,x.ft,0,x.fr,x.tw,x.lo,x.hi,⟨#[]⟩,x.li,x.vo⟩ Itm.zero=eqI x x.form:=by
 unfold Itm.form eqI Itm.zero
 simp [hk]
theorem alloc2_get (w:World) (A B:Obj):((w.alloc A).alloc B).heap[w.heap.size +1]?=some B:=by
 have:=World.alloc_heap_new (w.alloc A) B
 rwa [World.size_alloc] at this
theorem r2item5 (x:Itm) (w:World) (h:headI x=true) (hx:x.Wide) (hk:x.kd=5):Calls Tryz.prog 27 #[x.v] w (EPost w (itemE x)):=by
 have hI:itemB x=(kindB x && eqI x x.form):=by unfold itemB;rw [h];rfl
 unfold headI at h
 rw [Bool.and_eq_true] at h
 obtain ⟨h1,h2⟩:=h
 have hW1:=fun W=>r2within_any x.id 1 1000000 W
 have hW2:=fun W=>r2within_any x.kn 0 100000 W
 rw [h1] at hW1
 rw [h2] at hW2
 clear h1 h2
 have hB0:=(one_alloc w (Obj.cells #[.int .i64 x.id,.int .i64 x.kn,.int .u8 x.kd,.string x.wa,.int .i64 x.pit,.int .i64 x.ly,.int .i64 x.co,.bool x.ft,.int .i64 x.sh,.int .i64 x.fr,.int .i64 x.tw,.int .i64 x.lo,.int .i64 x.hi,.string x.st,.int .i64 x.li,.int .i64 x.vo] 24)).ch2 (one_alloc _ (Obj.cells #[.int .i64 x.id,.int .i64 x.kn,.int .u8 x.kd,.string x.wa,.int .i64 x.pit,.int .i64 x.ly,.int .i64 x.co,.bool x.ft,.int .i64 x.sh,.int .i64 x.fr,.int .i64 x.tw,.int .i64 x.lo,.int .i64 x.hi,.string x.st,.int .i64 x.li,.int .i64 x.vo] 24))
 have HX:=World.alloc_heap_new w (Obj.cells #[.int .i64 x.id,.int .i64 x.kn,.int .u8 x.kd,.string x.wa,.int .i64 x.pit,.int .i64 x.ly,.int .i64 x.co,.bool x.ft,.int .i64 x.sh,.int .i64 x.fr,.int .i64 x.tw,.int .i64 x.lo,.int .i64 x.hi,.string x.st,.int .i64 x.li,.int .i64 x.vo] 24)
 have hdc:=(ItmCells.of_heap HX).1
 have d0:=hdc.c0
 have d1:=hdc.c1
 have HP:=Lib.hid (show ∀ v w',v=itemE x→Below w.heap.size w w'→EPost w (itemE x) (.returned (.int .i64 v)) w' from fun v w' hv hb=>⟨by rw [hv],hb⟩)
 have hie:itemE x=if (kindB x && eqI x x.form)=true then 0 else 1:=by unfold itemE;rw [hI]
 rw [hie] at HP ⊢
 clear hI hie
 have hE:=item5_eq x hk
 have hne:=fun W=>neqI_run ⟨0,0,0,x.wa,x.pit,x.ly,x.co,x.ft,0,x.fr,x.tw,x.lo,x.hi,⟨#[]⟩,x.li,x.vo⟩ Itm.zero W
 rw [hE] at hne
 simp only [Itm.v,Itm.cs,Itm.zero] at hne
 have hK:kindB x=(rngB x.sh 1 1000000 && setS x.st.data.toList):=by unfold kindB;rw [if_neg (by omega),if_neg (by omega),if_neg (by omega),if_neg (by omega),if_pos hk]
 rw [hK] at HP ⊢
 clear hK hE
 have c1:=fun W=>r2within_any x.sh 1 1000000 W
 have c2:=fun W=>r2classes_any x.st W hx.st
 have c5:=fun W=>r2measures_any 5 W
 rw [show measB 5=true from rfl] at c5
 have hS:setS x.st.data.toList=(ascS x.st.data.toList && !x.st.data.toList.isEmpty):=rfl
 rw [hS] at HP ⊢
 clear hS
 generalize eqI x x.form=E at *
 generalize rngB x.sh 1 1000000=B1 at *
 generalize ascS x.st.data.toList=B2 at *
 generalize hN:x.st.data.toList.isEmpty=N at *
 generalize hZ:(B1 && (B2 && !N) && E)=Z at *
 generalize EPost w (if Z=true then 0 else 1)=Post at *
 have c6:=Lib.hid hZ
 clear hZ
 have Hk:=Lib.hid hk
 clear hk
 show Calls Tryz.prog _ #[.agg #[.int .i64 x.id,.int .i64 x.kn,.int .u8 x.kd,.string x.wa,.int .i64 x.pit,.int .i64 x.ly,.int .i64 x.co,.bool x.ft,.int .i64 x.sh,.int .i64 x.fr,.int .i64 x.tw,.int .i64 x.lo,.int .i64 x.hi,.string x.st,.int .i64 x.li,.int .i64 x.vo]] w _
 go_enter Tryz.func27,Tryz.ntmps27
 go_upto_region 8 with (first
  | (refine wpList_loadI rfl _ rfl rfl hdc ?_)
  | (refine wpList_storeI_nw (by simp) rfl _ _ rfl rfl rfl rfl ?_)
  | (go_at_call 78;(with_reducible refine (hW1 _).mono ?_);rintro e w1 ⟨rfl,rfl⟩)
  | (go_at_call 78;(with_reducible refine (hW2 _).mono ?_);rintro e w1 ⟨rfl,rfl⟩))
 have hk:=Hk.out
 clear hW1 hW2 HX hdc d0 d1 Hk
 cases B1
 ·as_aux_lemma =>
  exact Z8p
 have hn1:(N=true→x.st.toList=[])∧(N=false→¬ x.st.toList=[]):=by
  rw [← hN,ByteArray.toList_eq]
  cases x.st.data.toList <;> simp
 clear hN
 cases N
 rotate_left
 ·have hn2:=hn1.1 rfl
  clear hn1
  as_aux_lemma =>
  have c6:=Lib.hid (show false=Z by rw [← c6.out];cases B2 <;> rfl)
  exact Z8p
 have hn2:=hn1.2 rfl
 clear hn1
 cases B2
 ·exact Z8a
 cases E <;>
 ·exact Z8a
theorem r2item0 (x:Itm) (w:World) (h:headI x=true) (hk:¬ (1≤x.kd∧x.kd≤7)):Calls Tryz.prog 27 #[x.v] w (EPost w (itemE x)):=by
 have hI:itemB x=(kindB x && eqI x x.form):=by unfold itemB;rw [h];rfl
 unfold headI at h
 rw [Bool.and_eq_true] at h
 obtain ⟨h1,h2⟩:=h
 have hW1:=fun W=>r2within_any x.id 1 1000000 W
 have hW2:=fun W=>r2within_any x.kn 0 100000 W
 rw [h1] at hW1
 rw [h2] at hW2
 clear h1 h2
 have hB0:=(one_alloc w (Obj.cells #[.int .i64 x.id,.int .i64 x.kn,.int .u8 x.kd,.string x.wa,.int .i64 x.pit,.int .i64 x.ly,.int .i64 x.co,.bool x.ft,.int .i64 x.sh,.int .i64 x.fr,.int .i64 x.tw,.int .i64 x.lo,.int .i64 x.hi,.string x.st,.int .i64 x.li,.int .i64 x.vo] 24)).ch2 (one_alloc _ (Obj.cells #[.int .i64 x.id,.int .i64 x.kn,.int .u8 x.kd,.string x.wa,.int .i64 x.pit,.int .i64 x.ly,.int .i64 x.co,.bool x.ft,.int .i64 x.sh,.int .i64 x.fr,.int .i64 x.tw,.int .i64 x.lo,.int .i64 x.hi,.string x.st,.int .i64 x.li,.int .i64 x.vo] 24))
 have HX:=World.alloc_heap_new w (Obj.cells #[.int .i64 x.id,.int .i64 x.kn,.int .u8 x.kd,.string x.wa,.int .i64 x.pit,.int .i64 x.ly,.int .i64 x.co,.bool x.ft,.int .i64 x.sh,.int .i64 x.fr,.int .i64 x.tw,.int .i64 x.lo,.int .i64 x.hi,.string x.st,.int .i64 x.li,.int .i64 x.vo] 24)
 have hdc:=(ItmCells.of_heap HX).1
 have d0:=hdc.c0
 have d1:=hdc.c1
 have HP:=Lib.hid (show ∀ v w',v=itemE x→Below w.heap.size w w'→EPost w (itemE x) (.returned (.int .i64 v)) w' from fun v w' hv hb=>⟨by rw [hv],hb⟩)
 have hie:itemE x=if (kindB x && eqI x x.form)=true then 0 else 1:=by unfold itemE;rw [hI]
 rw [hie] at HP ⊢
 clear hI hie
 have hK:kindB x=false:=by unfold kindB;rw [if_neg (by omega),if_neg (by omega),if_neg (by omega),if_neg (by omega),if_neg (by omega),if_neg (by omega),if_neg (by omega)]
 rw [hK] at HP ⊢
 clear hK
 generalize eqI x x.form=E at *
 generalize EPost w (if (false && E)=true then 0 else 1)=Post at *
 have c5:=fun W=>r2measures_any x.kd W
 rw [show measB x.kd=false by unfold measB;simp;omega] at c5
 have e1:(x.kd == 1)=false:=by simp;omega
 have e2:(x.kd == 2)=false:=by simp;omega
 have e3:(x.kd == 3)=false:=by simp;omega
 have e4:(x.kd == 4)=false:=by simp;omega
 have e5:(x.kd == 5)=false:=by simp;omega
 have e6:(x.kd == 6)=false:=by simp;omega
 have e7:(x.kd == 7)=false:=by simp;omega
 have f1:decide (x.kd=1)=false:=by simp;omega
 have f2:decide (x.kd=2)=false:=by simp;omega
 have f3:decide (x.kd=3)=false:=by simp;omega
 have f4:decide (x.kd=4)=false:=by simp;omega
 have f5:decide (x.kd=5)=false:=by simp;omega
 have f6:decide (x.kd=6)=false:=by simp;omega
 have f7:decide (x.kd=7)=false:=by simp;omega
 have Hk:=Lib.hid hk
 clear hk
 show Calls Tryz.prog _ #[.agg #[.int .i64 x.id,.int .i64 x.kn,.int .u8 x.kd,.string x.wa,.int .i64 x.pit,.int .i64 x.ly,.int .i64 x.co,.bool x.ft,.int .i64 x.sh,.int .i64 x.fr,.int .i64 x.tw,.int .i64 x.lo,.int .i64 x.hi,.string x.st,.int .i64 x.li,.int .i64 x.vo]] w _
 go_enter Tryz.func27,Tryz.ntmps27
 go_upto_region 8 with (first
  | (refine wpList_loadI rfl _ rfl rfl hdc ?_)
  | (refine wpList_storeI_nw (by simp) rfl _ _ rfl rfl rfl rfl ?_)
  | (go_at_call 78;(with_reducible refine (hW1 _).mono ?_);rintro e w1 ⟨rfl,rfl⟩)
  | (go_at_call 78;(with_reducible refine (hW2 _).mono ?_);rintro e w1 ⟨rfl,rfl⟩))
 have hk:=Hk.out
 clear hW1 hW2 HX hdc d0 d1 Hk
 go_wp2_with (go_at_call 80;(with_reducible refine (c5 _).mono ?_);rintro e w1 ⟨rfl,rfl⟩)
 exact HP.out _ _ (by simp) ((one_alloc _ _).ch2 (one_alloc _ _))
end Go.Proofs.YtelkcohhagblaaaGreat
