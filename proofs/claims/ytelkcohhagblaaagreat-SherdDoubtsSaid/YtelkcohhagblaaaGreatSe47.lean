/- What the functions answer, for every input. -/
import Derived.Test.YtelkcohhagblaaaGreatSe45
import Derived.Test.YtelkcohhagblaaaGreatSe46
set_option linter.unusedSimpArgs false
set_option linter.unusedVariables false
set_option linter.unnecessarySimpa false
namespace Go.Proofs.YtelkcohhagblaaaGreat
theorem Z9i {P:Prop}(h:P:=by
 as_aux_lemma =>
 go_wp2_with (first
  | (go_at_call 79;(with_reducible refine (c1 _).mono ?_);rintro e w1 ⟨rfl,rfl⟩)
  | (go_at_call 78;(with_reducible refine (c2 _).mono ?_);rintro e w1 ⟨rfl,rfl⟩)
  | (go_at_call 80;(with_reducible refine (c5 _).mono ?_);rintro e w1 ⟨rfl,rfl⟩))
 exact Z87):P:=h
theorem Z81 {P:Prop}(h:P:=by
 as_aux_lemma =>
 go_wp2_with (first
  | (go_at_call 78;(with_reducible refine (c1 _).mono ?_);rintro e w1 ⟨rfl,rfl⟩)
  | (go_at_call 80;(with_reducible refine (c5 _).mono ?_);rintro e w1 ⟨rfl,rfl⟩))
 exact Z9j):P:=h
theorem Z87 {P:Prop}(h:P:=by
 exact HP.out _ _ (by rw [← c6.out];rfl) ((one_alloc _ _).ch2 (one_alloc _ _))):P:=h
theorem Z8s {P:Prop}(h:P:=by
 unfold Itm.form eqI Itm.zero
 simp [hk]):P:=h
open Go.RowKit Go.Shelf
set_option maxHeartbeats 8000000
set_option maxRecDepth 100000
theorem item3_eq (x:Itm) (hk:x.kd=3):eqI ⟨0,0,0,x.wa,x.pit,x.ly,x.co,x.ft,0,0,0,0,0,x.st,x.li,x.vo⟩ Itm.zero=eqI x x.form:=by
 exact Z8s
theorem r2item3 (x:Itm) (w:World) (h:headI x=true) (hx:x.Wide) (hk:x.kd=3):Calls Tryz.prog 27 #[x.v] w (EPost w (itemE x)):=by
 have hI:itemB x=(kindB x && eqI x x.form):=by unfold itemB;rw [h];rfl
 unfold headI at h
 rw [Bool.and_eq_true] at h
 obtain ⟨h1,h2⟩:=h
 have hW1:=fun W=>r2within_any x.id 1 1000000 W
 have hW2:=fun W=>r2within_any x.kn 0 100000 W
 rw [h1] at hW1
 rw [h2] at hW2
 clear h1 h2
 have hB0:=(one_alloc w (Obj.cells #[.int .i64 x.id,.int .i64 x.kn,.int .u8 x.kd,.string x.wa,.int .i64 x.pit,.int .i64 x.ly,.int .i64 x.co,.bool x.ft,.int .i64 x.sh,.int .i64 x.fr,.int .i64 x.tw,.int .i64 x.lo,.int .i64 x.hi,.string x.st,.int .i64 x.li,.int .i64 x.vo] 24)).ch2 (one_alloc _ (Obj.cells #[.int .i64 x.id,.int .i64 x.kn,.int .u8 x.kd,.string x.wa,.int .i64 x.pit,.int .i64 x.ly,.int .i64 x.co,.bool x.ft,.int .i64 x.sh,.int .i64 x.fr,.int .i64 x.tw,.int .i64 x.lo,.int .i64 x.hi,.string x.st,.int .i64 x.li,.int .i64 x.vo] 24))
 have HX:=World.alloc_heap_new w (Obj.cells #[.int .i64 x.id,.int .i64 x.kn,.int .u8 x.kd,.string x.wa,.int .i64 x.pit,.int .i64 x.ly,.int .i64 x.co,.bool x.ft,.int .i64 x.sh,.int .i64 x.fr,.int .i64 x.tw,.int .i64 x.lo,.int .i64 x.hi,.string x.st,.int .i64 x.li,.int .i64 x.vo] 24)
 have hdc:=(ItmCells.of_heap HX).1
 have d0:=hdc.c0
 have d1:=hdc.c1
 have HP:=Lib.hid (show ∀ v w',v=itemE x→Below w.heap.size w w'→EPost w (itemE x) (.returned (.int .i64 v)) w' from fun v w' hv hb=>⟨by rw [hv],hb⟩)
 have hie:itemE x=if (kindB x && eqI x x.form)=true then 0 else 1:=by unfold itemE;rw [hI]
 rw [hie] at HP ⊢
 clear hI hie
 have hE:=item3_eq x hk
 have hne:=fun W=>neqI_run ⟨0,0,0,x.wa,x.pit,x.ly,x.co,x.ft,0,0,0,0,0,x.st,x.li,x.vo⟩ Itm.zero W
 rw [hE] at hne
 simp only [Itm.v,Itm.cs,Itm.zero] at hne
 have hK:kindB x=(rngB x.sh 1 1000000 && decide (0≤x.fr) && decide (x.fr<x.tw) && decide (x.tw≤15) && decide (-2880≤x.lo) && decide (x.lo≤x.hi) && decide (x.hi≤2880)):=by unfold kindB;rw [if_neg (by omega),if_neg (by omega),if_pos hk]
 rw [hK] at HP ⊢
 clear hK hE
 have c1:=fun W=>r2within_any x.sh 1 1000000 W
 have c5:=fun W=>r2measures_any 3 W
 rw [show measB 3=true from rfl] at c5
 generalize eqI x x.form=E at *
 generalize rngB x.sh 1 1000000=B1 at *
 generalize hZ:(B1 && decide (0≤x.fr) && decide (x.fr<x.tw) && decide (x.tw≤15) && decide (-2880≤x.lo) && decide (x.lo≤x.hi) && decide (x.hi≤2880) && E)=Z at *
 generalize EPost w (if Z=true then 0 else 1)=Post at *
 have c6:=Lib.hid hZ
 clear hZ
 have Hk:=Lib.hid hk
 clear hk
 show Calls Tryz.prog _ #[.agg #[.int .i64 x.id,.int .i64 x.kn,.int .u8 x.kd,.string x.wa,.int .i64 x.pit,.int .i64 x.ly,.int .i64 x.co,.bool x.ft,.int .i64 x.sh,.int .i64 x.fr,.int .i64 x.tw,.int .i64 x.lo,.int .i64 x.hi,.string x.st,.int .i64 x.li,.int .i64 x.vo]] w _
 go_enter Tryz.func27,Tryz.ntmps27
 go_upto_region 8 with (first
  | (refine wpList_loadI rfl _ rfl rfl hdc ?_)
  | (refine wpList_storeI_nw (by simp) rfl _ _ rfl rfl rfl rfl ?_)
  | (go_at_call 78;(with_reducible refine (hW1 _).mono ?_);rintro e w1 ⟨rfl,rfl⟩)
  | (go_at_call 78;(with_reducible refine (hW2 _).mono ?_);rintro e w1 ⟨rfl,rfl⟩))
 have hk:=Hk.out
 clear hW1 hW2 HX hdc d0 d1 Hk
 obtain ⟨t0,e0⟩:∃ t,decide (0≤x.fr)=t:=⟨_,rfl⟩
 obtain ⟨t1,e1⟩:∃ t,decide (x.fr<x.tw)=t:=⟨_,rfl⟩
 obtain ⟨t2,e2⟩:∃ t,decide (x.tw≤15)=t:=⟨_,rfl⟩
 obtain ⟨t3,e3⟩:∃ t,decide (-2880≤x.lo)=t:=⟨_,rfl⟩
 obtain ⟨t4,e4⟩:∃ t,decide (x.lo≤x.hi)=t:=⟨_,rfl⟩
 obtain ⟨t5,e5⟩:∃ t,decide (x.hi≤2880)=t:=⟨_,rfl⟩
 rw [e0,e1,e2,e3,e4,e5] at c6
 cases B1
 ·exact Z81
 cases t0
 ·exact Z81
 cases t1
 ·exact Z81
 cases t2
 ·exact Z81
 cases t3
 ·exact Z81
 cases t4
 ·exact Z81
 cases t5
 ·exact Z81
 cases E <;>
 ·exact Z81
theorem item4_eq (x:Itm) (hk:x.kd=4):eqI ⟨0,0,0,x.wa,x.pit,x.ly,x.co,x.ft,0,x.fr,x.tw,0,0,x.st,x.li,x.vo⟩ Itm.zero=eqI x x.form:=by
 exact Z8s
theorem r2item4 (x:Itm) (w:World) (h:headI x=true) (hx:x.Wide) (hk:x.kd=4):Calls Tryz.prog 27 #[x.v] w (EPost w (itemE x)):=by
 have hI:itemB x=(kindB x && eqI x x.form):=by unfold itemB;rw [h];rfl
 unfold headI at h
 rw [Bool.and_eq_true] at h
 obtain ⟨h1,h2⟩:=h
 have hW1:=fun W=>r2within_any x.id 1 1000000 W
 have hW2:=fun W=>r2within_any x.kn 0 100000 W
 rw [h1] at hW1
 rw [h2] at hW2
 clear h1 h2
 have hB0:=(one_alloc w (Obj.cells #[.int .i64 x.id,.int .i64 x.kn,.int .u8 x.kd,.string x.wa,.int .i64 x.pit,.int .i64 x.ly,.int .i64 x.co,.bool x.ft,.int .i64 x.sh,.int .i64 x.fr,.int .i64 x.tw,.int .i64 x.lo,.int .i64 x.hi,.string x.st,.int .i64 x.li,.int .i64 x.vo] 24)).ch2 (one_alloc _ (Obj.cells #[.int .i64 x.id,.int .i64 x.kn,.int .u8 x.kd,.string x.wa,.int .i64 x.pit,.int .i64 x.ly,.int .i64 x.co,.bool x.ft,.int .i64 x.sh,.int .i64 x.fr,.int .i64 x.tw,.int .i64 x.lo,.int .i64 x.hi,.string x.st,.int .i64 x.li,.int .i64 x.vo] 24))
 have HX:=World.alloc_heap_new w (Obj.cells #[.int .i64 x.id,.int .i64 x.kn,.int .u8 x.kd,.string x.wa,.int .i64 x.pit,.int .i64 x.ly,.int .i64 x.co,.bool x.ft,.int .i64 x.sh,.int .i64 x.fr,.int .i64 x.tw,.int .i64 x.lo,.int .i64 x.hi,.string x.st,.int .i64 x.li,.int .i64 x.vo] 24)
 have hdc:=(ItmCells.of_heap HX).1
 have d0:=hdc.c0
 have d1:=hdc.c1
 have HP:=Lib.hid (show ∀ v w',v=itemE x→Below w.heap.size w w'→EPost w (itemE x) (.returned (.int .i64 v)) w' from fun v w' hv hb=>⟨by rw [hv],hb⟩)
 have hie:itemE x=if (kindB x && eqI x x.form)=true then 0 else 1:=by unfold itemE;rw [hI]
 rw [hie] at HP ⊢
 clear hI hie
 have hE:=item4_eq x hk
 have hne:=fun W=>neqI_run ⟨0,0,0,x.wa,x.pit,x.ly,x.co,x.ft,0,x.fr,x.tw,0,0,x.st,x.li,x.vo⟩ Itm.zero W
 rw [hE] at hne
 simp only [Itm.v,Itm.cs,Itm.zero] at hne
 have hK:kindB x=(rngB x.sh 1 1000000 && decide (0≤x.lo) && decide (x.lo≤x.hi) && decide (x.hi≤1000)):=by unfold kindB;rw [if_neg (by omega),if_neg (by omega),if_neg (by omega),if_pos hk]
 rw [hK] at HP ⊢
 clear hK hE
 have c1:=fun W=>r2within_any x.sh 1 1000000 W
 have c5:=fun W=>r2measures_any 4 W
 rw [show measB 4=true from rfl] at c5
 generalize eqI x x.form=E at *
 generalize rngB x.sh 1 1000000=B1 at *
 generalize hZ:(B1 && decide (0≤x.lo) && decide (x.lo≤x.hi) && decide (x.hi≤1000) && E)=Z at *
 generalize EPost w (if Z=true then 0 else 1)=Post at *
 have c6:=Lib.hid hZ
 clear hZ
 have Hk:=Lib.hid hk
 clear hk
 show Calls Tryz.prog _ #[.agg #[.int .i64 x.id,.int .i64 x.kn,.int .u8 x.kd,.string x.wa,.int .i64 x.pit,.int .i64 x.ly,.int .i64 x.co,.bool x.ft,.int .i64 x.sh,.int .i64 x.fr,.int .i64 x.tw,.int .i64 x.lo,.int .i64 x.hi,.string x.st,.int .i64 x.li,.int .i64 x.vo]] w _
 go_enter Tryz.func27,Tryz.ntmps27
 go_upto_region 8 with (first
  | (refine wpList_loadI rfl _ rfl rfl hdc ?_)
  | (refine wpList_storeI_nw (by simp) rfl _ _ rfl rfl rfl rfl ?_)
  | (go_at_call 78;(with_reducible refine (hW1 _).mono ?_);rintro e w1 ⟨rfl,rfl⟩)
  | (go_at_call 78;(with_reducible refine (hW2 _).mono ?_);rintro e w1 ⟨rfl,rfl⟩))
 have hk:=Hk.out
 clear hW1 hW2 HX hdc d0 d1 Hk
 obtain ⟨t0,e0⟩:∃ t,decide (0≤x.lo)=t:=⟨_,rfl⟩
 obtain ⟨t1,e1⟩:∃ t,decide (x.lo≤x.hi)=t:=⟨_,rfl⟩
 obtain ⟨t2,e2⟩:∃ t,decide (x.hi≤1000)=t:=⟨_,rfl⟩
 rw [e0,e1,e2] at c6
 cases B1
 ·exact Z81
 cases t0
 ·exact Z81
 cases t1
 ·exact Z81
 cases t2
 ·exact Z81
 cases E <;>
 ·exact Z81
theorem item6_eq (x:Itm) (hk:x.kd=6):eqI ⟨0,0,0,⟨#[]⟩,x.pit,x.ly,x.co,x.ft,x.sh,x.fr,x.tw,x.lo,x.hi,x.st,0,x.vo⟩ Itm.zero=eqI x x.form:=by
 exact Z8s
theorem r2item6 (x:Itm) (w:World) (h:headI x=true) (hx:x.Wide) (hk:x.kd=6):Calls Tryz.prog 27 #[x.v] w (EPost w (itemE x)):=by
 have hI:itemB x=(kindB x && eqI x x.form):=by unfold itemB;rw [h];rfl
 unfold headI at h
 rw [Bool.and_eq_true] at h
 obtain ⟨h1,h2⟩:=h
 have hW1:=fun W=>r2within_any x.id 1 1000000 W
 have hW2:=fun W=>r2within_any x.kn 0 100000 W
 rw [h1] at hW1
 rw [h2] at hW2
 clear h1 h2
 have hB0:=(one_alloc w (Obj.cells #[.int .i64 x.id,.int .i64 x.kn,.int .u8 x.kd,.string x.wa,.int .i64 x.pit,.int .i64 x.ly,.int .i64 x.co,.bool x.ft,.int .i64 x.sh,.int .i64 x.fr,.int .i64 x.tw,.int .i64 x.lo,.int .i64 x.hi,.string x.st,.int .i64 x.li,.int .i64 x.vo] 24)).ch2 (one_alloc _ (Obj.cells #[.int .i64 x.id,.int .i64 x.kn,.int .u8 x.kd,.string x.wa,.int .i64 x.pit,.int .i64 x.ly,.int .i64 x.co,.bool x.ft,.int .i64 x.sh,.int .i64 x.fr,.int .i64 x.tw,.int .i64 x.lo,.int .i64 x.hi,.string x.st,.int .i64 x.li,.int .i64 x.vo] 24))
 have HX:=World.alloc_heap_new w (Obj.cells #[.int .i64 x.id,.int .i64 x.kn,.int .u8 x.kd,.string x.wa,.int .i64 x.pit,.int .i64 x.ly,.int .i64 x.co,.bool x.ft,.int .i64 x.sh,.int .i64 x.fr,.int .i64 x.tw,.int .i64 x.lo,.int .i64 x.hi,.string x.st,.int .i64 x.li,.int .i64 x.vo] 24)
 have hdc:=(ItmCells.of_heap HX).1
 have d0:=hdc.c0
 have d1:=hdc.c1
 have HP:=Lib.hid (show ∀ v w',v=itemE x→Below w.heap.size w w'→EPost w (itemE x) (.returned (.int .i64 v)) w' from fun v w' hv hb=>⟨by rw [hv],hb⟩)
 have hie:itemE x=if (kindB x && eqI x x.form)=true then 0 else 1:=by unfold itemE;rw [hI]
 rw [hie] at HP ⊢
 clear hI hie
 have hE:=item6_eq x hk
 have hne:=fun W=>neqI_run ⟨0,0,0,⟨#[]⟩,x.pit,x.ly,x.co,x.ft,x.sh,x.fr,x.tw,x.lo,x.hi,x.st,0,x.vo⟩ Itm.zero W
 rw [hE] at hne
 simp only [Itm.v,Itm.cs,Itm.zero] at hne
 have hK:kindB x=(nameB x.wa.data.toList && rngB x.li 1 40):=by unfold kindB;rw [if_neg (by omega),if_neg (by omega),if_neg (by omega),if_neg (by omega),if_neg (by omega),if_pos hk]
 rw [hK] at HP ⊢
 clear hK hE
 have c1:=fun W=>r2name_any x.wa W hx.wa
 have c2:=fun W=>r2within_any x.li 1 40 W
 have c5:=fun W=>r2measures_any 6 W
 rw [show measB 6=false from rfl] at c5
 generalize eqI x x.form=E at *
 generalize nameB x.wa.data.toList=B1 at *
 generalize rngB x.li 1 40=B2 at *
 generalize hZ:(B1 && B2 && E)=Z at *
 generalize EPost w (if Z=true then 0 else 1)=Post at *
 have c6:=Lib.hid hZ
 clear hZ
 have Hk:=Lib.hid hk
 clear hk
 show Calls Tryz.prog _ #[.agg #[.int .i64 x.id,.int .i64 x.kn,.int .u8 x.kd,.string x.wa,.int .i64 x.pit,.int .i64 x.ly,.int .i64 x.co,.bool x.ft,.int .i64 x.sh,.int .i64 x.fr,.int .i64 x.tw,.int .i64 x.lo,.int .i64 x.hi,.string x.st,.int .i64 x.li,.int .i64 x.vo]] w _
 go_enter Tryz.func27,Tryz.ntmps27
 go_upto_region 8 with (first
  | (refine wpList_loadI rfl _ rfl rfl hdc ?_)
  | (refine wpList_storeI_nw (by simp) rfl _ _ rfl rfl rfl rfl ?_)
  | (go_at_call 78;(with_reducible refine (hW1 _).mono ?_);rintro e w1 ⟨rfl,rfl⟩)
  | (go_at_call 78;(with_reducible refine (hW2 _).mono ?_);rintro e w1 ⟨rfl,rfl⟩))
 have hk:=Hk.out
 clear hW1 hW2 HX hdc d0 d1 Hk
 cases B1
 ·exact Z9i
 cases B2
 ·exact Z9i
 cases E <;>
 ·exact Z9i
theorem item7_eq (x:Itm) (hk:x.kd=7):eqI ⟨0,0,0,x.wa,x.pit,x.ly,x.co,x.ft,x.sh,x.fr,x.tw,x.lo,x.hi,x.st,x.li,0⟩ Itm.zero=eqI x x.form:=by
 exact Z8s
theorem r2item7 (x:Itm) (w:World) (h:headI x=true) (hx:x.Wide) (hk:x.kd=7):Calls Tryz.prog 27 #[x.v] w (EPost w (itemE x)):=by
 have hI:itemB x=(kindB x && eqI x x.form):=by unfold itemB;rw [h];rfl
 unfold headI at h
 rw [Bool.and_eq_true] at h
 obtain ⟨h1,h2⟩:=h
 have hW1:=fun W=>r2within_any x.id 1 1000000 W
 have hW2:=fun W=>r2within_any x.kn 0 100000 W
 rw [h1] at hW1
 rw [h2] at hW2
 clear h1 h2
 have hB0:=(one_alloc w (Obj.cells #[.int .i64 x.id,.int .i64 x.kn,.int .u8 x.kd,.string x.wa,.int .i64 x.pit,.int .i64 x.ly,.int .i64 x.co,.bool x.ft,.int .i64 x.sh,.int .i64 x.fr,.int .i64 x.tw,.int .i64 x.lo,.int .i64 x.hi,.string x.st,.int .i64 x.li,.int .i64 x.vo] 24)).ch2 (one_alloc _ (Obj.cells #[.int .i64 x.id,.int .i64 x.kn,.int .u8 x.kd,.string x.wa,.int .i64 x.pit,.int .i64 x.ly,.int .i64 x.co,.bool x.ft,.int .i64 x.sh,.int .i64 x.fr,.int .i64 x.tw,.int .i64 x.lo,.int .i64 x.hi,.string x.st,.int .i64 x.li,.int .i64 x.vo] 24))
 have HX:=World.alloc_heap_new w (Obj.cells #[.int .i64 x.id,.int .i64 x.kn,.int .u8 x.kd,.string x.wa,.int .i64 x.pit,.int .i64 x.ly,.int .i64 x.co,.bool x.ft,.int .i64 x.sh,.int .i64 x.fr,.int .i64 x.tw,.int .i64 x.lo,.int .i64 x.hi,.string x.st,.int .i64 x.li,.int .i64 x.vo] 24)
 have hdc:=(ItmCells.of_heap HX).1
 have d0:=hdc.c0
 have d1:=hdc.c1
 have HP:=Lib.hid (show ∀ v w',v=itemE x→Below w.heap.size w w'→EPost w (itemE x) (.returned (.int .i64 v)) w' from fun v w' hv hb=>⟨by rw [hv],hb⟩)
 have hie:itemE x=if (kindB x && eqI x x.form)=true then 0 else 1:=by unfold itemE;rw [hI]
 rw [hie] at HP ⊢
 clear hI hie
 have hE:=item7_eq x hk
 have hne:=fun W=>neqI_run ⟨0,0,0,x.wa,x.pit,x.ly,x.co,x.ft,x.sh,x.fr,x.tw,x.lo,x.hi,x.st,x.li,0⟩ Itm.zero W
 rw [hE] at hne
 simp only [Itm.v,Itm.cs,Itm.zero] at hne
 have hK:kindB x=(rngB x.vo 1 1000000):=by unfold kindB;rw [if_neg (by omega),if_neg (by omega),if_neg (by omega),if_neg (by omega),if_neg (by omega),if_neg (by omega),if_pos hk]
 rw [hK] at HP ⊢
 clear hK hE
 have c1:=fun W=>r2within_any x.vo 1 1000000 W
 have c5:=fun W=>r2measures_any 7 W
 rw [show measB 7=false from rfl] at c5
 generalize eqI x x.form=E at *
 generalize rngB x.vo 1 1000000=B1 at *
 generalize hZ:(B1 && E)=Z at *
 generalize EPost w (if Z=true then 0 else 1)=Post at *
 have c6:=Lib.hid hZ
 clear hZ
 have Hk:=Lib.hid hk
 clear hk
 show Calls Tryz.prog _ #[.agg #[.int .i64 x.id,.int .i64 x.kn,.int .u8 x.kd,.string x.wa,.int .i64 x.pit,.int .i64 x.ly,.int .i64 x.co,.bool x.ft,.int .i64 x.sh,.int .i64 x.fr,.int .i64 x.tw,.int .i64 x.lo,.int .i64 x.hi,.string x.st,.int .i64 x.li,.int .i64 x.vo]] w _
 go_enter Tryz.func27,Tryz.ntmps27
 go_upto_region 8 with (first
  | (refine wpList_loadI rfl _ rfl rfl hdc ?_)
  | (refine wpList_storeI_nw (by simp) rfl _ _ rfl rfl rfl rfl ?_)
  | (go_at_call 78;(with_reducible refine (hW1 _).mono ?_);rintro e w1 ⟨rfl,rfl⟩)
  | (go_at_call 78;(with_reducible refine (hW2 _).mono ?_);rintro e w1 ⟨rfl,rfl⟩))
 have hk:=Hk.out
 clear hW1 hW2 HX hdc d0 d1 Hk
 cases B1
 ·exact Z81
 cases E <;>
 ·exact Z81
end Go.Proofs.YtelkcohhagblaaaGreat
