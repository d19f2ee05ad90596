/- What the functions answer, for every input. -/
import Derived.Test.YtelkcohhagblaaaGreatSe45
import Derived.Test.YtelkcohhagblaaaGreatSe27
import Derived.Test.YtelkcohhagblaaaGreatSe11
import Derived.Test.YtelkcohhagblaaaGreatSe08
set_option linter.unusedSimpArgs false
set_option linter.unusedVariables false
set_option linter.unnecessarySimpa false
namespace Go.Proofs.YtelkcohhagblaaaGreat
theorem Z9j {P:Prop}(h:P:=by
 exact HP.out _ _ (by rw [← c6.out];rfl) ((one_alloc _ _).ch2 (one_alloc _ _))):P:=h
theorem Z82 {P:Prop}(h:P:=by
 as_aux_lemma =>
 go_wp2_with (first
  | (go_at_call 78;(with_reducible refine (c1 _).mono ?_);rintro e w1 ⟨rfl,rfl⟩)
  | (go_at_call 80;(with_reducible refine (c5 _).mono ?_);rintro e w1 ⟨rfl,rfl⟩))
 exact Z9j):P:=h
theorem Z86 {P:Prop}(h:P:=by
 as_aux_lemma =>
 go_wp2_with (first
  | (go_at_call 79;(with_reducible refine (c1 _).mono ?_);rintro e w1 ⟨rfl,rfl⟩)
  | (go_at_call 78;(with_reducible refine (c2 _).mono ?_);rintro e w1 ⟨rfl,rfl⟩)
  | (go_at_call 78;(with_reducible refine (c3 _).mono ?_);rintro e w1 ⟨rfl,rfl⟩)
  | (go_at_call 78;(with_reducible refine (c4 _).mono ?_);rintro e w1 ⟨rfl,rfl⟩)
  | (go_at_call 80;(with_reducible refine (c5 _).mono ?_);rintro e w1 ⟨rfl,rfl⟩))
 exact Z9j):P:=h
open Go.RowKit Go.Shelf
set_option maxHeartbeats 8000000
set_option maxRecDepth 100000
theorem r2item_head (x:Itm) (w:World) (h:headI x=false):Calls Tryz.prog 27 #[x.v] w (EPost w 1):=by
 unfold headI at h
 have HP:=Lib.hid (show ∀ w',Below w.heap.size w w'→EPost w 1 (.returned (.int .i64 1)) w' from fun w' hb=>⟨rfl,hb⟩)
 generalize EPost w 1=Post at *
 have hW1:=fun W=>r2within_any x.id 1 1000000 W
 have hW2:=fun W=>r2within_any x.kn 0 100000 W
 have hB0:=one_alloc w (Obj.cells #[.int .i64 x.id,.int .i64 x.kn,.int .u8 x.kd,.string x.wa,.int .i64 x.pit,.int .i64 x.ly,.int .i64 x.co,.bool x.ft,.int .i64 x.sh,.int .i64 x.fr,.int .i64 x.tw,.int .i64 x.lo,.int .i64 x.hi,.string x.st,.int .i64 x.li,.int .i64 x.vo] 24)
 obtain ⟨d0,d1,_⟩:=(ItmCells.of_heap (World.alloc_heap_new w (Obj.cells #[.int .i64 x.id,.int .i64 x.kn,.int .u8 x.kd,.string x.wa,.int .i64 x.pit,.int .i64 x.ly,.int .i64 x.co,.bool x.ft,.int .i64 x.sh,.int .i64 x.fr,.int .i64 x.tw,.int .i64 x.lo,.int .i64 x.hi,.string x.st,.int .i64 x.li,.int .i64 x.vo] 24))).1
 generalize rngB x.id 1 1000000=R1 at *
 generalize rngB x.kn 0 100000=R2 at *
 simp only [Itm.v,Itm.cs]
 cases R1
 ·clear h hW2
  go_enter Tryz.func27,Tryz.ntmps27
  go_wp2_with (go_at_call 78;(with_reducible refine (hW1 _).mono ?_);rintro e w1 ⟨rfl,rfl⟩)
  exact HP.out _ hB0
 ·cases R2
  ·clear h
   go_enter Tryz.func27,Tryz.ntmps27
   go_wp2_with (first | (go_at_call 78;(with_reducible refine (hW1 _).mono ?_);rintro e w1 ⟨rfl,rfl⟩) | (go_at_call 78;(with_reducible refine (hW2 _).mono ?_);rintro e w1 ⟨rfl,rfl⟩))
   exact HP.out _ hB0
  ·simp at h
theorem wpList_storeI_nw {ops:Array Oper} {rest:List Oper} {o:Oper} {a:Act} {w0:World} {N:Nat} {Q:Exit→Act→World→Prop} (hN:w0.heap.size=N) (hgd:o.guard=none) (p y:Operand) (ho:o.op=.store 24 p y) (hx:a.eval p=.pointer (some ⟨N,0,none⟩)) {x:Itm} (hy:a.eval y=x.v) (hd:o.dst=none)
 (h:wpList Tryz.prog ops Q rest a (w0.alloc (Obj.cells #[.int .i64 x.id,.int .i64 x.kn,.int .u8 x.kd,.string x.wa,.int .i64 x.pit,.int .i64 x.ly,.int .i64 x.co,.bool x.ft,.int .i64 x.sh,.int .i64 x.fr,.int .i64 x.tw,.int .i64 x.lo,.int .i64 x.hi,.string x.st,.int .i64 x.li,.int .i64 x.vo] 24))):wpList Tryz.prog ops Q (o::rest) a (w0.alloc (Obj.cells #[.int .i64 0,.int .i64 0,.int .u8 0,.string ⟨#[]⟩,.int .i64 0,.int .i64 0,.int .i64 0,.bool false,.int .i64 0,.int .i64 0,.int .i64 0,.int .i64 0,.int .i64 0,.string ⟨#[]⟩,.int .i64 0,.int .i64 0] 24)):=by
 subst hN
 exact wpList_storeI_new hgd p y ho hx hy hd h
theorem item1_eq (x:Itm) (hk:x.kd=1):eqI ⟨0,0,0,⟨#[]⟩,0,0,0,false,x.sh,x.fr,x.tw,x.lo,x.hi,x.st,x.li,x.vo⟩ Itm.zero=eqI x x.form:=by
 unfold Itm.form eqI Itm.zero
 simp [hk]
theorem r2item1 (x:Itm) (w:World) (h:headI x=true) (hx:x.Wide) (hk:x.kd=1):Calls Tryz.prog 27 #[x.v] w (EPost w (itemE x)):=by
 have hI:itemB x=(kindB x && eqI x x.form):=by unfold itemB;rw [h];rfl
 unfold headI at h
 rw [Bool.and_eq_true] at h
 obtain ⟨h1,h2⟩:=h
 have hW1:=fun W=>r2within_any x.id 1 1000000 W
 have hW2:=fun W=>r2within_any x.kn 0 100000 W
 rw [h1] at hW1
 rw [h2] at hW2
 clear h1 h2
 have hB0:=(one_alloc w (Obj.cells #[.int .i64 x.id,.int .i64 x.kn,.int .u8 x.kd,.string x.wa,.int .i64 x.pit,.int .i64 x.ly,.int .i64 x.co,.bool x.ft,.int .i64 x.sh,.int .i64 x.fr,.int .i64 x.tw,.int .i64 x.lo,.int .i64 x.hi,.string x.st,.int .i64 x.li,.int .i64 x.vo] 24)).ch2 (one_alloc _ (Obj.cells #[.int .i64 x.id,.int .i64 x.kn,.int .u8 x.kd,.string x.wa,.int .i64 x.pit,.int .i64 x.ly,.int .i64 x.co,.bool x.ft,.int .i64 x.sh,.int .i64 x.fr,.int .i64 x.tw,.int .i64 x.lo,.int .i64 x.hi,.string x.st,.int .i64 x.li,.int .i64 x.vo] 24))
 have HX:=World.alloc_heap_new w (Obj.cells #[.int .i64 x.id,.int .i64 x.kn,.int .u8 x.kd,.string x.wa,.int .i64 x.pit,.int .i64 x.ly,.int .i64 x.co,.bool x.ft,.int .i64 x.sh,.int .i64 x.fr,.int .i64 x.tw,.int .i64 x.lo,.int .i64 x.hi,.string x.st,.int .i64 x.li,.int .i64 x.vo] 24)
 have hdc:=(ItmCells.of_heap HX).1
 have d0:=hdc.c0
 have d1:=hdc.c1
 have HP:=Lib.hid (show ∀ v w',v=itemE x→Below w.heap.size w w'→EPost w (itemE x) (.returned (.int .i64 v)) w' from fun v w' hv hb=>⟨by rw [hv],hb⟩)
 have hie:itemE x=if (kindB x && eqI x x.form)=true then 0 else 1:=by unfold itemE;rw [hI]
 rw [hie] at HP ⊢
 clear hI hie
 have hE:=item1_eq x hk
 have hne:=fun W=>neqI_run ⟨0,0,0,⟨#[]⟩,0,0,0,false,x.sh,x.fr,x.tw,x.lo,x.hi,x.st,x.li,x.vo⟩ Itm.zero W
 rw [hE] at hne
 simp only [Itm.v,Itm.cs,Itm.zero] at hne
 have hK:kindB x=(nameB x.wa.data.toList && rngB x.pit 1 20 && rngB x.ly 1 50 && rngB x.co 3 16):=by unfold kindB;rw [if_pos hk]
 rw [hK] at HP ⊢
 clear hK hE
 have c1:=fun W=>r2name_any x.wa W hx.wa
 have c2:=fun W=>r2within_any x.pit 1 20 W
 have c3:=fun W=>r2within_any x.ly 1 50 W
 have c4:=fun W=>r2within_any x.co 3 16 W
 have c5:=fun W=>r2measures_any 1 W
 rw [show measB 1=false from rfl] at c5
 generalize eqI x x.form=E at *
 generalize nameB x.wa.data.toList=B1 at *
 generalize rngB x.pit 1 20=B2 at *
 generalize rngB x.ly 1 50=B3 at *
 generalize rngB x.co 3 16=B4 at *
 generalize EPost w (if (B1 && B2 && B3 && B4 && E)=true then 0 else 1)=Post at *
 have Hk:=Lib.hid hk
 clear hk
 show Calls Tryz.prog _ #[.agg #[.int .i64 x.id,.int .i64 x.kn,.int .u8 x.kd,.string x.wa,.int .i64 x.pit,.int .i64 x.ly,.int .i64 x.co,.bool x.ft,.int .i64 x.sh,.int .i64 x.fr,.int .i64 x.tw,.int .i64 x.lo,.int .i64 x.hi,.string x.st,.int .i64 x.li,.int .i64 x.vo]] w _
 go_enter Tryz.func27,Tryz.ntmps27
 go_upto_region 8 with (first
  | (refine wpList_loadI rfl _ rfl rfl hdc ?_)
  | (refine wpList_storeI_nw (by simp) rfl _ _ rfl rfl rfl rfl ?_)
  | (go_at_call 78;(with_reducible refine (hW1 _).mono ?_);rintro e w1 ⟨rfl,rfl⟩)
  | (go_at_call 78;(with_reducible refine (hW2 _).mono ?_);rintro e w1 ⟨rfl,rfl⟩))
 have hk:=Hk.out
 clear hW1 hW2 HX hdc d0 d1 Hk
 generalize hZ:(B1 && B2 && B3 && B4 && E)=Z at *
 have c6:=Lib.hid hZ
 clear hZ
 cases B1
 ·exact Z86
 cases B2
 ·exact Z86
 cases B3
 ·exact Z86
 cases B4
 ·exact Z86
 cases E
 ·exact Z86
 ·exact Z86
theorem item2_eq (x:Itm) (hk:x.kd=2):eqI ⟨0,0,0,x.wa,x.pit,x.ly,x.co,x.ft,0,0,0,0,0,x.st,x.li,x.vo⟩ Itm.zero=eqI x x.form:=by
 unfold Itm.form eqI Itm.zero
 simp [hk]
theorem r2item2 (x:Itm) (w:World) (h:headI x=true) (hx:x.Wide) (hk:x.kd=2):Calls Tryz.prog 27 #[x.v] w (EPost w (itemE x)):=by
 have hI:itemB x=(kindB x && eqI x x.form):=by unfold itemB;rw [h];rfl
 unfold headI at h
 rw [Bool.and_eq_true] at h
 obtain ⟨h1,h2⟩:=h
 have hW1:=fun W=>r2within_any x.id 1 1000000 W
 have hW2:=fun W=>r2within_any x.kn 0 100000 W
 rw [h1] at hW1
 rw [h2] at hW2
 clear h1 h2
 have hB0:=(one_alloc w (Obj.cells #[.int .i64 x.id,.int .i64 x.kn,.int .u8 x.kd,.string x.wa,.int .i64 x.pit,.int .i64 x.ly,.int .i64 x.co,.bool x.ft,.int .i64 x.sh,.int .i64 x.fr,.int .i64 x.tw,.int .i64 x.lo,.int .i64 x.hi,.string x.st,.int .i64 x.li,.int .i64 x.vo] 24)).ch2 (one_alloc _ (Obj.cells #[.int .i64 x.id,.int .i64 x.kn,.int .u8 x.kd,.string x.wa,.int .i64 x.pit,.int .i64 x.ly,.int .i64 x.co,.bool x.ft,.int .i64 x.sh,.int .i64 x.fr,.int .i64 x.tw,.int .i64 x.lo,.int .i64 x.hi,.string x.st,.int .i64 x.li,.int .i64 x.vo] 24))
 have HX:=World.alloc_heap_new w (Obj.cells #[.int .i64 x.id,.int .i64 x.kn,.int .u8 x.kd,.string x.wa,.int .i64 x.pit,.int .i64 x.ly,.int .i64 x.co,.bool x.ft,.int .i64 x.sh,.int .i64 x.fr,.int .i64 x.tw,.int .i64 x.lo,.int .i64 x.hi,.string x.st,.int .i64 x.li,.int .i64 x.vo] 24)
 have hdc:=(ItmCells.of_heap HX).1
 have d0:=hdc.c0
 have d1:=hdc.c1
 have HP:=Lib.hid (show ∀ v w',v=itemE x→Below w.heap.size w w'→EPost w (itemE x) (.returned (.int .i64 v)) w' from fun v w' hv hb=>⟨by rw [hv],hb⟩)
 have hie:itemE x=if (kindB x && eqI x x.form)=true then 0 else 1:=by unfold itemE;rw [hI]
 rw [hie] at HP ⊢
 clear hI hie
 have hE:=item2_eq x hk
 have hne:=fun W=>neqI_run ⟨0,0,0,x.wa,x.pit,x.ly,x.co,x.ft,0,0,0,0,0,x.st,x.li,x.vo⟩ Itm.zero W
 rw [hE] at hne
 simp only [Itm.v,Itm.cs,Itm.zero] at hne
 have hK:kindB x=(rngB x.sh 1 1000000 && decide (0≤x.fr) && decide (x.fr<x.tw) && decide (x.tw≤16) && decide (1≤x.lo) && decide (x.lo≤x.hi) && decide (x.hi≤10000)):=by unfold kindB;rw [if_neg (by omega),if_pos hk]
 rw [hK] at HP ⊢
 clear hK hE
 have c1:=fun W=>r2within_any x.sh 1 1000000 W
 have c5:=fun W=>r2measures_any 2 W
 rw [show measB 2=true from rfl] at c5
 generalize eqI x x.form=E at *
 generalize rngB x.sh 1 1000000=B1 at *
 generalize hZ:(B1 && decide (0≤x.fr) && decide (x.fr<x.tw) && decide (x.tw≤16) && decide (1≤x.lo) && decide (x.lo≤x.hi) && decide (x.hi≤10000) && E)=Z at *
 generalize EPost w (if Z=true then 0 else 1)=Post at *
 have c6:=Lib.hid hZ
 clear hZ
 have Hk:=Lib.hid hk
 clear hk
 show Calls Tryz.prog _ #[.agg #[.int .i64 x.id,.int .i64 x.kn,.int .u8 x.kd,.string x.wa,.int .i64 x.pit,.int .i64 x.ly,.int .i64 x.co,.bool x.ft,.int .i64 x.sh,.int .i64 x.fr,.int .i64 x.tw,.int .i64 x.lo,.int .i64 x.hi,.string x.st,.int .i64 x.li,.int .i64 x.vo]] w _
 go_enter Tryz.func27,Tryz.ntmps27
 go_upto_region 8 with (first
  | (refine wpList_loadI rfl _ rfl rfl hdc ?_)
  | (refine wpList_storeI_nw (by simp) rfl _ _ rfl rfl rfl rfl ?_)
  | (go_at_call 78;(with_reducible refine (hW1 _).mono ?_);rintro e w1 ⟨rfl,rfl⟩)
  | (go_at_call 78;(with_reducible refine (hW2 _).mono ?_);rintro e w1 ⟨rfl,rfl⟩))
 have hk:=Hk.out
 clear hW1 hW2 HX hdc d0 d1 Hk
 obtain ⟨t0,e0⟩:∃ t,decide (0≤x.fr)=t:=⟨_,rfl⟩
 obtain ⟨t1,e1⟩:∃ t,decide (x.fr<x.tw)=t:=⟨_,rfl⟩
 obtain ⟨t2,e2⟩:∃ t,decide (x.tw≤16)=t:=⟨_,rfl⟩
 obtain ⟨t3,e3⟩:∃ t,decide (1≤x.lo)=t:=⟨_,rfl⟩
 obtain ⟨t4,e4⟩:∃ t,decide (x.lo≤x.hi)=t:=⟨_,rfl⟩
 obtain ⟨t5,e5⟩:∃ t,decide (x.hi≤10000)=t:=⟨_,rfl⟩
 rw [e0,e1,e2,e3,e4,e5] at c6
 cases B1
 ·exact Z82
 cases t0
 ·exact Z82
 cases t1
 ·exact Z82
 cases t2
 ·exact Z82
 cases t3
 ·exact Z82
 cases t4
 ·exact Z82
 cases t5
 ·exact Z82
 cases E <;>
 ·exact Z82
end Go.Proofs.YtelkcohhagblaaaGreat
