/- What the functions answer, for every input. -/
import Derived.Test.YtelkcohhagblaaaGreatSe26
import Derived.Test.YtelkcohhagblaaaGreatSe08
import Derived.Test.YtelkcohhagblaaaGreatSe10
import Derived.Test.YtelkcohhagblaaaGreatSe24
import Derived.Test.YtelkcohhagblaaaGreatSe11
import Derived.Test.YtelkcohhagblaaaGreatSe03
set_option linter.unusedSimpArgs false
set_option linter.unusedVariables false
set_option linter.unnecessarySimpa false
namespace Go.Proofs.YtelkcohhagblaaaGreat
open Go
theorem spareL_sub {α:Type} (nd:List α→Bool) (l:List α):(spareL nd l).Sublist l:=spareK_sub nd _ l
/-- Two colours have nothing in common. -/
def clashI (a b:Itm):Bool:=decide (b.hi<a.lo) || decide (a.hi<b.lo)
/-- The first of the list's front with which an item clashes. -/
def clashTo (l:List Itm) (a:Itm):Option Itm:=l.find? fun b=>clashI a b
/-- The first two that clash. -/
def clashP (l:List Itm):Nat→List Itm
 | 0=>[]
 | i +1=>match clashP l i with
   | []=>(match clashTo (l.take i) (l.getD i default) with | none=>[] | some b=>[b,l.getD i default])
   | p=>p
def clashL (l:List Itm):List Itm:=clashP l l.length
theorem clashP_some {l:List Itm}:∀ {i:Nat},i≤l.length→clashP l i≠[]→∃ a b,clashP l i=[b,a]∧a ∈ l∧b ∈ l∧clashI a b=true∧[b,a].Sublist l
 | 0,_,h=>absurd rfl h
 | i +1,hi,h=>by
   unfold clashP at h ⊢
   cases h1:clashP l i with
   | nil =>
     rw [h1] at h
     simp only at h ⊢
     cases h2:clashTo (l.take i) (l.getD i default) with
     | none=>rw [h2] at h;exact absurd rfl h
     | some b =>
       simp only
       have hb:=List.mem_of_find?_eq_some h2
       have hc:=List.find?_some h2
       refine ⟨_,b,rfl,Itm.getm (by omega),List.mem_of_mem_take hb,hc,?_⟩
       have e:l=l.take i ++l.getD i default::l.drop (i +1):=by
        rw [List.getD_eq_getElem?_getD,List.getElem?_eq_getElem (by omega)]
        simp
       conv=>rhs;rw [e]
       exact List.Sublist.append (List.singleton_sublist.2 hb) (List.singleton_sublist.2 (by simp))
   | cons x p =>
     simp only
     have:=clashP_some (l:=l) (i:=i) (by omega) (by rw [h1];simp)
     rwa [h1] at this
/-- The system of a kind of a sherd by some of its measurements. -/
def sysP (k co:Int):Int:=if k=2 then co +1 else co
def sysB (k co:Int) (ms:List Itm):List Bd:=if k=2 then waysB co ms else turnsB co ms
/-- Measurements of a kind contradict each other. -/
def contraB (k co:Int) (ms:List Itm):Bool:=if k=5 then (comC (setsL ms)).isEmpty else !okB (sysP k co) (sysB k co ms)
/-- Items of a kind that contradict each other. -/
def doubtL (s:List Itm) (k:Int) (y:Shd):List Itm :=
 if k=4 then clashL (keptL s k y.id)
 else if contraB k y.co (keptL s k y.id) then spareL (fun r=>!contraB k y.co r) (keptL s k y.id) else []
theorem doubtL_sub (s:List Itm) (k:Int) (y:Shd):(doubtL s k y).Sublist (keptL s k y.id):=by
 unfold doubtL
 split
 ·unfold clashL
  by_cases h:clashP (keptL s k y.id) (keptL s k y.id).length=[]
  ·rw [h];exact List.nil_sublist _
  ·obtain ⟨a,b,e,_,_,_,h2⟩:=clashP_some (Nat.le_refl _) h
   rw [e];exact h2
 ·split
  ·exact spareL_sub _ _
  ·exact List.nil_sublist _
/-- The doubts of a sherd: the kind of each, and its Ids. -/
def doubtsL (s:List Itm) (y:Shd):List (Int × List Int):=([2,3,4,5]:List Int).filterMap fun k=>if doubtL s k y=[] then none else some (k - 1,idsI (doubtL s k y))
/-- An end of a way by some measurements. -/
def endN (co:Int) (fr tw:Int) (up:Bool) (ms:List Itm):Int × Bool :=
 if up then (grN (co +1) (waysB co ms) fr tw,grB (co +1) (waysB co ms) fr tw) else (if grB (co +1) (waysB co ms) tw fr then - grN (co +1) (waysB co ms) tw fr else 0,grB (co +1) (waysB co ms) tw fr)
def endNeeds (co:Int) (fr tw:Int) (up:Bool) (l ms:List Itm):Bool:=!((endN co fr tw up ms).1 == (endN co fr tw up l).1 && (endN co fr tw up ms).2 == (endN co fr tw up l).2)
def wRestsL (l:List Itm) (day id fr tw:Int) (up:Bool):List Int :=
 if wayE l day id fr tw=0 then idsI (spareL (endNeeds (lookS l day id).co fr tw up (keptL (countL l day) 2 id)) (keptL (countL l day) 2 id)) else []
theorem grN_none {p x y:Int} {bs:List Bd} (h:grB p bs x y=false):grN p bs x y=0:=by
 unfold grB at h
 unfold grN
 rw [if_neg Z3v]
def endX (co fr tw:Int) (up:Bool) (ms:List Itm):Int:=if up then askE (co +1) (waysB co ms) fr tw else askE (co +1) (waysB co ms) tw fr
theorem endX_zero {co fr tw:Int} {ms:List Itm} (up:Bool) (hc:chk (co +1) (waysB co ms)=0) (hok:okB (co +1) (waysB co ms)=true) (h1:0≤fr) (h2:fr<tw) (h3:tw≤co):endX co fr tw up ms=0:=by
 unfold endX
 cases up
 ·exact Z4n
 ·exact Z4n
theorem endN_low {co fr tw:Int} {m:List Itm}:(endN co fr tw false m).1= - grN (co +1) (waysB co m) tw fr∧(endN co fr tw false m).2=grB (co +1) (waysB co m) tw fr:=by
 have e:endN co fr tw false m=((if grB (co +1) (waysB co m) tw fr then - grN (co +1) (waysB co m) tw fr else 0),grB (co +1) (waysB co m) tw fr):=rfl
 rw [e]
 refine ⟨?_,rfl⟩
 show (if grB (co +1) (waysB co m) tw fr then - grN (co +1) (waysB co m) tw fr else 0)=_
 cases hg:grB (co +1) (waysB co m) tw fr
 ·rw [grN_none hg];rfl
 ·rfl
set_option maxRecDepth 100000
theorem ex_way1:wayLo shelfL 1 1 0 1=18∧wayHi shelfL 1 1 0 1=24∧wayK shelfL 1 1 0 1=true∧wayE shelfL 1 1 0 1=0:=by
 refine ⟨?_,?_,?_,?_⟩ <;> kernel_rfl
theorem ex_way2:wayK shelfL 2 1 0 3=false∧wayE shelfL 2 1 0 3=0:=by
 exact Z2t
theorem ex_way3:wayE shelfL 5 1 0 1=21:=by kernel_rfl
theorem ex_col:colR shelfL 3 1=⟨450,500,5,4⟩∧colE shelfL 3 1=0:=by
 exact Z2t
theorem ex_cur:curR shelfL 3 1=[98,99,100]∧curE shelfL 3 1=0:=by
 exact Z2t
theorem ex_rests:wRestsL shelfL 4 1 0 1 true=[2,3]∧wayE shelfL 4 1 0 1=0:=by
 exact Z2t
theorem ex_turn:turnLo shelfL 5 1 0 3= -537∧turnHi shelfL 5 1 0 3=537∧turnE shelfL 5 1 0 3=0:=by
 refine ⟨?_,?_,?_⟩ <;> kernel_rfl
theorem ex_dubs:lookE shelfL 5 1=0∧doubtsL (countL shelfL 5) (lookS shelfL 5 1)=[(1,[2,3,7])]:=by
 exact Z2t
open Go.RowKit Go.Shelf
set_option maxHeartbeats 4000000
set_option maxRecDepth 100000
theorem run_loadI {w:World} {g o:Nat} {x:Itm} (hc:ItmCells w g o x):(Instr.loadAt 24 (.pointer (some ⟨g,o,none⟩))).run Tryz.prog w=.ok x.v w:=by
 obtain ⟨c0,c1,c2,c3,c4,c5,c6,c7,c8,c9,c10,c11,c12,c13,c14,c15⟩:=hc
 simp only [Itm.v,Itm.cs]
 simp [go_sem,Instr.loadAt,Instr.sureAddr,Tryz.underlying24, *]
theorem run_storeI {w:World} {g o:Nat} {x y:Itm} (hc:ItmCells w g o y) (hf:∀ i,w.frozen? ⟨g,i,none⟩=false):(Instr.storeAt 24 (.pointer (some ⟨g,o,none⟩)) x.v).run Tryz.prog w=.ok () (putsAt w g o x.cs):=by
 obtain ⟨c0,c1,c2,c3,c4,c5,c6,c7,c8,c9,c10,c11,c12,c13,c14,c15⟩:=hc
 simp only [Itm.v,Itm.cs,putsAt]
 simp [go_sem,Instr.storeAt,Instr.sureAddr,Tryz.underlying24, *]
theorem wp_loadI {o:Oper} {a:Act} {w:World} {K:Act→World→Prop} {Q:Exit→Act→World→Prop} (p:Operand) (ho:o.op=.load 24 p) {g q:Nat} {x:Itm} (hx:a.eval p=.pointer (some ⟨g,q,none⟩)) (hc:ItmCells w g q x)
 (h:K (a.put o.dst x.v) w):o.wp Tryz.prog a w K Q:=by
 have hr:=run_loadI hc
 unfold Oper.wp
 simp only [execOp,ho,hx,Sem.run_bind,hr,Result.andThen_ok]
 simpa [Oper.upon] using h
theorem wp_storeI {o:Oper} {a:Act} {w:World} {K:Act→World→Prop} {Q:Exit→Act→World→Prop} (p y:Operand) (ho:o.op=.store 24 p y) {g q:Nat} (hx:a.eval p=.pointer (some ⟨g,q,none⟩)) {x old:Itm} (hy:a.eval y=x.v) (hc:ItmCells w g q old) (hf:∀ i,w.frozen? ⟨g,i,none⟩=false) (hd:o.dst=none)
 (h:K a (putsAt w g q x.cs)):o.wp Tryz.prog a w K Q:=by
 have hr:=run_storeI (x:=x) hc hf
 unfold Oper.wp
 simp only [execOp,ho,hx,hy,Sem.run_bind,hr,Result.andThen_ok]
 simpa [Oper.upon,hd,Act.put] using h
theorem wpList_loadI {ops:Array Oper} {rest:List Oper} {o:Oper} {a:Act} {w:World} {Q:Exit→Act→World→Prop} (hgd:o.guard=none) (p:Operand) (ho:o.op=.load 24 p) {g q:Nat} {x:Itm} (hx:a.eval p=.pointer (some ⟨g,q,none⟩)) (hc:ItmCells w g q x)
 (h:wpList Tryz.prog ops Q rest (a.put o.dst x.v) w):wpList Tryz.prog ops Q (o::rest) a w:=wpList_plain hgd fun _ hK=>wp_loadI p ho hx hc (hK _ _ h)
theorem wpList_storeI {ops:Array Oper} {rest:List Oper} {o:Oper} {a:Act} {w:World} {Q:Exit→Act→World→Prop} (hgd:o.guard=none) (p y:Operand) (ho:o.op=.store 24 p y) {g q:Nat} (hx:a.eval p=.pointer (some ⟨g,q,none⟩)) {x old:Itm} (hy:a.eval y=x.v) (hc:ItmCells w g q old) (hf:∀ i,w.frozen? ⟨g,i,none⟩=false) (hd:o.dst=none)
 (h:wpList Tryz.prog ops Q rest a (putsAt w g q x.cs)):wpList Tryz.prog ops Q (o::rest) a w:=wpList_plain hgd fun _ hK=>wp_storeI p y ho hx hy hc hf hd (hK _ _ h)
theorem putsAt_new (w:World) (x:Itm):putsAt (w.alloc (Obj.cells #[.int .i64 0,.int .i64 0,.int .u8 0,.string ⟨#[]⟩,.int .i64 0,.int .i64 0,.int .i64 0,.bool false,.int .i64 0,.int .i64 0,.int .i64 0,.int .i64 0,.int .i64 0,.string ⟨#[]⟩,.int .i64 0,.int .i64 0] 24)) w.heap.size 0 x.cs=w.alloc (Obj.cells #[.int .i64 x.id,.int .i64 x.kn,.int .u8 x.kd,.string x.wa,.int .i64 x.pit,.int .i64 x.ly,.int .i64 x.co,.bool x.ft,.int .i64 x.sh,.int .i64 x.fr,.int .i64 x.tw,.int .i64 x.lo,.int .i64 x.hi,.string x.st,.int .i64 x.li,.int .i64 x.vo] 24):=by
 simp only [Itm.cs,putsAt]
 simp [go_sem]
/-- A new item is filled. -/
theorem wpList_storeI_new {ops:Array Oper} {rest:List Oper} {o:Oper} {a:Act} {w0:World} {Q:Exit→Act→World→Prop} (hgd:o.guard=none) (p y:Operand) (ho:o.op=.store 24 p y) (hx:a.eval p=.pointer (some ⟨w0.heap.size,0,none⟩)) {x:Itm} (hy:a.eval y=x.v) (hd:o.dst=none)
 (h:wpList Tryz.prog ops Q rest a (w0.alloc (Obj.cells #[.int .i64 x.id,.int .i64 x.kn,.int .u8 x.kd,.string x.wa,.int .i64 x.pit,.int .i64 x.ly,.int .i64 x.co,.bool x.ft,.int .i64 x.sh,.int .i64 x.fr,.int .i64 x.tw,.int .i64 x.lo,.int .i64 x.hi,.string x.st,.int .i64 x.li,.int .i64 x.vo] 24))):wpList Tryz.prog ops Q (o::rest) a (w0.alloc (Obj.cells #[.int .i64 0,.int .i64 0,.int .u8 0,.string ⟨#[]⟩,.int .i64 0,.int .i64 0,.int .i64 0,.bool false,.int .i64 0,.int .i64 0,.int .i64 0,.int .i64 0,.int .i64 0,.string ⟨#[]⟩,.int .i64 0,.int .i64 0] 24)):=by
 have hb:(w0.alloc (Obj.cells #[.int .i64 0,.int .i64 0,.int .u8 0,.string ⟨#[]⟩,.int .i64 0,.int .i64 0,.int .i64 0,.bool false,.int .i64 0,.int .i64 0,.int .i64 0,.int .i64 0,.int .i64 0,.string ⟨#[]⟩,.int .i64 0,.int .i64 0] 24)).heap[w0.heap.size]?=some (.cells #[.int .i64 0,.int .i64 0,.int .u8 0,.string ⟨#[]⟩,.int .i64 0,.int .i64 0,.int .i64 0,.bool false,.int .i64 0,.int .i64 0,.int .i64 0,.int .i64 0,.int .i64 0,.string ⟨#[]⟩,.int .i64 0,.int .i64 0] 24 (0,0)):=World.alloc_heap_new _ _
 obtain ⟨h1,h2,_⟩:=ItmCells.of_heap (x:=Itm.zero) hb
 refine wpList_storeI hgd p y ho hx hy h1 h2 hd ?_
 rw [putsAt_new]
 exact h
/-- The item's cells, where it is a new one. -/
theorem new_cells (w:World) (x:Itm):ItmCells (w.alloc (Obj.cells #[.int .i64 x.id,.int .i64 x.kn,.int .u8 x.kd,.string x.wa,.int .i64 x.pit,.int .i64 x.ly,.int .i64 x.co,.bool x.ft,.int .i64 x.sh,.int .i64 x.fr,.int .i64 x.tw,.int .i64 x.lo,.int .i64 x.hi,.string x.st,.int .i64 x.li,.int .i64 x.vo] 24)) w.heap.size 0 x:=(ItmCells.of_heap (World.alloc_heap_new _ _)).1
set_option maxHeartbeats 8000000
theorem ics_take (l:List Itm) (i:Nat) (h:i≤l.length):(ics l).take (i * 16)=ics (l.take i):=by
 conv=>lhs;rw [← List.take_append_drop i l,ics_append]
 rw [List.take_left' Z55]
/-- A row in its place, cut. -/
def CutPost (w:World) (base:Nat) (t:TypeId) (size:Nat) (v:Value) (n:Nat) (vs:List Value) (e:Ending) (w':World):Prop:=∃ v',e=.returned v'∧w'.ownsRow base t size v' n vs∧SL.Chg v.ownBlock.toList w w'∧v'.ownBlock=v.ownBlock
theorem sDelT (k:Nat) (caps:Array Value) (f:Itm→Bool) (v:Value) (base:Nat) (xs:List Itm) (w:World) (ho:w.ownsRow base 24 16 v xs.length (ics xs)) (hw:∀ x ∈ xs,x.Wide) (hs:xs.length≤10000) (hent:∀ args w,(callFunc k args).run Tryz.prog w=.ok (.enter k args) w)
 (hf:∀ x,x ∈ xs→∀ w1,SL.Chg v.ownBlock.toList w w1→Calls Tryz.prog k (#[x.v] ++caps) w1 fun e w'=>e=.returned (.bool (f x))∧Below w1.heap.size w1 w') :
 Calls Tryz.prog 124 #[v,.func (.func k) #[] caps] w (CutPost w base 24 16 v (xs.filter fun x=>!f x).length (ics (xs.filter fun x=>!f x))):=by
 obtain ⟨a,cap,rfl,_⟩:=owns_slice ho
 have hI:=idxT_any k caps f a xs.length cap xs w (ItmsAt.of_owns ho (by omega) hw) hent (fun x hx w1 hb=>hf x hx w1 (.of_below hb))
 unfold IdxT at hI
 cases hA:xs.any f with
 | false =>
   rw [hA] at hI
   have hfl:xs.filter (fun x=>!f x)=xs:=by
    exact Z3n
   rw [hfl]
   have HP:=Lib.hid (show ∀ w',Below w.heap.size w w'→CutPost w base 24 16 (.slice a xs.length cap) xs.length (ics xs) (.returned (.slice a xs.length cap)) w' from fun w' hb=>⟨_,rfl,ho.up hb (Nat.le_refl _),.of_below hb,rfl⟩)
   generalize CutPost w base 24 16 (.slice a xs.length cap) xs.length (ics xs)=Post at *
   simp only [Bool.false_eq_true,if_false] at hI
   clear hf hA hfl
   go_enter Tryz.func124,Tryz.ntmps124
   go_wp2_with (go_at_call 183;(with_reducible refine hI.mono ?_);rintro e w1 ⟨rfl,hb1⟩)
   exact HP.out _ hb1
 | true =>
   rw [hA] at hI
   simp only [if_true] at hI
   have hD:=DelI.start hA
   generalize hk0:fstT f xs=k0 at *
   clear hk0
   have hne:a≠none:=by
    rintro rfl
    have h1:=(RowAt.of_owns ho).nil rfl
    have h2:=ics_length xs
    rw [h1.1] at h2
    have:=hD.jle
    simp at h2
    omega
   obtain ⟨G,rfl⟩:∃ G,a=some ⟨G,0,none⟩:=by
    exact Z2s
   have hcap:xs.length≤cap:=by
    exact Z3b
   have hcapz:(xs.length:Int)≤(cap:Int):=by omega
   have HP:=Lib.hid (show ∀ w' n,n=(xs.filter fun x=>!f x).length→w'.ownsRow base 24 16 (.slice (some ⟨G,0,none⟩) n cap) n (ics (xs.filter fun x=>!f x))→SL.Chg [G] w w'→CutPost w base 24 16 (.slice (some ⟨G,0,none⟩) xs.length cap) (xs.filter fun x=>!f x).length (ics (xs.filter fun x=>!f x)) (.returned (.slice (some ⟨G,0,none⟩) n cap)) w' from
    fun w' n hn h1 h2=>by subst hn;exact ⟨_,rfl,h1,h2,rfl⟩)
   generalize CutPost w base 24 16 (.slice (some ⟨G,0,none⟩) xs.length cap) (xs.filter fun x=>!f x).length (ics (xs.filter fun x=>!f x))=Post at *
   have hn1:((k0:Int) == -1)=false:=beq_eq_false_iff_ne.2 (by omega)
   have Hf:=Lib.hid hf
   have HD:=Lib.hid hD
   have hk0:=hD.jle
   clear hf hA hne hD
   go_enter Tryz.func124,Tryz.ntmps124
   go_wp2_with (go_at_call 183;(with_reducible refine hI.mono ?_);rintro e w1 ⟨rfl,hb1⟩)
   have ho1:=ho.up hb1 (Nat.le_refl _)
   have hC1:SL.Chg [G] w w1:=.of_below hb1
   clear hb1 ho hI
   go_loopw [5,6] (fun i j wr=>∃ (I J:Nat) (cur:List Itm),i=.int .i64 I∧j=.int .i64 J∧Hid (DelI f xs cur I J)∧wr.ownsRow base 24 16 (.slice (some ⟨G,0,none⟩) xs.length cap) xs.length (ics cur)∧SL.Chg [G] w wr) (fun _ j _=>xs.length - (RowKit.intOf j).toNat)
   case atStart=>exact ⟨k0,k0 +1,xs,rfl,by go_num,HD,ho1,hC1⟩
   case round =>
    obtain ⟨I,J,cur,rfl,rfl,hd,hown,hC⟩:=hrel
    have hIJ:=hd.out.le
    have hJn:=hd.out.jle
    have hlc:=hd.out.len
    have hnn:(0:Int)≤J:=by omega
    have hni:(0:Int)≤I:=by omega
    by_cases hlt:J<xs.length
    ·have i1:(J:Int)<(xs.length:Int):=by omega
     have i2:(I:Int)<(xs.length:Int):=by omega
     obtain ⟨hdc,df,dl⟩:=irow hown (i:=J) (by omega)
     rw [hd.out.get hlt] at hdc
     have hx:=Itm.mem hlt
     have Hkeep:=Lib.hid (hd.out.keep hlt)
     have Hskip:=Lib.hid (hd.out.skip hlt)
     have hfx:=fun W h=>Hf.out _ hx W h
     generalize xs.getD J default=x at *
     have hcl:=hfx (wr.alloc (Obj.cells #[.int .i64 x.id,.int .i64 x.kn,.int .u8 x.kd,.string x.wa,.int .i64 x.pit,.int .i64 x.ly,.int .i64 x.co,.bool x.ft,.int .i64 x.sh,.int .i64 x.fr,.int .i64 x.tw,.int .i64 x.lo,.int .i64 x.hi,.string x.st,.int .i64 x.li,.int .i64 x.vo] 24)) (hC.trans (.of_below (one_alloc wr _)))
     have hX:=World.alloc_heap_new wr (Obj.cells #[.int .i64 x.id,.int .i64 x.kn,.int .u8 x.kd,.string x.wa,.int .i64 x.pit,.int .i64 x.ly,.int .i64 x.co,.bool x.ft,.int .i64 x.sh,.int .i64 x.fr,.int .i64 x.tw,.int .i64 x.lo,.int .i64 x.hi,.string x.st,.int .i64 x.li,.int .i64 x.vo] 24)
     have hal:=one_alloc wr (Obj.cells #[.int .i64 x.id,.int .i64 x.kn,.int .u8 x.kd,.string x.wa,.int .i64 x.pit,.int .i64 x.ly,.int .i64 x.co,.bool x.ft,.int .i64 x.sh,.int .i64 x.fr,.int .i64 x.tw,.int .i64 x.lo,.int .i64 x.hi,.string x.st,.int .i64 x.li,.int .i64 x.vo] 24)
     go_wp2_with (first
      | (refine wpList_loadI rfl _ rfl rfl hdc ?_)
      | (refine wpList_storeI_new rfl _ _ rfl rfl rfl rfl ?_)
      | (refine wpList_loadI rfl _ rfl rfl (new_cells wr x) ?_))
     refine hcl.mono ?_
     rintro e w2 ⟨rfl,hb2⟩
     have hX2:=(hb2.block wr.heap.size (by simp)).trans hX
     have hC2:=(hC.trans (.of_below hal)).trans (SL.Chg.of_below (E:=[G]) hb2)
     have hown2:=(hown.up hal (Nat.le_refl _)).up hb2 (Nat.le_refl _)
     have hbx:=(ItmCells.of_heap hX2).1
     obtain ⟨hrc,hrf,_⟩:=irow hown2 (i:=I) (by omega)
     have HO:=Lib.hid hown2
     have HC2:=Lib.hid hC2
     generalize cur.getD I default=old at *
     clear hdc df dl hown hX2 hC2 hown2 hcl hal hC hX hb2 hfx
     cases hv:f x
     ·have Hk:=Lib.hid (Hkeep.out hv)
      clear Hkeep Hskip hv
      have qo:=row_puts x.cs (o:=I * 16) HO.out
      rw [← ics_put (show I<cur.length by omega) x] at qo
      have qc:=chg_puts (E:=[G]) (G:=G) (by simp) x.cs w2 (I * 16)
      have HQ:=Lib.hid (And.intro qo qc)
      clear qo qc
      go_wp2_with (first
       | (refine wpList_loadI (x:=x) rfl _ rfl rfl hbx ?_)
       | (refine wpList_storeI (g:=G) (q:=I * 16) (x:=x) (old:=old) rfl _ _ rfl rfl rfl hrc hrf rfl ?_;generalize putsAt w2 G (I * 16) x.cs=w3 at *))
      exact Z2n
     ·have Hk:=Lib.hid (Hskip.out hv)
      clear Hkeep Hskip hv hbx hrc hrf
      exact Z2r
    ·have hJ:J=xs.length:=by omega
     have Hlen:Hid (xs.length=J):=Lib.hid hJ.symm
     have hJ2:¬ (J:Int)<(xs.length:Int):=by omega
     have hnI:I<xs.length:=by omega
     have hI3:(I:Int)≤(xs.length:Int):=by omega
     obtain ⟨hcl1,hcl2⟩:(∀ j,j<(xs.length - I) * 16→(wr.cell? ⟨G,I * 16 +j,none⟩).isSome=true)∧(∀ j,j<(xs.length - I) * 16→wr.frozen? ⟨G,I * 16 +j,none⟩=false):=by
      have hil:=ics_length cur
      rw [hlc] at hil
      refine ⟨fun j hj=>?_,fun j _=>hown.frozenAt _⟩
      rw [hown.cellAt (I * 16 +j) (by omega),List.getElem?_eq_getElem (by omega)]
      rfl
     have hcr:=fun ty=>run_clear_struct (P:=Tryz.prog) wr 22 24 ty (.agg #[.int .i64 0,.int .i64 0,.int .u8 0,.string ⟨#[]⟩,.int .i64 0,.int .i64 0,.int .i64 0,.bool false,.int .i64 0,.int .i64 0,.int .i64 0,.int .i64 0,.int .i64 0,.string ⟨#[]⟩,.int .i64 0,.int .i64 0]) Itm.zero.cs Tryz.underlying22 Tryz.zeroValue24 Zk (fun u hu=>ics_one [Itm.zero] u Z3w) G (I * 16) (xs.length - I) (cap - I) (by omega) hcl1 hcl2
     clear hcl1 hcl2
     obtain ⟨vs,hvl,hvr⟩:=hcr 0
     have hl16:Itm.zero.cs.length=16:=rfl
     rw [hl16] at hvl
     rw [putsAt_setCells] at hvr
     have hil:=ics_length cur
     have qo:=row_puts vs (o:=I * 16) hown
     have qf:=row_front qo (i:=I) (by omega) (by simp)
     rw [sets_tail (by omega),ics_take cur I (by omega),hd.out.kept,hJ,List.take_length] at qf
     have qc:=hC.trans (chg_puts (E:=[G]) (G:=G) (by simp) vs wr (I * 16))
     have hIk:I=(xs.filter fun x=>!f x).length:=by
      exact Z3g
     have HF:=Lib.hid (HP.out _ I hIk qf qc)
     clear qo qf qc hcr hown hC hil hvl hl16 hd hIk hJ hlc
     generalize putsAt wr G (I * 16) vs=w3 at *
     exact Z4t
/-- The items with a Known of at most a day. -/
theorem searly (a:Option Addr) (n cap:Nat) (l:List Itm) (day:Int) (w:World) (h:ItmsAt w a n cap l) (hl:l.length≤10000) :
 Calls Tryz.prog 110 #[.slice a n cap,.int .i64 day] w (RowPost w 24 16 (earlyL l day).length (ics (earlyL l day))):=by
 have hB0:=one_alloc w (Obj.cells #[.int .i64 day] 3)
 have hC:=cloneT a n cap l _ (h.below hB0) hl
 have hD:=fun v base w1 (ho:w1.ownsRow base 24 16 v l.length (ics l)) XB (hX:w1.cell? ⟨XB,0,none⟩=some (.int .i64 day)) (hn:XB ∉ v.ownBlock.toList) =>
  sDelT 173 #[.pointer (some ⟨XB,0,none⟩)] (fun x=>decide (day<x.kn)) v base l w1 ho h.wide hl (enters_of Tryz.func173 Zk rfl)
   (fun x _ w2 hc=>searly1 x day XB w2 (by
    have z:=World.block_lt_of_cell? w1 _ hX
    rw [← hX]
    exact (hc.cellsE_w).1 XB 0 z hn))
 have he:(l.filter fun x=>!decide (day<x.kn))=earlyL l day:=by
  unfold earlyL
  apply List.filter_congr
  intro x _
  rw [← decide_not]
  congr 1
  exact propext (by omega)
 unfold CutPost at hD
 rw [he] at hD
 have HP:=Lib.hid (show ∀ v w',Below w.heap.size w w'→w'.ownsRow w.heap.size 24 16 v (earlyL l day).length (ics (earlyL l day))→RowPost w 24 16 (earlyL l day).length (ics (earlyL l day)) (.returned v) w' from fun v w' h1 h2=>⟨v,rfl,h1,h2⟩)
 generalize RowPost w 24 16 (earlyL l day).length (ics (earlyL l day))=Post at *
 have hmk:=makeFuncS
 have HD:=Lib.hid hD
 clear hD he
 go_enter Tryz.func110,Tryz.ntmps110
 go_wp2_with fail
 refine hC.mono ?_
 rintro e w1 ⟨v,rfl,hb1,ho1⟩
 obtain ⟨va,vc,rfl,_⟩:=owns_slice ho1
 have hX:w1.cell? ⟨w.heap.size,0,none⟩=some (.int .i64 day):=by
  rw [(bcell hb1).1 w.heap.size 0 (by simp)]
  simp [go_sem]
 have hcl:=HD.out _ _ w1 ho1 w.heap.size hX (fun hm=>absurd (SL.row_bounds ho1 w.heap.size hm).1 (by simp))
 have hsz:=hB0.size
 have HB1:=Lib.hid (hB0.ch2 hb1)
 have HR:=Lib.hid (fun k hk=>SL.row_bounds ho1 k hk)
 clear ho1 hC h hX hb1
 go_wp2_with fail
 refine hcl.mono ?_
 rintro e w2 ⟨v2,rfl,ho2,hc2,_⟩
 have HF:=Lib.hid (HP.out v2 w2 (HB1.out.trans (hc2.belowE_w HB1.out.size (fun k hk=>by have:=(HR.out k hk).1;omega))) (SL.row_base ho2 hsz))
 clear ho2 hc2 hcl
 exact Z4t
end Go.Proofs.YtelkcohhagblaaaGreat
