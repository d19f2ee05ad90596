/- What the functions answer, for every input. -/
import Derived.Test.YtelkcohhagblaaaGreatSe40
import Derived.Test.YtelkcohhagblaaaGreatSe41
import Derived.Test.YtelkcohhagblaaaGreatSe42
import Derived.Test.YtelkcohhagblaaaGreatSe28
import Derived.Test.YtelkcohhagblaaaGreatSe27
set_option linter.unusedSimpArgs false
set_option linter.unusedVariables false
set_option linter.unnecessarySimpa false
namespace Go.Proofs.YtelkcohhagblaaaGreat
open Go.RowKit Go.Shelf
set_option maxHeartbeats 8000000
set_option maxRecDepth 100000
theorem elemD:Elem Tryz.prog 81 80 (.agg #[.int .u8 0,.slice none 0 0]) 2 32:=⟨Tryz.underlying81,info_parts Zk,rfl,by decide⟩
/-- A doubt as it lies: its kind, the slice of its Ids, the Ids. -/
structure Dub where
 k:Int
 v:Value
 ids:List Int
def dcs (l:List Dub):List Value:=l.flatMap fun d=>[.int .u8 d.k,d.v]
theorem dcs_append (a b:List Dub):dcs (a ++b)=dcs a ++dcs b:=by simp [dcs]
/-- A row of doubts of one's own, with rows of Ids of one's own. -/
structure DubsAt (w:World) (base:Nat) (v:Value) (l:List Dub):Prop where
 row:w.ownsRow base 80 2 v l.length (dcs l)
 ids:∀ d ∈ l,w.ownsRow base 3 1 d.v d.ids.length (d.ids.map (.int .i64))
theorem DubsAt.up {w w':World} {base:Nat} {v:Value} {l:List Dub} (h:DubsAt w base v l) (hb:Below w.heap.size w w'):DubsAt w' base v l :=
 ⟨h.row.up hb (Nat.le_refl _),fun d hd=>(h.ids d hd).up hb (Nat.le_refl _)⟩
theorem DubsAt.nil (w:World) (base:Nat):DubsAt w base (.slice none 0 0) []:=⟨World.ownsRow_nil _ _ _ _,fun d hd=>by cases hd⟩
theorem DubsAt.base {w:World} {base base':Nat} {v:Value} {l:List Dub} (h:DubsAt w base v l) (hb:base'≤base):DubsAt w base' v l :=
 ⟨SL.row_base h.row hb,fun d hd=>SL.row_base (h.ids d hd) hb⟩
/-- Rows of other types lie apart. -/
theorem rows_apart {w:World} {b1 b2:Nat} {t1 t2:TypeId} {s1 s2 n1 n2:Nat} {v1 v2:Value} {x1 x2:List Value} (h1:w.ownsRow b1 t1 s1 v1 n1 x1) (h2:w.ownsRow b2 t2 s2 v2 n2 x2) (ht:t1≠t2):∀ k ∈ v1.ownBlock.toList,k ∉ v2.ownBlock.toList:=by
 intro k hk hm
 obtain ⟨_,⟨hv,_⟩ | ⟨g,c,cur,hv,_,hg,_⟩⟩:=h1
 ·rw [hv] at hk;simp [Value.ownBlock] at hk
 ·obtain ⟨_,⟨hv2,_⟩ | ⟨g2,c2,cur2,hv2,_,hg2,_⟩⟩:=h2
  ·rw [hv2] at hm;simp [Value.ownBlock] at hm
  ·rw [hv] at hk;rw [hv2] at hm
   simp [Value.ownBlock] at hk hm
   subst hk;subst hm
   rw [hg] at hg2
   simp at hg2
   exact ht hg2.2
theorem DubsAt.chg {w w':World} {base:Nat} {v v':Value} {l:List Dub} {d:Dub} (h:DubsAt w base v l) (hd:w.ownsRow base 3 1 d.v d.ids.length (d.ids.map (.int .i64))) (hc:SL.Chg v.ownBlock.toList w w') (hr:w'.ownsRow base 80 2 v' (l.length +1) (dcs l ++[.int .u8 d.k,d.v])):DubsAt w' base v' (l ++[d]):=by
 refine ⟨?_,fun x hx=>?_⟩
 ·rw [List.length_append,dcs_append]
  exact hr
 ·rcases List.mem_append.1 hx with hx | hx
  ·exact SL.row_stab (h.ids x hx) fun k hk=>hc.block k (SL.row_bounds (h.ids x hx) k hk).2 (rows_apart (h.ids x hx) h.row (by decide) k hk)
  ·simp at hx
   subst hx
   exact SL.row_stab hd fun k hk=>hc.block k (SL.row_bounds hd k hk).2 (rows_apart hd h.row (by decide) k hk)
def dubKs (l:List Dub):List (Int × List Int):=l.map fun d=>(d.k,d.ids)
def doubtsK (s:List Itm) (y:Shd) (k:Nat):List (Int × List Int):=(([2,3,4,5]:List Int).take (k - 1)).filterMap fun k=>if doubtL s k y=[] then none else some (k - 1,idsI (doubtL s k y))
def DubPost (w:World) (E:Int) (ds:List (Int × List Int)) (e:Ending) (w':World):Prop:=∃ v l,e=.returned (.tuple #[v,.int .i64 E])∧Below w.heap.size w w'∧DubsAt w' w.heap.size v l∧dubKs l=ds
def dubE (l:List Itm) (day id:Int):List (Int × List Int):=if lookE l day id=0 then doubtsL (countL l day) (lookS l day id) else []
theorem sdoubted_any (a:Option Addr) (n cap:Nat) (s:List Itm) (kd:Int) (y:Shd) (w:World) (h:ShelfOk s y) (hs:ItmsAt w a n cap s) (hkd:kd=2∨kd=3∨kd=4∨kd=5) :
 Calls Tryz.prog 121 #[.slice a n cap,.int .u8 kd,y.v] w (RowPost w 24 16 (doubtL s kd y).length (ics (doubtL s kd y))):=by
 rcases hkd with rfl | rfl | rfl | rfl
 ·exact sdoubtedM a n cap s 2 y w h hs (.inl rfl)
 ·exact sdoubtedM a n cap s 3 y w h hs (.inr rfl)
 ·exact sdoubtedK a n cap s y w h hs
 ·exact sdoubtedC a n cap s y w h hs
theorem doubtL_wide {s:List Itm} {y:Shd} {kd:Int} (h:∀ x ∈ s,x.Wide):∀ x ∈ doubtL s kd y,x.Wide:=fun x hx=>h x (List.mem_filter.1 ((doubtL_sub s kd y).subset hx)).1
theorem doubtsK_next (s:List Itm) (y:Shd) {k:Nat} {kd:Int} (h1:1≤k) (h2:k≤4) (hk:kd=(k:Int) +1):doubtsK s y (k +1)=doubtsK s y k ++(if doubtL s kd y=[] then [] else [((k:Int),idsI (doubtL s kd y))]):=by
 subst hk
 have e:([2,3,4,5]:List Int).take (k +1 - 1)=([2,3,4,5]:List Int).take (k - 1) ++[(k:Int) +1]:=by
  match k,h1,h2 with
  | 1,_,_=>rfl
  | 2,_,_=>rfl
  | 3,_,_=>rfl
  | 4,_,_=>rfl
 unfold doubtsK
 rw [e,List.filterMap_append]
 congr 1
 by_cases hd:doubtL s ((k:Int) +1) y=[]
 ·simp [List.filterMap_cons,hd]
 ·simp [List.filterMap_cons,hd]
theorem doubtsK_all (s:List Itm) (y:Shd):doubtsK s y 5=doubtsL s y:=rfl
theorem sDoubts_any (a:Option Addr) (n cap:Nat) (l:List Itm) (day id:Int) (w:World) (h:ItmsAt w a n cap l) (hcap:l.length≤cap) :
 Calls Tryz.prog 53 #[.slice a n cap,.int .i64 day,.int .i64 id] w (DubPost w (lookE l day id) (dubE l day id)):=by
 have hL:=slooked_any a n cap l day id w h hcap
 have hw:=h.wide
 unfold LookPost at hL
 have HP:=Lib.hid (show ∀ w' v ds E,lookE l day id=E→dubKs ds=dubE l day id→Below w.heap.size w w'→DubsAt w' w.heap.size v ds→DubPost w (lookE l day id) (dubE l day id) (.returned (.tuple #[v,.int .i64 E])) w' from fun w' v ds E h0 h1 h2 h3=>⟨v,ds,by rw [h0],h2,h3,h1⟩)
 generalize DubPost w (lookE l day id) (dubE l day id)=Post at *
 by_cases h0:lookE l day id=0
 ·have hlk:=look_ok h0
  have hS:lookR l day id=countL l day:=by unfold lookR;rw [if_pos h0]
  have hZ:lookZ l day id=lookS l day id:=by unfold lookZ;rw [if_pos h0]
  have hE:dubE l day id=doubtsL (countL l day) (lookS l day id):=by unfold dubE;rw [if_pos h0]
  have hok:=hlk.shelf
  have hcw:=wides hw (fun x (hx:x ∈ countL l day)=>(countL_sub hx).1)
  rw [hS,hZ,h0] at hL
  rw [hE] at HP
  have He:=Lib.hid h0
  clear hS hZ hlk h0 hE hw
  generalize countL l day=S at *
  generalize lookS l day id=y at *
  have hsl:=hok.len
  have hF:=fun W va vc (hi:ItmsAt W va S.length vc S)=>sfits_any va _ vc S y W hok hi
  have hDf:=fun W=>sdoubtful_any W
  have x0:∀ w,(Instr.index 153 (.agg #[.int .u8 0,.int .u8 2,.int .u8 3,.int .u8 4,.int .u8 5]) (.int .i64 0)).run Tryz.prog w=.ok (.int .u8 0) w:=fun _=>by kernel_rfl
  have x1:∀ w,(Instr.index 153 (.agg #[.int .u8 0,.int .u8 2,.int .u8 3,.int .u8 4,.int .u8 5]) (.int .i64 1)).run Tryz.prog w=.ok (.int .u8 2) w:=fun _=>by kernel_rfl
  have x2:∀ w,(Instr.index 153 (.agg #[.int .u8 0,.int .u8 2,.int .u8 3,.int .u8 4,.int .u8 5]) (.int .i64 2)).run Tryz.prog w=.ok (.int .u8 3) w:=fun _=>by kernel_rfl
  have x3:∀ w,(Instr.index 153 (.agg #[.int .u8 0,.int .u8 2,.int .u8 3,.int .u8 4,.int .u8 5]) (.int .i64 3)).run Tryz.prog w=.ok (.int .u8 4) w:=fun _=>by kernel_rfl
  have x4:∀ w,(Instr.index 153 (.agg #[.int .u8 0,.int .u8 2,.int .u8 3,.int .u8 4,.int .u8 5]) (.int .i64 4)).run Tryz.prog w=.ok (.int .u8 5) w:=fun _=>by kernel_rfl
  simp only [Shd.v,Shd.cs] at hL hF
  go_enter Tryz.func53,Tryz.ntmps53
  go_wp2_with (first
   | (go_at_call 82;(with_reducible refine hL.mono ?_);rintro e w2 ⟨v,rfl,hb2,ho2⟩;obtain ⟨va,vc,rfl,_⟩:=owns_slice ho2;have hi2:=(ItmsAt.of_owns ho2 (by omega) hcw).below (one_alloc w2 (Obj.cells #[.int .i64 y.id,.string y.wa,.int .i64 y.pit,.int .i64 y.ly,.int .i64 y.co,.bool y.ft] 72));have hY2:=World.alloc_heap_new w2 (Obj.cells #[.int .i64 y.id,.string y.wa,.int .i64 y.pit,.int .i64 y.ly,.int .i64 y.co,.bool y.ft] 72);obtain ⟨p0,p1,p2,p3,p4,p5,pf⟩:=cell6 hY2)
   | (go_at_call 119;(with_reducible refine (hF _ va vc hi2).mono ?_);rintro e w3 ⟨rfl,hb3⟩;clear p0 p1 p2 p3 p4 p5 pf)
   | (go_at_call 120;(with_reducible refine (hDf _).mono ?_);rintro e w4 ⟨rfl,hb4⟩))
  have hB4:=((hb2.ch2 (one_alloc w2 (Obj.cells #[.int .i64 y.id,.string y.wa,.int .i64 y.pit,.int .i64 y.ly,.int .i64 y.co,.bool y.ft] 72))).ch2 hb3).ch2 hb4
  have hY4:=(hb4.block _ (Array.getElem?_eq_some_iff.1 ((hb3.block _ (by simp)).trans hY2)).1).trans ((hb3.block _ (by simp)).trans hY2)
  have hi4:=(hi2.below hb3).below hb4
  clear hL hF hDf hb3 hi2 hY2 ho2
  have hb2z:=hB4
  clear hB4
  generalize w2.heap.size=B2 at *
  go_loopw [11,32] (fun r i wr=>∃ (k:Nat) (ds:List Dub),k≤5∧i=.int .i64 k∧Hid (dubKs ds=doubtsK S y k)∧DubsAt wr w4.heap.size r ds∧ds.length≤k∧Below w4.heap.size w4 wr) (fun _ i _=>5 - (RowKit.intOf i).toNat)
  case atStart=>exact ⟨0,[],by omega,rfl,Lib.hid rfl,DubsAt.nil _ _,by simp,Below.refl _ _⟩
  case round =>
   obtain ⟨k,ds,hk,hik,hds,hD,hdl,hB⟩:=hrel
   by_cases hk5:k=5
   ·subst hk5
    have hi5:_=Value.int .i64 5:=hik
    subst hi5
    clear hik
    have HE:=Lib.hid (HP.out _ _ _ 0 He.out (by rw [hds.out,doubtsK_all]) (hb2z.ch2 hB) (hD.base hb2z.size))
    clear hD hds
    exact Z36
   ·have hk4:k=0∨k=1∨k=2∨k=3∨k=4:=by omega
    clear hk hk5
    rcases hk4 with rfl | rfl | rfl | rfl | rfl
    ·have hi5:_=Value.int .i64 0:=hik
     subst hi5
     clear hik
     go_wp2_with fail
     go_roundw
     case rel=>exact ⟨1,ds,by omega,by go_num,by exact hds,hD,by omega,hB⟩
     case measure=>simp [RowKit.intOf]
    ·have hi5:_=Value.int .i64 1:=hik
     subst hi5
     clear hik
     have hDd:=sdoubted_any va S.length vc S 2 y wr hok (hi4.below hB) (by simp)
     unfold RowPost at hDd
     have hYw:=(hB.block _ (Array.getElem?_eq_some_iff.1 hY4).1).trans hY4
     obtain ⟨p0,p1,p2,p3,p4,p5,pf⟩:=cell6 hYw
     have Hn:=Lib.hid (doubtsK_next S y (k:=1) (kd:=2) (by omega) (by omega) (by omega))
     have hwX:=doubtL_wide (y:=y) (kd:=2) hcw
     have hlX:(doubtL S 2 y).length≤300:=Nat.le_trans (doubtL_sub S 2 y).length_le (Nat.le_trans (List.length_filter_le _ _) hsl)
     have Hds:=hds
     have hDr:=hD.row
     obtain ⟨ua,uc,rfl,_⟩:=owns_slice hDr
     have HD:=Lib.hid hD
     have hszw:=hB.size
     simp only [Shd.v,Shd.cs] at hDd
     clear hds hD hDr hYw
     generalize hX:doubtL S 2 y=X at *
     by_cases hx:X=[]
     ·rw [if_pos hx,List.append_nil] at Hn
      subst hx
      clear hX
      simp only [List.length_nil] at hDd
      go_wp2_with (go_at_call 121;(with_reducible refine hDd.mono ?_);rintro e w6 ⟨v6,rfl,hb6,ho6⟩;obtain ⟨xa,xc,rfl,_⟩:=owns_slice ho6)
      go_roundw
      case rel=>exact ⟨1 +1,ds,by omega,by go_num,by rw [Hn.out];exact Hds,HD.out.up hb6,by omega,hB.ch2 hb6⟩
      case measure=>simp [RowKit.intOf]
     ·rw [if_neg hx] at Hn
      have hpos:(0:Int)<(X.length:Int):=by have:=List.length_pos_iff.2 hx;omega
      have hId:=fun W xa xc (hi:ItmsAt W xa X.length xc X)=>sids_any xa _ xc X W hi (by omega)
      unfold RowPost at hId
      clear hx hX
      go_wp2_with (first
       | (go_at_call 121;(with_reducible refine hDd.mono ?_);rintro e w6 ⟨v6,rfl,hb6,ho6⟩;obtain ⟨xa,xc,rfl,_⟩:=owns_slice ho6;have hi6:=ItmsAt.of_owns ho6 (by omega) hwX)
       | (go_at_call 103;(with_reducible refine (hId _ _ _ hi6).mono ?_);rintro e w7 ⟨v7,rfl,hb7,ho7⟩;obtain ⟨ia,ic,rfl,_⟩:=owns_slice ho7;have hD7:=(HD.out.up hb6).up hb7;have hal:=one_alloc w7 (Obj.cells #[.int .u8 1,.slice ia (idsI X).length ic] 80);have hsl7:=World.alloc_heap_new w7 (Obj.cells #[.int .u8 1,.slice ia (idsI X).length ic] 80);have hr7:=hD7.row.up hal (Nat.le_refl _);have hz7:=(hB.ch2 hb6).ch2 hb7)
       | (at_builtin;refine wpList_app elemD rfl _ _ rfl hr7 rfl rfl (RowAt.of_heap hsl7) (by simp) (fun u hu=>by simp at hu;rcases hu with rfl | rfl <;> rfl) Z1s (by omega) Z3r ?_))
      intro v' w8 hr8 hg8 hb8 _ hat
      have hc8:SL.Chg (Value.slice ua ds.length uc).ownBlock.toList w7 w8:=(SL.Chg.of_below hal).trans (.of_own hg8 (fun k hk=>by simp [hk]))
      have hD8:=hD7.chg (d:=⟨1,.slice ia (idsI X).length ic,idsI X⟩) (SL.row_base ho7 Z44) hc8 hr8
      have hB8:Below w4.heap.size w4 w8:=(hz7.ch2 hal).trans hb8
      have HD8:=Lib.hid hD8
      obtain ⟨ja,jc,rfl,_⟩:=owns_slice hr8
      clear hr8 hg8 hb8 hat hc8 hD8 hr7 hsl7 hD7 hDd hId
      go_wp2_with fail
      go_roundw
      case rel=>exact ⟨1 +1,ds ++[⟨1,.slice ia (idsI X).length ic,idsI X⟩],by omega,by go_num,Lib.hid Z35,by simpa using HD8.out,by simp;omega,hB8⟩
      case measure=>simp [RowKit.intOf]
    ·have hi5:_=Value.int .i64 2:=hik
     subst hi5
     clear hik
     have hDd:=sdoubted_any va S.length vc S 3 y wr hok (hi4.below hB) (by simp)
     unfold RowPost at hDd
     have hYw:=(hB.block _ (Array.getElem?_eq_some_iff.1 hY4).1).trans hY4
     obtain ⟨p0,p1,p2,p3,p4,p5,pf⟩:=cell6 hYw
     have Hn:=Lib.hid (doubtsK_next S y (k:=2) (kd:=3) (by omega) (by omega) (by omega))
     have hwX:=doubtL_wide (y:=y) (kd:=3) hcw
     have hlX:(doubtL S 3 y).length≤300:=Nat.le_trans (doubtL_sub S 3 y).length_le (Nat.le_trans (List.length_filter_le _ _) hsl)
     have Hds:=hds
     have hDr:=hD.row
     obtain ⟨ua,uc,rfl,_⟩:=owns_slice hDr
     have HD:=Lib.hid hD
     have hszw:=hB.size
     simp only [Shd.v,Shd.cs] at hDd
     clear hds hD hDr hYw
     generalize hX:doubtL S 3 y=X at *
     by_cases hx:X=[]
     ·rw [if_pos hx,List.append_nil] at Hn
      subst hx
      clear hX
      simp only [List.length_nil] at hDd
      go_wp2_with (go_at_call 121;(with_reducible refine hDd.mono ?_);rintro e w6 ⟨v6,rfl,hb6,ho6⟩;obtain ⟨xa,xc,rfl,_⟩:=owns_slice ho6)
      go_roundw
      case rel=>exact ⟨2 +1,ds,by omega,by go_num,by rw [Hn.out];exact Hds,HD.out.up hb6,by omega,hB.ch2 hb6⟩
      case measure=>simp [RowKit.intOf]
     ·rw [if_neg hx] at Hn
      have hpos:(0:Int)<(X.length:Int):=by have:=List.length_pos_iff.2 hx;omega
      have hId:=fun W xa xc (hi:ItmsAt W xa X.length xc X)=>sids_any xa _ xc X W hi (by omega)
      unfold RowPost at hId
      clear hx hX
      go_wp2_with (first
       | (go_at_call 121;(with_reducible refine hDd.mono ?_);rintro e w6 ⟨v6,rfl,hb6,ho6⟩;obtain ⟨xa,xc,rfl,_⟩:=owns_slice ho6;have hi6:=ItmsAt.of_owns ho6 (by omega) hwX)
       | (go_at_call 103;(with_reducible refine (hId _ _ _ hi6).mono ?_);rintro e w7 ⟨v7,rfl,hb7,ho7⟩;obtain ⟨ia,ic,rfl,_⟩:=owns_slice ho7;have hD7:=(HD.out.up hb6).up hb7;have hal:=one_alloc w7 (Obj.cells #[.int .u8 2,.slice ia (idsI X).length ic] 80);have hsl7:=World.alloc_heap_new w7 (Obj.cells #[.int .u8 2,.slice ia (idsI X).length ic] 80);have hr7:=hD7.row.up hal (Nat.le_refl _);have hz7:=(hB.ch2 hb6).ch2 hb7)
       | (at_builtin;refine wpList_app elemD rfl _ _ rfl hr7 rfl rfl (RowAt.of_heap hsl7) (by simp) (fun u hu=>by simp at hu;rcases hu with rfl | rfl <;> rfl) Z1s (by omega) Z3r ?_))
      intro v' w8 hr8 hg8 hb8 _ hat
      have hc8:SL.Chg (Value.slice ua ds.length uc).ownBlock.toList w7 w8:=(SL.Chg.of_below hal).trans (.of_own hg8 (fun k hk=>by simp [hk]))
      have hD8:=hD7.chg (d:=⟨2,.slice ia (idsI X).length ic,idsI X⟩) (SL.row_base ho7 Z44) hc8 hr8
      have hB8:Below w4.heap.size w4 w8:=(hz7.ch2 hal).trans hb8
      have HD8:=Lib.hid hD8
      obtain ⟨ja,jc,rfl,_⟩:=owns_slice hr8
      clear hr8 hg8 hb8 hat hc8 hD8 hr7 hsl7 hD7 hDd hId
      go_wp2_with fail
      go_roundw
      case rel=>exact ⟨2 +1,ds ++[⟨2,.slice ia (idsI X).length ic,idsI X⟩],by omega,by go_num,Lib.hid Z35,by simpa using HD8.out,by simp;omega,hB8⟩
      case measure=>simp [RowKit.intOf]
    ·have hi5:_=Value.int .i64 3:=hik
     subst hi5
     clear hik
     have hDd:=sdoubted_any va S.length vc S 4 y wr hok (hi4.below hB) (by simp)
     unfold RowPost at hDd
     have hYw:=(hB.block _ (Array.getElem?_eq_some_iff.1 hY4).1).trans hY4
     obtain ⟨p0,p1,p2,p3,p4,p5,pf⟩:=cell6 hYw
     have Hn:=Lib.hid (doubtsK_next S y (k:=3) (kd:=4) (by omega) (by omega) (by omega))
     have hwX:=doubtL_wide (y:=y) (kd:=4) hcw
     have hlX:(doubtL S 4 y).length≤300:=Nat.le_trans (doubtL_sub S 4 y).length_le (Nat.le_trans (List.length_filter_le _ _) hsl)
     have Hds:=hds
     have hDr:=hD.row
     obtain ⟨ua,uc,rfl,_⟩:=owns_slice hDr
     have HD:=Lib.hid hD
     have hszw:=hB.size
     simp only [Shd.v,Shd.cs] at hDd
     clear hds hD hDr hYw
     generalize hX:doubtL S 4 y=X at *
     by_cases hx:X=[]
     ·rw [if_pos hx,List.append_nil] at Hn
      subst hx
      clear hX
      simp only [List.length_nil] at hDd
      go_wp2_with (go_at_call 121;(with_reducible refine hDd.mono ?_);rintro e w6 ⟨v6,rfl,hb6,ho6⟩;obtain ⟨xa,xc,rfl,_⟩:=owns_slice ho6)
      go_roundw
      case rel=>exact ⟨3 +1,ds,by omega,by go_num,by rw [Hn.out];exact Hds,HD.out.up hb6,by omega,hB.ch2 hb6⟩
      case measure=>simp [RowKit.intOf]
     ·rw [if_neg hx] at Hn
      have hpos:(0:Int)<(X.length:Int):=by have:=List.length_pos_iff.2 hx;omega
      have hId:=fun W xa xc (hi:ItmsAt W xa X.length xc X)=>sids_any xa _ xc X W hi (by omega)
      unfold RowPost at hId
      clear hx hX
      go_wp2_with (first
       | (go_at_call 121;(with_reducible refine hDd.mono ?_);rintro e w6 ⟨v6,rfl,hb6,ho6⟩;obtain ⟨xa,xc,rfl,_⟩:=owns_slice ho6;have hi6:=ItmsAt.of_owns ho6 (by omega) hwX)
       | (go_at_call 103;(with_reducible refine (hId _ _ _ hi6).mono ?_);rintro e w7 ⟨v7,rfl,hb7,ho7⟩;obtain ⟨ia,ic,rfl,_⟩:=owns_slice ho7;have hD7:=(HD.out.up hb6).up hb7;have hal:=one_alloc w7 (Obj.cells #[.int .u8 3,.slice ia (idsI X).length ic] 80);have hsl7:=World.alloc_heap_new w7 (Obj.cells #[.int .u8 3,.slice ia (idsI X).length ic] 80);have hr7:=hD7.row.up hal (Nat.le_refl _);have hz7:=(hB.ch2 hb6).ch2 hb7)
       | (at_builtin;refine wpList_app elemD rfl _ _ rfl hr7 rfl rfl (RowAt.of_heap hsl7) (by simp) (fun u hu=>by simp at hu;rcases hu with rfl | rfl <;> rfl) Z1s (by omega) Z3r ?_))
      intro v' w8 hr8 hg8 hb8 _ hat
      have hc8:SL.Chg (Value.slice ua ds.length uc).ownBlock.toList w7 w8:=(SL.Chg.of_below hal).trans (.of_own hg8 (fun k hk=>by simp [hk]))
      have hD8:=hD7.chg (d:=⟨3,.slice ia (idsI X).length ic,idsI X⟩) (SL.row_base ho7 Z44) hc8 hr8
      have hB8:Below w4.heap.size w4 w8:=(hz7.ch2 hal).trans hb8
      have HD8:=Lib.hid hD8
      obtain ⟨ja,jc,rfl,_⟩:=owns_slice hr8
      clear hr8 hg8 hb8 hat hc8 hD8 hr7 hsl7 hD7 hDd hId
      go_wp2_with fail
      go_roundw
      case rel=>exact ⟨3 +1,ds ++[⟨3,.slice ia (idsI X).length ic,idsI X⟩],by omega,by go_num,Lib.hid Z35,by simpa using HD8.out,by simp;omega,hB8⟩
      case measure=>simp [RowKit.intOf]
    ·have hi5:_=Value.int .i64 4:=hik
     subst hi5
     clear hik
     have hDd:=sdoubted_any va S.length vc S 5 y wr hok (hi4.below hB) (by simp)
     unfold RowPost at hDd
     have hYw:=(hB.block _ (Array.getElem?_eq_some_iff.1 hY4).1).trans hY4
     obtain ⟨p0,p1,p2,p3,p4,p5,pf⟩:=cell6 hYw
     have Hn:=Lib.hid (doubtsK_next S y (k:=4) (kd:=5) (by omega) (by omega) (by omega))
     have hwX:=doubtL_wide (y:=y) (kd:=5) hcw
     have hlX:(doubtL S 5 y).length≤300:=Nat.le_trans (doubtL_sub S 5 y).length_le (Nat.le_trans (List.length_filter_le _ _) hsl)
     have Hds:=hds
     have hDr:=hD.row
     obtain ⟨ua,uc,rfl,_⟩:=owns_slice hDr
     have HD:=Lib.hid hD
     have hszw:=hB.size
     simp only [Shd.v,Shd.cs] at hDd
     clear hds hD hDr hYw
     generalize hX:doubtL S 5 y=X at *
     by_cases hx:X=[]
     ·rw [if_pos hx,List.append_nil] at Hn
      subst hx
      clear hX
      simp only [List.length_nil] at hDd
      go_wp2_with (go_at_call 121;(with_reducible refine hDd.mono ?_);rintro e w6 ⟨v6,rfl,hb6,ho6⟩;obtain ⟨xa,xc,rfl,_⟩:=owns_slice ho6)
      go_roundw
      case rel=>exact ⟨4 +1,ds,by omega,by go_num,by rw [Hn.out];exact Hds,HD.out.up hb6,by omega,hB.ch2 hb6⟩
      case measure=>simp [RowKit.intOf]
     ·rw [if_neg hx] at Hn
      have hpos:(0:Int)<(X.length:Int):=by have:=List.length_pos_iff.2 hx;omega
      have hId:=fun W xa xc (hi:ItmsAt W xa X.length xc X)=>sids_any xa _ xc X W hi (by omega)
      unfold RowPost at hId
      clear hx hX
      go_wp2_with (first
       | (go_at_call 121;(with_reducible refine hDd.mono ?_);rintro e w6 ⟨v6,rfl,hb6,ho6⟩;obtain ⟨xa,xc,rfl,_⟩:=owns_slice ho6;have hi6:=ItmsAt.of_owns ho6 (by omega) hwX)
       | (go_at_call 103;(with_reducible refine (hId _ _ _ hi6).mono ?_);rintro e w7 ⟨v7,rfl,hb7,ho7⟩;obtain ⟨ia,ic,rfl,_⟩:=owns_slice ho7;have hD7:=(HD.out.up hb6).up hb7;have hal:=one_alloc w7 (Obj.cells #[.int .u8 4,.slice ia (idsI X).length ic] 80);have hsl7:=World.alloc_heap_new w7 (Obj.cells #[.int .u8 4,.slice ia (idsI X).length ic] 80);have hr7:=hD7.row.up hal (Nat.le_refl _);have hz7:=(hB.ch2 hb6).ch2 hb7)
       | (at_builtin;refine wpList_app elemD rfl _ _ rfl hr7 rfl rfl (RowAt.of_heap hsl7) (by simp) (fun u hu=>by simp at hu;rcases hu with rfl | rfl <;> rfl) Z1s (by omega) Z3r ?_))
      intro v' w8 hr8 hg8 hb8 _ hat
      have hc8:SL.Chg (Value.slice ua ds.length uc).ownBlock.toList w7 w8:=(SL.Chg.of_below hal).trans (.of_own hg8 (fun k hk=>by simp [hk]))
      have hD8:=hD7.chg (d:=⟨4,.slice ia (idsI X).length ic,idsI X⟩) (SL.row_base ho7 Z44) hc8 hr8
      have hB8:Below w4.heap.size w4 w8:=(hz7.ch2 hal).trans hb8
      have HD8:=Lib.hid hD8
      obtain ⟨ja,jc,rfl,_⟩:=owns_slice hr8
      clear hr8 hg8 hb8 hat hc8 hD8 hr7 hsl7 hD7 hDd hId
      go_wp2_with fail
      go_roundw
      case rel=>exact ⟨4 +1,ds ++[⟨4,.slice ia (idsI X).length ic,idsI X⟩],by omega,by go_num,Lib.hid Z35,by simpa using HD8.out,by simp;omega,hB8⟩
      case measure=>simp [RowKit.intOf]
 ·have hE:dubE l day id=[]:=by unfold dubE;rw [if_neg h0]
  generalize lookE l day id=E at *
  have e2:(E != 0)=true:=by simpa using h0
  have e3:(E == 0)=false:=by simpa using h0
  have HF:=Lib.hid (fun w' hb=>HP.out w' (.slice none 0 0) [] E rfl (by rw [hE];rfl) hb (DubsAt.nil _ _))
  generalize lookZ l day id=y at *
  generalize lookR l day id=S at *
  simp only [Shd.v,Shd.cs] at hL
  clear h0 hE HP
  go_enter Tryz.func53,Tryz.ntmps53
  go_wp2_with (go_at_call 82;(with_reducible refine hL.mono ?_);rintro e w2 ⟨v,rfl,hb2,ho2⟩;obtain ⟨va,vc,rfl,_⟩:=owns_slice ho2)
  exact HF.out _ (hb2.ch2 (one_alloc _ _))
theorem r2sameInts (a1 a2:Option Addr) (n1 n2 c1 c2:Nat) (xs:List Int) (w:World) (hx:IntsAt w a1 n1 c1 xs) (hy:IntsAt w a2 n2 c2 xs) :
 Calls Tryz.prog 48 #[.slice a1 n1 c1,.slice a2 n2 c2] w fun e w'=>e=.returned (.bool true)∧Below w.heap.size w w':=by
 have hlx:=hx.small
 obtain rfl:=hx.len
 obtain rfl:=hy.len
 go_enter Tryz.func48,Tryz.ntmps48
 go_wp2_with fail
 go_loopw [5] (fun i wr=>∃ k:Nat,k≤xs.length∧i=.int .i64 k∧Below w.heap.size w wr) (fun i _=>xs.length - (RowKit.intOf i).toNat)
 case atStart=>exact ⟨0,Nat.zero_le _,rfl,Below.refl _ _⟩
 case round =>
  obtain ⟨k,hk,rfl,hB⟩:=hrel
  by_cases hlt:k<xs.length
  ·obtain ⟨b1,o1,rfl,_,d0⟩:=(hx.below hB).get hlt
   obtain ⟨b2,o2,rfl,_,d1⟩:=(hy.below hB).get hlt
   have hnn:(0:Int)≤k:=by omega
   have i1:(k:Int)<(xs.length:Int):=by omega
   generalize xs.getD k 0=u at *
   have e':(u != u)=false:=by simp
   go_wp2_with fail
   go_quiet (fail)
   go_wp2
   go_roundw
   case rel=>exact ⟨k +1,by omega,by go_num,belowN hB⟩
   case measure=>simp [RowKit.intOf];omega
  ·go_wp2_with fail
   go_ret
   exact ⟨rfl,hB⟩
theorem eqSpn (w:World) (x y z u:Int):(Op.equalIn 10000 43 (.agg #[.int .i64 x,.int .i64 y,.int .i64 z,.int .i64 u]) (.agg #[.int .i64 x,.int .i64 y,.int .i64 z,.int .i64 u])).run Tryz.prog w=.ok true w:=by
 rw [show (10000:Nat)=9999 +1 from rfl,run_equalIn_struct w 9999 _ _ _ Zk Zk]
 simp [go_sem,Op.eqFields,Program.fieldsOf,Tryz.underlying43,Tryz.underlying3]
theorem gdSpn:Tryz.prog.eqGuardType Tryz.prog.depth 43=false:=by kernel_rfl
theorem shelf_wide:∀ x ∈ shelfL,x.Wide:=by
 intro x hx
 simp only [shelfL,List.mem_cons,List.not_mem_nil,or_false] at hx
 rcases hx with rfl | rfl | rfl | rfl | rfl | rfl | rfl | rfl
 all_goals exact ⟨by unfold maxLen;decide,by unfold maxLen;decide,by decide,by decide,by decide⟩
theorem lshelf (w:World):Calls Tryz.prog 72 #[] w fun e w'=>∃ a c,e=.returned (.slice a 8 c)∧ItmsAt w' a 8 c shelfL∧8≤c∧Below w.heap.size w w':=by
 have hB:=one_alloc w (Obj.cells (ics shelfL).toArray 24)
 have hI:ItmsAt (w.alloc (Obj.cells (ics shelfL).toArray 24)) (some ⟨w.heap.size,0,none⟩) 8 8 shelfL:=by
  refine ⟨rfl,by simp [shelfL],?_,?_⟩
  ·have:=RowAt.of_heap (cap:=8) (World.alloc_heap_new w (Obj.cells (ics shelfL).toArray 24))
   simpa using this
  ·exact shelf_wide
 go_enter Tryz.func72,Tryz.ntmps72
 go_wp2_with fail
 go_ret
 exact ⟨_,_,rfl,hI,by omega,hB⟩
end Go.Proofs.YtelkcohhagblaaaGreat
