/-
  The law Ways, walked, and its statement.
-/
import Derived.Test.YtelkcohhagblaaaGreatSe45
import Derived.Test.YtelkcohhagblaaaGreatSe52
import Derived.Test.YtelkcohhagblaaaGreatSe49
import Derived.Test.YtelkcohhagblaaaGreatSe35
import Derived.Test.YtelkcohhagblaaaGreatSe38
import Derived.Test.YtelkcohhagblaaaGreatSe53
import Derived.Test.YtelkcohhagblaaaGreatSe54
import Derived.Test.YtelkcohhagblaaaGreatRows
import Derived.OpenShut
set_option linter.unusedSimpArgs false
set_option linter.unusedVariables false
set_option linter.unnecessarySimpa false
namespace Go.Proofs.YtelkcohhagblaaaGreat
theorem Z9m {P:Prop}(h:P:=by
 simp [hx]):P:=h
end Go.Proofs.YtelkcohhagblaaaGreat

namespace Go.Proofs.YtelkcohhagblaaaGreat
open Go.RowKit Go.Shelf
set_option maxHeartbeats 8000000
set_option maxRecDepth 100000
theorem eqlS_run (x y z u:Int) (w:World):(binOp .eql 43 (.agg #[.int .i64 x,.int .i64 y,.int .i64 z,.int .i64 u]) (.agg #[.int .i64 x,.int .i64 y,.int .i64 z,.int .i64 u])).run Tryz.prog w=.ok (.bool true) w:=by
 rw [run_eql_struct,run_equalIn_agg _ _ _ _ _ Zk Zk]
 simp [go_sem,Tryz.underlying43]
theorem lways (a:Option Addr) (n cap:Nat) (l:List Itm) (day id fr tw:Int) (w:World) (h:ItmsAt w a n cap l) (hcap:l.length≤cap) :
 Calls Tryz.prog 5 #[.slice a n cap,.int .i64 day,.int .i64 id,.int .i64 fr,.int .i64 tw] w fun e w'=>e=.returned (.bool true)∧Below w.heap.size w w':=by
 have hSh:=fun W=>lshelved W
 have hFe:=lfew 30 a n cap l w h (by omega)
 have h30:((30:Nat):Int)=30:=rfl
 rw [h30] at hFe
 have hlen:=fun (hF:fewB l 30=true)=>fewB_len hF
 generalize fewB l 30=F at *
 cases F with
 | false =>
   clear hlen
   go_enter Tryz.func5,Tryz.ntmps5
   go_wp2_with (first
    | (go_at_call 18;(with_reducible refine hFe.mono ?_);rintro e w1 ⟨rfl,hb1⟩)
    | (go_at_call 20;(with_reducible refine (hSh _).mono ?_);rintro e w2 ⟨rfl,hb2⟩))
   go_ret
   exact ⟨rfl,hb1.ch2 hb2⟩
 | true =>
   have hl30:=hlen rfl
   clear hlen
   have hW1:=fun W hi=>sWay_any soutline a n cap l day id fr tw W hi hcap
   have hW2:=fun W hi=>r2Way_any a n cap l day id fr tw W hi hcap (by omega)
   have hT1:=fun W hi=>sTurn_any soutline a n cap l day id fr tw W hi hcap
   have hT2:=fun W hi=>r2Turn_any a n cap l day id fr tw W hi hcap (by omega)
   have hC1:=fun W hi=>sColour_any a n cap l day id W hi hcap
   have hC2:=fun W hi=>r2Colour_any a n cap l day id W hi hcap (by omega)
   have hV1:=fun W hi=>sCurves_any a n cap l day id W hi hcap
   have hV2:=fun W hi=>r2Curves_any a n cap l day id W hi hcap (by omega)
   unfold QuadI at hW1 hW2
   unfold TriI at hT1 hT2
   simp only [Spn.v,Spn.cs] at hC1 hC2
   have Hl:=Lib.hid h.len
   generalize wayLo l day id fr tw=x1 at *
   generalize wayHi l day id fr tw=x2 at *
   generalize wayK l day id fr tw=x3 at *
   generalize wayE l day id fr tw=x4 at *
   generalize turnLo l day id fr tw=y1 at *
   generalize turnHi l day id fr tw=y2 at *
   generalize turnE l day id fr tw=y4 at *
   generalize colE l day id=E5 at *
   generalize (colR l day id).lo=s0 at *
   generalize (colR l day id).hi=s1 at *
   generalize (colR l day id).lob=s2 at *
   generalize (colR l day id).hib=s3 at *
   generalize curE l day id=E6 at *
   generalize (⟨(curR l day id).toArray⟩:ByteArray)=V at *
   have heq:=fun W=>eqlS_run s0 s1 s2 s3 W
   go_enter Tryz.func5,Tryz.ntmps5
   go_wp2_with (first
    | (go_at_call 18;(with_reducible refine hFe.mono ?_);rintro e w1 ⟨rfl,hb1⟩)
    | (go_at_call 28;(with_reducible refine (hW1 _ (h.below hb1)).mono ?_);rintro e w2 ⟨rfl,hb2⟩;have hB2:=hb1.ch2 hb2)
    | (go_at_call 29;(with_reducible refine (hW2 _ (h.below hB2)).mono ?_);rintro e w3 ⟨rfl,hb3⟩;have hB3:=hB2.ch2 hb3)
    | (go_at_call 30;(with_reducible refine (hT1 _ (h.below hB3)).mono ?_);rintro e w4 ⟨rfl,hb4⟩;have hB4:=hB3.ch2 hb4)
    | (go_at_call 31;(with_reducible refine (hT2 _ (h.below hB4)).mono ?_);rintro e w5 ⟨rfl,hb5⟩;have hB5:=hB4.ch2 hb5)
    | (go_at_call 32;(with_reducible refine (hC1 _ (h.below hB5)).mono ?_);rintro e w6 ⟨rfl,hb6⟩;have al6:=one_alloc w6 (Obj.cells #[.int .i64 s0,.int .i64 s1,.int .i64 s2,.int .i64 s3] 43);have hc6:=World.alloc_heap_new w6 (Obj.cells #[.int .i64 s0,.int .i64 s1,.int .i64 s2,.int .i64 s3] 43);have hB6:=(hB5.ch2 hb6).ch2 al6)
    | (go_at_call 33;(with_reducible refine (hC2 _ (h.below hB6)).mono ?_);rintro e w7 ⟨rfl,hb7⟩;have al7:=one_alloc w7 (Obj.cells #[.int .i64 s0,.int .i64 s1,.int .i64 s2,.int .i64 s3] 43);have hc7:=alKeep (o':=(Obj.cells #[.int .i64 s0,.int .i64 s1,.int .i64 s2,.int .i64 s3] 43)) ((hb7.block w6.heap.size (by simp)).trans hc6);have hd7:=World.alloc_heap_new w7 (Obj.cells #[.int .i64 s0,.int .i64 s1,.int .i64 s2,.int .i64 s3] 43);have hB7:=(hB6.ch2 hb7).ch2 al7)
    | (go_at_call 34;(with_reducible refine (hV1 _ (h.below hB7)).mono ?_);rintro e w8 ⟨rfl,hb8⟩;have hB8:=hB7.ch2 hb8)
    | (go_at_call 35;(with_reducible refine (hV2 _ (h.below hB8)).mono ?_);rintro e w9 ⟨rfl,hb9⟩;have hB9:=hB8.ch2 hb9)
    | (go_at_call 20;(with_reducible refine (hSh _).mono ?_);rintro e w10 ⟨rfl,hb10⟩;have hY:=(hb8.ch2 hb9).ch2 hb10;have r1:=(hY.block w6.heap.size (Array.getElem?_eq_some_iff.1 hc7).1).trans hc7;have r2:=(hY.block w7.heap.size (Array.getElem?_eq_some_iff.1 hd7).1).trans hd7;have t0:=(SL.cells_of r1).1 0;have t1:=(SL.cells_of r1).1 1;have t2:=(SL.cells_of r1).1 2;have t3:=(SL.cells_of r1).1 3;have u0:=(SL.cells_of r2).1 0;have u1:=(SL.cells_of r2).1 1;have u2:=(SL.cells_of r2).1 2;have u3:=(SL.cells_of r2).1 3;simp at t0 t1 t2 t3 u0 u1 u2 u3;have zt:=(Array.getElem?_eq_some_iff.1 r1).1;have zu:=(Array.getElem?_eq_some_iff.1 r2).1))
   go_ret
   exact ⟨rfl,hB9.ch2 hb10⟩
open Go.ChangeShapes Go.WideShapes Go.ChangeAt Go.RowKit Go.Joins Go.Deep
set_option maxRecDepth 100000 in
theorem sherdWays_lifted (os:Os) (started:os.Started) (H:Type) (enc:TypeId × Value→H) :
 ReturnsInHanded {} Tryz.checked os 5 .any (Rows.sherdWaysSpec.pre6 enc Tryz.prog Tryz.f5 Rows.sherdWaysRow.domain false) (Rows.sherdWaysSpec.post enc Tryz.prog Tryz.f5 false true false false):=by
 refine returnsInHanded_of_change_sized (C:=Tryz.checked) Tryz.own started Zk Tryz.func5
  (ChangeSpec.witness6 (enc:=enc) (C:=Tryz.checked) false ⟨#[],#[.slice none 0 0,.int .i64 0,.int .i64 0,.int .i64 0,.int .i64 0],[]⟩ 8 Zk Zk Zk Zk) ?_
 intro W base args ds gs before hval0 hW _ hsz0 _
 have hsz:(DataW.weightsEach Tryz.prog (Tryz.f5.params.toList ++Rows.sherdWaysSpec.plain.varTypes Tryz.prog) (ds ++gs)).all (·≤reachBytes)=true:=hsz0
 clear hsz0
 have hval:∀ (j:Nat) t v,Tryz.f5.params[j]?=some t→args[j]?=some v→Value.okWide Tryz.prog W .any base t v:=hval0
 have hW':=hW
 obtain ⟨p,q,hA0,hV,rfl,_,_⟩:=hW
 have hA:DataW.TrodAll enc Tryz.prog W 0 (fun _=>true) true Tryz.f5.params.toList args.toList ds p:=hA0
 rw [Tryz.params5] at hA hval hsz
 obtain ⟨v0,vs0,d0,ds0,p0,q0,hargs,rfl,rfl,h0,r0⟩:=trodAll_cons hA
 obtain ⟨v1,vs1,d1,ds1,p1,q1,rfl,rfl,rfl,h1,r1⟩:=trodAll_cons r0
 obtain ⟨v2,vs2,d2,ds2,p2,q2,rfl,rfl,rfl,h2,r2⟩:=trodAll_cons r1
 obtain ⟨v3,vs3,d3,ds3,p3,q3,rfl,rfl,rfl,h3,r3⟩:=trodAll_cons r2
 obtain ⟨v4,vs4,d4,ds4,p4,q4,rfl,rfl,rfl,h4,r4⟩:=trodAll_cons r3
 obtain ⟨rfl,rfl,rfl⟩:=trodAll_nil r4
 obtain rfl:args=#[v0,v1,v2,v3,v4]:=by cases args;simp_all
 obtain ⟨rfl,rfl⟩:=trodVars_none hV
 clear hA0 hval0
 have hlt:∀ x ∈ p0 ++p1 ++p2 ++p3 ++p4,x.block<W.heap.size:=fun x hx=>by have:=hW'.lt x (by simpa using hx);simpa using this
 obtain ⟨a0,n0,k0,xs0,rfl,hb0,hn0⟩:=items_open (hval 0 22 v0 rfl rfl) h0 (fun n hn=>by
  have:=List.all_eq_true.1 hsz _ (DataW.weights_mem_each (j:=0) rfl rfl n hn)
  simpa using this)
 obtain ⟨x1,rfl⟩:=okWide_int Tryz.underlying3 (hval 1 3 v1 rfl rfl)
 obtain ⟨x2,rfl⟩:=okWide_int Tryz.underlying3 (hval 2 3 v2 rfl rfl)
 obtain ⟨x3,rfl⟩:=okWide_int Tryz.underlying3 (hval 3 3 v3 rfl rfl)
 obtain ⟨x4,rfl⟩:=okWide_int Tryz.underlying3 (hval 4 3 v4 rfl rfl)
 refine (lways a0 n0 k0 xs0 x1 x2 x3 x4 W hb0 hn0).mono fun e W' ⟨he,hw⟩=>?_
 subst he
 exact ⟨_,rfl,⟨_,_,_,[],_,[],hW',trodAll_mk1 (shut_bool Tryz.underlying4 _),(trodAll_cons_mk (Below.trod Tryz.laidOut Zk (of_decide_eq_true Zk) h0 hw (fun x hx=>hlt x Z9m)) (trodAll_cons_mk (Below.trod Tryz.laidOut Zk (of_decide_eq_true Zk) h1 hw (fun x hx=>hlt x Z9m)) (trodAll_cons_mk (Below.trod Tryz.laidOut Zk (of_decide_eq_true Zk) h2 hw (fun x hx=>hlt x Z9m)) (trodAll_cons_mk (Below.trod Tryz.laidOut Zk (of_decide_eq_true Zk) h3 hw (fun x hx=>hlt x Z9m)) (trodAll_cons_mk (Below.trod Tryz.laidOut Zk (of_decide_eq_true Zk) h4 hw (fun x hx=>hlt x Z9m)) trodAll_mk0))))),rfl,hw.frame _,fun h=>by cases h⟩⟩
set_option maxRecDepth 100000 in
set_option maxHeartbeats 8000000 in
theorem sherdWays_closed:joinedFacts Tryz.prog 5 Tryz.f5 Rows.sherdWaysSpec Rows.sherdWaysRow=true:=by
 unfold joinedFacts
 repeat' (with_reducible refine (Bool.and_eq_true _ _).mpr ⟨?_,?_⟩)
 all_goals as_aux_lemma=>kernel_rfl
theorem sherdWays_holds:Rows.SherdWaysSaid :=
 OpenClaim.holds_of_wide 5 Tryz.f5 rfl rfl rfl rfl rfl rfl rfl ⟨rfl,rfl,rfl,rfl,rfl⟩ rfl rfl rfl rfl rfl Zk Tryz.func5 sherdWays_closed
  (of_decide_eq_true Zk) (by unfold Func.isWrapper;rw [if_neg (of_decide_eq_false Zk)];exact ⟨rfl,rfl⟩)
  (fun os started H enc _=>sherdWays_lifted os started H enc)
#print axioms sherdWays_holds
end Go.Proofs.YtelkcohhagblaaaGreat
