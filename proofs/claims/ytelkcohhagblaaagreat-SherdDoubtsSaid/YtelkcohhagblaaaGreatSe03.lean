/- What the functions answer, for every input. -/
import Derived.Test.YtelkcohhagblaaaGreatSe02
import Derived.OrdersIn
import Derived.RangeFuncNested
import Derived.RangeFuncBound
import Derived.RangeFuncCalls
import Derived.RangeFuncLeaves
import Derived.OwnWalkIn
import Derived.TacticsInMore
import Derived.LoopNIn
import Derived.LoopIn
import Derived.Laws.Externs
import Derived.Shelf.Abstract
set_option linter.unusedSimpArgs false
set_option linter.unusedVariables false
set_option linter.unnecessarySimpa false
namespace Go.Proofs.YtelkcohhagblaaaGreat
theorem Z5w {P:Prop}(h:P:=by
 simp only [Itm.v,Itm.cs]
 go_enter Tryz.func26,Tryz.ntmps26
 go_wp2_with (first
  | (go_at_call 76;(with_reducible refine (hFm _).mono ?_);rintro e w1 ⟨f1,f2,f3,f4,f5,f6,f7,k1,k2,k3,k4,k5,k6,k7,rfl,hb1,F1,F2,F3,F4,F5,F6,F7⟩;have HF:=Lib.hid (form_get F1 F2 F3 F4 F5 F6 F7);clear F1 F2 F3 F4 F5 F6 F7;obtain ⟨hc1,hf1⟩:=bcell hb1;have hzX:=lt_size hb1 (b:=w.heap.size) Z9)
  | (go_at_call 77;(with_reducible refine (hId _).mono ?_);rintro e w2 ⟨rfl,rfl⟩)
  | (go_at_call 77;(with_reducible refine (hKn _).mono ?_);rintro e w2 ⟨rfl,rfl⟩))
 exact Z2j):P:=h
theorem Z67 {P:Prop}(h:P:=by
 clear hc
 refine (callsIn_wide (n:=0)).1 (callsIn_of_wp_marks Tryz.func137 rfl trivial ?_)
 simp only [Tryz.ntmps137,List.size_toArray,List.length_cons,List.length_nil,Nat.reduceAdd,Nat.reduceSub,Array.replicate_succ,Array.replicate_zero,List.push_toArray,List.append_toArray,List.nil_append,List.cons_append]
 refine wpIn_wide.2 ?_
 go_wp2_with (first
  | (go_at_call 166;(with_reducible refine (hNm _ (h.below Z5)).mono ?_);rintro e w2 ⟨rfl,hb2⟩;obtain ⟨hc2,hf2⟩:=bcell hb2;have hzE:=lt_size hb2 (b:=w.heap.size +1) Z9;have hzX:=lt_size hb2 (b:=w.heap.size) Z9)
  | (go_at_call 109;refine (sstands _ _ _ _).mono ?_;rintro e w1 ⟨rfl,rfl⟩))
 exact Z1v):P:=h
theorem Z6n {P:Prop}(h:P:=by
 go_enter Tryz.func84,Tryz.ntmps84
 go_wp2_with (first
  | (go_at_call 152;refine (hC _ hb1).mono ?_;rintro e w7 ⟨rfl,hb7⟩;obtain ⟨hc7,hf7⟩:=bcell hb7;have hz7a:=lt_size hb7 (b:=w.heap.size) Z9)
  | (go_at_call 153;(with_reducible refine (hS _ (hb1.below hb7)).mono ?_);rintro e w8 ⟨v,rfl,hb8,_,_⟩))
 exact Z5p):P:=h
theorem Z6o {P:Prop}(h:P:=by
 rw [hfv] at hfx
 have Hfv:=Lib.hid hfv
 clear hfv
 go_wp2_with fail
 refine hfx.mono ?_
 rintro e w2 ⟨rfl,hb2⟩
 go_wp2_with fail
 go_roundw
 case rel=>exact ⟨j +1,by omega,by go_num,hB.ch2 hb2,by rw [Hat.out,Hall.out,Hfv.out];rfl⟩
 case measure=>simp [RowKit.intOf];omega):P:=h
theorem Z77 {P:Prop}(h:P:=by
 clear h1 HP hB
 go_enter Tryz.func127,Tryz.ntmps127
 exact Z36):P:=h
theorem Z3 {P:Prop}(h:P:=by
 refine (callsIn_wide (n:=0)).1 (callsIn_of_wp_marks Tryz.func137 rfl trivial ?_)
 simp only [Tryz.ntmps137,List.size_toArray,List.length_cons,List.length_nil,Nat.reduceAdd,Nat.reduceSub,Array.replicate_succ,Array.replicate_zero,List.push_toArray,List.append_toArray,List.nil_append,List.cons_append]
 refine wpIn_wide.2 ?_
 go_wp2_with (first
  | (go_at_call 166;(with_reducible refine (hNm _ (h.below Z5)).mono ?_);rintro e w2 ⟨rfl,hb2⟩;obtain ⟨hc2,hf2⟩:=bcell hb2;have hzE:=lt_size hb2 (b:=w.heap.size +1) Z9;have hzX:=lt_size hb2 (b:=w.heap.size) Z9)
  | (go_at_call 109;refine (sstands _ _ _ _).mono ?_;rintro e w1 ⟨rfl,rfl⟩))
 obtain ⟨q1,q2⟩:=of_err hb2
 exact of_leaves (B:=w2.heap.size +1 +1) rfl (by omega) (by omega) ⟨by simp,by simp⟩ (alKeep (one_set q1 _)) ((q2.setCell (show w.heap.size≤w.heap.size +1 by omega) _).ch2 (one_alloc _ _)) (fun W' hb=>HP.out 5 W' hb rfl)):P:=h
theorem Za {P:Prop}(h:P:=by
 intro us w7 Fs hG hu hbd hd
 simp [SL.Used,SL.pu,SL.boxAt] at hu
 obtain ⟨⟨e2,hbl,_⟩,e3,_⟩:=hu
 have hB7:Below w.heap.size w w7:=HBW.out.trans (hG.belowF HBW.out.size (by simp))
 obtain ⟨⟨y0,y1,y2,y3,y4,y5,y6,y7,y8,y9,y10,y11,y12,y13,y14,y15⟩,_,_⟩:=ItmCells.of_heap (x:=⟨0,0,0,⟨#[]⟩,0,0,0,false,x.sh,x.fr,x.tw,x.lo,x.hi,⟨#[]⟩,0,0⟩) hbl
 simp only at y0 y1 y2 y3 y4 y5 y6 y7 y8 y9 y10 y11 y12 y13 y14 y15
 rw [e3]
 clear hbl hG hbd hd hb1 z0 z1 d8 d9 d10 hn0 hI e2 e3
 have HB:=Lib.hid hB7
 clear hB7
 go_wp2_with fail
 refine bodyPost_ret (v:=.tuple #[.agg #[.int .i64 0,.int .i64 0,.int .u8 0,.string ⟨#[]⟩,.int .i64 0,.int .i64 0,.int .i64 0,.bool false,.int .i64 x.sh,.int .i64 x.fr,.int .i64 x.tw,.int .i64 x.lo,.int .i64 x.hi,.string ⟨#[]⟩,.int .i64 0,.int .i64 0],.bool false]) Z7b rfl ⟨rfl,HB.out⟩):P:=h
theorem Zs {P:Prop}(h:P:=by
 have HB:=Lib.hid hB7
 clear hB7
 go_wp2_with fail
 refine bodyPost_ret (v:=.tuple #[.agg #[.int .i64 0,.int .i64 0,.int .u8 0,.string x.wa,.int .i64 x.pit,.int .i64 x.ly,.int .i64 x.co,.bool x.ft,.int .i64 0,.int .i64 0,.int .i64 0,.int .i64 0,.int .i64 0,.string ⟨#[]⟩,.int .i64 0,.int .i64 0],.bool false]) Z7a rfl ⟨rfl,HB.out⟩):P:=h
theorem Zu {P:Prop}(h:P:=by
 intro us w7 Fs hG hu hbd hd
 simp [SL.Used,SLF.pq] at hu
 obtain ⟨h33,_⟩:=hu
 rw [h33]
 have hB7:Below wr.heap.size wr w7:=hG.below'
 clear hG hbd hd h33
 go_wp2
 go_ret
 exact ⟨ret_bool (by rw [← HT.out,setS_false (HP.out (by rw [Hsu.out,← Hb.out,← Hb2.out];grind))]),hB.ch2 hB7⟩):P:=h
theorem Zw {P:Prop}(h:P:=by
 go_enter Tryz.func28,Tryz.ntmps28
 go_wp2_with (go_at_call 82;(with_reducible refine (hL _ h).mono ?_);rintro e w2 ⟨v,rfl,hb2,ho2⟩;obtain ⟨va,vc,rfl,_⟩:=owns_slice ho2)
 refine bodyPost_ret (v:=.tuple #[.int .i64 0,.int .i64 0,.bool false,.int .i64 1]) Z22 rfl (hF.out _ (hb2.ch2 (one_alloc _ _)))):P:=h
theorem Zx {P:Prop}(h:P:=by
 go_enter Tryz.func30,Tryz.ntmps30
 go_wp2_with (go_at_call 82;(with_reducible refine (hL _ h).mono ?_);rintro e w2 ⟨v,rfl,hb2,ho2⟩;obtain ⟨va,vc,rfl,_⟩:=owns_slice ho2)
 refine bodyPost_ret (v:=.tuple #[.int .i64 0,.int .i64 0,.int .i64 1]) Z2c rfl (hF.out _ (hb2.ch2 (one_alloc _ _)))):P:=h
theorem Zy {P:Prop}(h:P:=by
 intro us w7 Fs hG hu hbd hd
 simp [SL.Used,SLF.pq] at hu
 obtain ⟨h33,_⟩:=hu
 rw [h33]
 have hB7:Below w2.heap.size w2 w7:=hG.below'
 obtain ⟨⟨y0,y1,y2,y3,y4,y5,y6,y7,y8,y9,y10,y11,y12,y13,y14,y15⟩,_,_⟩:=ItmCells.of_heap ((hB7.block _ z0).trans hA2)
 have hi7:=hi2.below hB7
 have HB:=Lib.hid (hB2.ch2 hB7)
 clear hG hbd hd h33 hB7 hB2 hi2 hA2 c0
 go_wp2_with (go_at_call 137;(with_reducible refine (HC.out _ hi7 (by omega)).mono ?_);rintro e w8 ⟨rfl,hb8⟩)
 exact HP.out _ _ (HB.out.ch2 hb8) (by simp)):P:=h
theorem Zz {P:Prop}(h:P:=by
 generalize xs[j]=x at *
 cases hfv:f x
 ·exact Z6o
 ·rw [hfv] at hfx
  have Hfv:=Lib.hid (Hhit.out hfv)
  clear hfv
  go_wp2_with fail
  refine hfx.mono ?_
  rintro e w2 ⟨rfl,hb2⟩
  go_wp2_with fail
  exact HP.out _ _ (by rw [Hfv.out.1,Hfv.out.2];rfl) (hB.ch2 hb2)):P:=h
theorem Z12 {P:Prop}(h:P:=by
 have hId:=fun W xa xc (hi:ItmsAt W xa X.length xc X)=>sids_any xa _ xc X W hi (by omega)
 unfold RowPost at hId
 go_wp2_with (first
  | (go_at_call 101;(with_reducible refine hSp.mono ?_);rintro e w8 ⟨v8,rfl,hb8,ho8⟩;obtain ⟨xa,xc,rfl,_⟩:=owns_slice ho8;have hi8:=ItmsAt.of_owns ho8 (by omega) hwX)
  | (go_at_call 103;(with_reducible refine (hId _ _ _ hi8).mono ?_);rintro e w9 ⟨v9,rfl,hb9,ho9⟩;obtain ⟨ia,ic,rfl,_⟩:=owns_slice ho9))
 exact HPf.out _ _ ((HB7.out.ch2 hb8).ch2 hb9) (SL.row_base ho9 ((HB7.out.ch2 hb8).size))):P:=h
theorem Z1e {P:Prop}(h:P:=by
 intro us w7 Fs hG hu hbd hd
 simp [SL.Used,SLF.pq] at hu
 obtain ⟨h33,_⟩:=hu
 rw [h33]
 have hB7:Below wr.heap.size wr w7:=hG.below'
 clear hG hbd hd h33
 go_wp2
 go_ret
 exact ⟨ret_bool (by rw [← HT.out,setS_false (HP.out (by rw [Hsu.out,← Hb.out];grind))]),hB.ch2 hB7⟩):P:=h
theorem Z1g {P:Prop}(h:P:=by
 go_wp2_with (first
  | (refine wpList_loadI rfl _ rfl rfl hdc ?_)
  | (refine wpList_storeI_new rfl _ _ rfl rfl rfl rfl ?_))
 go_roundw
 case rel=>exact ⟨k +1,by omega,by go_num,hB.ch2 hal,(P1,P2),rfl,rfl,Lib.hid Z78⟩
 case measure=>simp [RowKit.intOf];omega):P:=h
theorem Z1i {P:Prop}(h:P:=by
 go_enter Tryz.func178,Tryz.ntmps178
 go_wp2_with (first
  | (go_at_call 92;(with_reducible refine hS.mono ?_);rintro e w4 ⟨v4,rfl,hb4,ho4⟩;obtain ⟨sa,sc,rfl,_⟩:=owns_slice ho4)
  | (go_at_call 91;(with_reducible refine (hC _ _ _ _ ho4).mono ?_);rintro e w5 ⟨rfl,hb5⟩))
 go_ret
 exact ⟨by simp [ho],hb4.ch2 hb5⟩):P:=h
theorem Z1r {P:Prop}(h:P:=by
 go_wp2_with (first
  | (refine wpList_loadI rfl _ rfl rfl hdc ?_)
  | (refine wpList_storeI_new rfl _ _ rfl rfl rfl rfl ?_))
 go_roundw
 case rel=>exact ⟨k +1,by omega,by go_num,hB.ch2 hal,hR2,Lib.hid (Hn.out rfl)⟩
 case measure=>simp [RowKit.intOf];omega):P:=h
theorem Z2n {P:Prop}(h:P:=by
 go_roundw
 case rel=>exact ⟨I +1,J +1,cur.set I x,by go_num,by go_num,Hk,HQ.out.1,HC2.out.trans HQ.out.2⟩
 case measure=>simp [RowKit.intOf];omega):P:=h
theorem Z2r {P:Prop}(h:P:=by
 go_wp2_with fail
 go_roundw
 case rel=>exact ⟨I,J +1,cur,rfl,by go_num,Hk,HO.out,HC2.out⟩
 case measure=>simp [RowKit.intOf];omega):P:=h
theorem Z36 {P:Prop}(h:P:=by
 go_wp2_with fail
 exact HE.out):P:=h
theorem Z3f {P:Prop}(h:P:=by
 rw [List.take_of_length_le (by omega)] at Hall
 go_wp2_with fail
 exact HP.out _ _ (by rw [Hall.out];rfl) hB):P:=h
theorem Z4i {P:Prop}(h:P:=by
 go_ret
 exact ⟨rfl,one_alloc _ _⟩):P:=h
theorem Z4m {P:Prop}(h:P:=by
 go_wp2
 go_ret
 exact ⟨rfl,rfl⟩):P:=h
theorem Z4t {P:Prop}(h:P:=by
 go_wp2_with fail
 exact HF.out):P:=h
theorem Z57 {P:Prop}(h:P:=by
 go_wp2_with fail
 exact HP.out 1 _ HB.out (by simp)):P:=h
end Go.Proofs.YtelkcohhagblaaaGreat
namespace Go.Proofs.YtelkcohhagblaaaGreat.SLF
open Go Go.RowKit Go.Proofs.YtelkcohhagblaaaGreat.SL
def noDef (ops:List Oper):Bool:=ops.all fun o=>match o.op with | .defer _=>false | _=>true
theorem noDef_of {ops:List Oper} (h:noDef ops=true):∀ o ∈ ops,∀ c,o.op≠.defer c:=by
 intro o ho c e
 have:=List.all_eq_true.1 h o ho
 rw [e] at this
 cases this

/-- One operation: carried out, or passed over by its guard. -/
def wpo (ro:Option Nat) (P:Program) (ops:List Oper) (o:Oper) (a:Act) (w:World) (K:Act→World→Prop):Prop :=
 if Region.wanted o (yielded ops.toArray a.tmps)=true then o.wpIn { Fence.wide with round:=ro } 0 P a w K (fun _ _ _=>False) else K (a.put o.dst undef) w
theorem wpIn_weak {F:Fence} {n:Nat} {P:Program} {o:Oper} {a:Act} {w:World} {K K':Act→World→Prop} {Q:Exit→Act→World→Prop} (h:∀ a w,K a w→K' a w) (hh:o.wpIn F n P a w K (fun _ _ _=>False)):o.wpIn F n P a w K' Q:=by
 unfold Oper.wpIn at *
 refine ⟨hh.1,?_⟩
 have hh:=hh.2
 generalize (o.semAt F.round a.eval).run P w=r at *
 cases r with
 | ok x w' =>
   cases x <;> simp only [Oper.uponIn] at hh ⊢ <;>
    first
     | exact h _ _ hh
     | exact ⟨hh.1,CallsIn.mono hh.2 (fun e w'' he=>by cases e <;> first | exact h _ _ he | exact he.elim | (obtain ⟨_,_,hf⟩:=he;exact hf.elim))⟩
     | exact ⟨hh.1,RowsIn.mono hh.2 (fun _ _ he=>h _ _ he)⟩
     | exact ⟨hh.1,RoundIn.mono hh.2 (fun e w'' he=>by cases e <;> first | exact h _ _ he | exact he.elim | (obtain ⟨_,_,hf⟩:=he;exact hf.elim))⟩
 | halt x w'=>cases x <;> simp only [Oper.uponIn] at hh ⊢
theorem wpo_mono {ro:Option Nat} {P:Program} {ops:List Oper} {o:Oper} {a:Act} {w:World} {K K':Act→World→Prop} (h:∀ a w,K a w→K' a w) (hh:wpo ro P ops o a w K):wpo ro P ops o a w K':=by
 unfold wpo at *
 split
 ·rename_i hw;rw [if_pos hw] at hh;exact wpIn_weak h hh
 ·rename_i hw;rw [if_neg hw] at hh;exact h _ _ hh
theorem wpo_out {ro:Option Nat} {P:Program} {ops:List Oper} {o:Oper} {a:Act} {w:World} {K K':Act→World→Prop} {Q:Exit→Act→World→Prop} (h:∀ a w,K a w→K' a w) (hh:wpo ro P ops o a w K) :
 if Region.wanted o (yielded ops.toArray a.tmps)=true then o.wpIn { Fence.wide with round:=ro } 0 P a w K' Q else (∀ f,o.about P w a.eval=some f→({ Fence.wide with round:=ro }:Fence).fn f)∧K' (a.put o.dst undef) w:=by
 unfold wpo at *
 split
 ·rename_i hw;rw [if_pos hw] at hh;exact wpIn_weak h hh
 ·rename_i hw;rw [if_neg hw] at hh;exact ⟨fun _ _=>trivial,h _ _ hh⟩
theorem wpIn_of_wp {ro:Option Nat} {P:Program} {o:Oper} {a:Act} {w:World} {K:Act→World→Prop} {Q:Exit→Act→World→Prop} (hnd:∀ c,o.op≠.defer c) (h:o.wp P a w K (fun _ _ _=>False)) :
 o.wpIn { Fence.wide with round:=ro } 0 P a w K Q:=by
 refine ⟨fun _ _=>trivial,?_⟩
 rw [Oper.semAt_plain _ _ _ hnd]
 unfold Oper.wp at h
 generalize (execOp a.eval o).run P w=r at *
 cases r with
 | ok n w' =>
   cases n <;> simp only [Oper.upon,Oper.uponIn] at h ⊢ <;> first | exact h | skip
   ·refine ⟨fun h=>by simp [Fence.wide] at h,?_⟩
    have h2:CallsIn { Fence.wide with round:=ro } (0 - 1) P _ _ _ _:=match ro with
     | none=>callsIn_wide.2 h
     | some l=>CallsIn.inRound l (callsIn_wide.2 h)
    refine h2.mono fun e w'' he=>?_
    cases e with
    | returned v=>exact he
    | panicked c=>exact he.elim
    | outgrown=>obtain ⟨_,_,hf⟩:=he;exact hf.elim
   ·refine ⟨fun h=>by simp [Fence.wide] at h,fun c cs _=>?_⟩
    obtain ⟨v,w',r,s⟩:=h c cs
    exact ⟨v,w',r,stepsIn_wide.2 s⟩
 | halt x w'=>cases x <;> simp only [Oper.upon,Oper.uponIn] at h ⊢
/-- An operation whose guard lets it pass. -/
theorem wpo_do {ro:Option Nat} {P:Program} {ops:List Oper} {o:Oper} {a:Act} {w:World} {K:Act→World→Prop} (hw:Region.wanted o (yielded ops.toArray a.tmps)=true) (hnd:∀ c,o.op≠.defer c)
 (h:o.wp P a w K (fun _ _ _=>False)):wpo ro P ops o a w K:=by
 unfold wpo
 rw [if_pos hw]
 exact wpIn_of_wp hnd h
theorem wpo_not {ro:Option Nat} {P:Program} {ops:List Oper} {o:Oper} {a:Act} {w:World} {K:Act→World→Prop} (hw:Region.wanted o (yielded ops.toArray a.tmps)=false) (h:K (a.put o.dst undef) w):wpo ro P ops o a w K:=by
 unfold wpo
 rw [if_neg (by rw [hw];simp)]
 exact h

/-- All that may come ahead of j is quiet. -/
def calm (ops:List Oper) (Γ:List Sp) (j:Nat):Bool:=(List.range ops.length).all fun k=>k == j || (Γ.getD k (pu 0 [] undef)).quiet || ((anc ops).getD k []).contains j
section
variable (ro:Option Nat) (all:List Oper) (P:Program) (a0:Act) (w0:World) (F0:List Nat) (ds:List Nat)

/-- What one operation owes. -/
def Ob (Γ:List Sp) (j:Nat) (o:Oper) (s:Sp):Prop :=
 ∀ (us:Nat→Value) (w:World) (Fe:Nat→List Nat),Chg F0 w0 w→(∀ i x,i ∈ s.use→Γ[i]?=some x→x.A (us x.sub) w (Fe i))→(∀ i j,i ∈ s.use→j ∈ s.use→i≠j→∀ k ∈ Fe i,k ∉ Fe j)→(∀ i x,i ∈ s.see→Γ[i]?=some x→x.V (us x.sub))→(calm all Γ j=true→w=w0) →
   wpo ro P all o (frame a0 ds us) w (fun a' w'=>∃ v F,a'=(frame a0 ds us).put o.dst v∧s.V (if o.dst=some s.sub then v else us s.sub)∧Chg (s.eat.flatMap Fe) w w' ∧
    s.A (if o.dst=some s.sub then v else us s.sub) w' F∧(∀ k ∈ F,k ∈ s.eat.flatMap Fe∨(w.heap.size≤k∧k<w'.heap.size))∧(s.quiet=true→w'=w))
def Obs (Γ:List Sp):Nat→List Oper→List Sp→Prop
 | j,o::os,s::ss=>Ob ro all P a0 w0 F0 ds Γ j o s∧Obs Γ (j +1) os ss
 | _,_,_=>True
end

/-- The check: n operations; Γ has their words first, then those that hold from the beginning. -/
def check (ops:List Oper) (Γ:List Sp) (ds:List Nat):Bool :=
 let n:=ops.length
 let an:=anc ops
 let A:=fun j=>an.getD j []
 (ops.all fun o=>(match o.op with | .defer _=>false | _=>true) && (match o.dst with | some d=>ds.contains d | none=>true)) && decide (n≤Γ.length) && (an.length == n) &&
 ((List.range n).all fun j=>((ops.getD j default).after.toList.all fun e=>!Region.binds .any e || decide (e.on<j))) &&
 ((List.range n).all fun j=>((A j).all fun i=>(ops.getD j default).after.toList.any fun e=>Region.binds .any e && (e.on == i || (A e.on).contains i))) &&
 (List.range n).all fun j =>
  let s:=Γ.getD j (pu 0 [] undef)
  (s.eat.all s.use.contains) && (s.use.all fun i=>(decide (n≤i) || (A j).contains i) && i != j && decide (i<Γ.length)) &&
  (s.see.all fun i=>(A j).contains i && decide ((ops.getD i default).dst=some (Γ.getD i (pu 0 [] undef)).sub)) &&
  ((List.range n).all fun i=>i == j || match (ops.getD i default).dst,(ops.getD j default).dst with | some d,some d'=>d != d' | _,_=>true) &&
  (s.use.all fun i=>(List.range n).all fun k=>k == j || !((Γ.getD k (pu 0 [] undef)).eat.contains i) || (A k).contains j) &&
  (match (ops.getD j default).dst with
   | some d=>(List.range Γ.length).all fun i=>i == j || (Γ.getD i (pu 0 [] undef)).sub != d || (List.range n).any (fun k=>(Γ.getD k (pu 0 [] undef)).eat.contains i && (k == j || (A j).contains k)) || (A i).contains j
   | none=>true)
section
variable {ro:Option Nat} {all:List Oper} {P:Program} {a0:Act} {w0:World} {F0:List Nat} {ds:List Nat} {Γ:List Sp} {ops:List Oper}
theorem Obs_get:∀ (os:List Oper) (ss:List Sp) (i j:Nat) (o:Oper) (s:Sp),Obs ro all P a0 w0 F0 ds Γ i os ss→os[j]?=some o→ss[j]?=some s→Ob ro all P a0 w0 F0 ds Γ (i +j) o s
 | [],_,_,_,_,_,_,h,_=>by simp at h
 | _::_,[],_,_,_,_,_,_,h=>by simp at h
 | o::os,s::ss,i,0,_,_,h,ho,hs=>by
   exact Z5j
 | o::os,s::ss,i,j +1,o',s',h,ho,hs=>by
   have:=Obs_get os ss (i +1) j o' s' h.2 Z4j Z5o
   rwa [show i +(j +1)=i +1 +j by omega]

/-- What holds when the operations in D have been carried out. -/
structure Inv (a0:Act) (w0:World) (F0 ds:List Nat) (Γ:List Sp) (ops:List Oper) (D:Nat→Bool) (a:Act) (w:World):Prop where
 body:∃ (us:Nat→Value) (Fs:Nat→List Nat),a=frame a0 ds us∧Chg F0 w0 w ∧
  (∀ i x,Γ[i]?=some x→(i<ops.length→D i=true)→(∀ k y,k<ops.length→D k=true→Γ[k]?=some y→i ∉ y.eat)→x.A (us x.sub) w (Fs i)∧∀ k ∈ Fs i,(k ∈ F0∨w0.heap.size≤k)∧k<w.heap.size) ∧
  (∀ i j x y,i≠j→Γ[i]?=some x→Γ[j]?=some y→(i<ops.length→D i=true)→(j<ops.length→D j=true) →
   (∀ k z,k<ops.length→D k=true→Γ[k]?=some z→i ∉ z.eat)→(∀ k z,k<ops.length→D k=true→Γ[k]?=some z→j ∉ z.eat)→∀ k ∈ Fs i,k ∉ Fs j) ∧
  (∀ i o x,ops[i]?=some o→Γ[i]?=some x→D i=true→o.dst=some x.sub→x.V (us x.sub))
 closed:∀ j i,D j=true→i ∈ (anc ops).getD j []→D i=true
 still:(∀ k x,k<ops.length→D k=true→Γ[k]?=some x→x.quiet=true)→w=w0
structure Chk (ops:List Oper) (Γ:List Sp) (ds:List Nat):Prop where
 nodef:∀ o ∈ ops,∀ c,o.op≠.defer c
 dst:∀ o ∈ ops,∀ d,o.dst=some d→d ∈ ds
 len:ops.length≤Γ.length
 ancLen:(SL.anc ops).length=ops.length
 low:∀ j o,ops[j]?=some o→∀ e ∈ o.after,Region.binds .any e=true→e.on<j
 anc:∀ j o,ops[j]?=some o→∀ i ∈ (anc ops).getD j [],∃ e ∈ o.after,Region.binds .any e=true∧(e.on=i∨i ∈ (SL.anc ops).getD e.on [])
 eatUse:∀ j s,j<ops.length→Γ[j]?=some s→∀ i ∈ s.eat,i ∈ s.use
 use:∀ j s,j<ops.length→Γ[j]?=some s→∀ i ∈ s.use,(ops.length≤i∨i ∈ (SL.anc ops).getD j [])∧i≠j∧i<Γ.length
 see:∀ j s,j<ops.length→Γ[j]?=some s→∀ i ∈ s.see,i ∈ (SL.anc ops).getD j []∧∀ o x,ops[i]?=some o→Γ[i]?=some x→o.dst=some x.sub
 single:∀ (i j:Nat) (o o':Oper) (d:Tmp),ops[i]?=some o→ops[j]?=some o'→i≠j→o.dst=some d→o'.dst≠some d
 order:∀ j s,j<ops.length→Γ[j]?=some s→∀ i ∈ s.use,∀ k y,k<ops.length→Γ[k]?=some y→k≠j→i ∈ y.eat→j ∈ (SL.anc ops).getD k []
 slot:∀ j o d,ops[j]?=some o→o.dst=some d→∀ i x,Γ[i]?=some x→i≠j→x.sub=d→(∃ k y,k<ops.length∧Γ[k]?=some y∧i ∈ y.eat∧(k=j∨k ∈ (SL.anc ops).getD j []))∨j ∈ (SL.anc ops).getD i []
theorem chk_of (h:check ops Γ ds=true):Chk ops Γ ds:=by
 simp only [check,Bool.and_eq_true,List.all_eq_true,List.mem_range,decide_eq_true_eq,Bool.or_eq_true,Bool.not_eq_true',beq_iff_eq,List.contains_iff_mem,bne_iff_ne,ne_eq] at h
 obtain ⟨⟨⟨⟨⟨h1,h2⟩,h2'⟩,h3⟩,h4⟩,h5⟩:=h
 have hop:∀ j o,ops[j]?=some o→j<ops.length∧ops.getD j default=o:=fun j o ho=>⟨(List.getElem?_eq_some_iff.1 ho).1,by simp [List.getD_eq_getElem?_getD,ho]⟩
 have hΓ:∀ j s,Γ[j]?=some s→Γ.getD j (pu 0 [] undef)=s:=fun j s hs=>by simp [List.getD_eq_getElem?_getD,hs]
 refine ⟨fun o ho c e=>(by have h:=(h1 o ho).1;rw [e] at h;simp at h),fun o ho d hd=>?_,h2,h2',fun j o ho e he hb=>?_,fun j o ho i hi=>?_,fun j s hj hs i hi=>?_,fun j s hj hs i hi=>?_,fun j s hj hs i hi=>?_,fun i j o o' d hoi hoj hij hdi hdj=>?_,fun j s hj hs i hi k y hk hy hkj hiy=>?_,fun j o d ho hd i x hx hij hsub=>?_⟩
 ·exact Z56
 ·exact Z2x
 ·exact Z76
 ·exact Z4d
 ·exact Z3i
 ·exact Z2m
 ·exact Z2o
 ·exact Z20
 ·exact Z10
theorem Obs_get0 {j:Nat} {o:Oper} {s:Sp} (h:Obs ro all P a0 w0 F0 ds Γ 0 ops Γ) (ho:ops[j]?=some o) (hs:Γ[j]?=some s):Ob ro all P a0 w0 F0 ds Γ j o s:=by
 have:=Obs_get ops Γ 0 j o s h ho hs
 rwa [Nat.zero_add] at this
theorem anc_lt (hc:Chk ops Γ ds):∀ (j i:Nat),i ∈ (anc ops).getD j []→i<ops.length:=by
 intro j
 exact Z17
theorem step (hob:Obs ro ops P a0 w0 F0 ds Γ 0 ops Γ) (hc:Chk ops Γ ds) {D:Nat→Bool} {a:Act} {w:World} {j:Nat} {o:Oper} (hI:Inv a0 w0 F0 ds Γ ops D a w)
 (ho:ops[j]?=some o) (hD:D j=false) (hpre:∀ e ∈ o.after,Region.binds .any e=true→D e.on=true) :
 wpo ro P ops o a w (Inv a0 w0 F0 ds Γ ops (fun i=>if i=j then true else D i)):=by
 obtain ⟨⟨us,Fs,rfl,hG,hA,hdis,hV⟩,hcl,hst⟩:=hI
 have hjl:j<ops.length:=(List.getElem?_eq_some_iff.1 ho).1
 have hjΓ:j<Γ.length:=Nat.lt_of_lt_of_le hjl hc.len
 obtain ⟨s,hs⟩:∃ s,Γ[j]?=some s:=⟨_,List.getElem?_eq_getElem hjΓ⟩
 have hancD:∀ i ∈ (anc ops).getD j [],D i=true:=fun i hi=>by
  exact Z38
 -- what it uses is there, and nobody has taken it over
 have huse:∀ i ∈ s.use,(i<ops.length→D i=true)∧(∀ k y,k<ops.length→D k=true→Γ[k]?=some y→i ∉ y.eat):=fun i hi=>by
  exact Z1k
 have hdu:∀ i i',i ∈ s.use→i' ∈ s.use→i≠i'→∀ k ∈ Fs i,k ∉ Fs i':=fun i i' hi hi' hii=>by
  exact Z1n
 have hsee:∀ i x,i ∈ s.see→Γ[i]?=some x→x.V (us x.sub):=fun i x hi hx=>by
  exact Z1h
 have hcalm:calm ops Γ j=true→w=w0:=fun hcm=>hst fun k x hk hDk hx=>by
  simp only [calm,List.all_eq_true,List.mem_range,Bool.or_eq_true,beq_iff_eq,List.contains_iff_mem] at hcm
  rcases hcm k hk with (h | h) | h
  ·subst h;rw [hD] at hDk;cases hDk
  ·rwa [show Γ.getD k (pu 0 [] undef)=x from by simp [List.getD_eq_getElem?_getD,hx]] at h
  ·have:=hcl k j hDk h;rw [hD] at this;cases this
 refine wpo_mono ?_ (Obs_get0 hob ho hs us w Fs hG (fun i x hi hx=>(hA i x hx (huse i hi).1 (huse i hi).2).1) hdu hsee hcalm)
 rintro a' w' ⟨v,F,rfl,hVj,hch,hAj,hF,hqu⟩
 have hE:∀ k ∈ s.eat.flatMap Fs,∃ e x,e ∈ s.eat∧Γ[e]?=some x∧k ∈ Fs e∧(k ∈ F0∨w0.heap.size≤k)∧k<w.heap.size:=fun k hk=>by
  exact Z1t
 let us':Nat→Value:=match o.dst with | some d=>fun x=>if x=d then v else us x | none=>us
 have hfr:(frame a0 ds us).put o.dst v=frame a0 ds us':=by
  exact Z2y
 have hus:∀ t,us' t=if o.dst=some t then v else us t:=fun t=>by
  exact Z2d
 refine ⟨⟨us',fun i=>if i=j then F else Fs i,hfr,?_,?_,?_,?_⟩,?_,?_⟩
 ·exact Z1o
 ·exact Zf
 ·exact Zi
 ·exact Z1z
 ·exact Z2f
 ·intro hq
  rw [hqu (hq j s hjl (by simp) hs)]
  exact hst fun k x hk hDk hx=>hq k x hk Z6w hx
theorem any_of (hob:Obs ro ops P a0 w0 F0 ds Γ 0 ops Γ) (hc:Chk ops Γ ds) {Q:Exit→Act→World→Prop}
 (hend:∀ (D:Nat→Bool) a w,(∀ i,i<ops.length→D i=true)→Inv a0 w0 F0 ds Γ ops D a w→Q .normal a w) :
 ∀ (fuel:Nat) (listed:Array Bool) (a:Act) (w:World),listed.size=ops.length→listed.toList.count false=fuel→Inv a0 w0 F0 ds Γ ops (fun i=>listed.getD i false) a w→wpAnyIn { Fence.wide with round:=ro } 0 P .any ops.toArray Q fuel listed a w:=by
 have ready_nil:∀ listed:Array Bool,listed.size=ops.length→Region.ready .any ops.toArray listed=[]→∀ i,i<ops.length→listed.getD i false=true:=by
  intro listed hl hr i
  exact Zo
 intro fuel
 induction fuel with
 | zero =>
   exact Zt
 | succ fuel ih =>
   intro listed a w hl hcnt hI
   refine ⟨fun hr=>hend _ a w (ready_nil listed hl hr) hI,fun j hj=>?_⟩
   simp only [Region.ready,List.mem_filter,List.mem_range,List.size_toArray,Bool.and_eq_true,Bool.not_eq_true'] at hj
   obtain ⟨hjl,hun,hall⟩:=hj
   have ho:ops[j]?=some ops[j]:=List.getElem?_eq_getElem hjl
   have hj':j<listed.size:=by omega
   simp only [List.getElem?_toArray,ho,Option.map_some,Option.getD_some,Array.all_eq_true'] at hall
   have hD:listed.getD j false=false:=by
    simp [Array.getD,hj'] at hun ⊢;exact hun
   unfold wpOpIn
   simp only [List.getElem?_toArray,ho]
   refine wpo_out (ops:=ops) ?_ (step hob hc hI ho hD fun e he hb=>by
    have:=hall e he
    simpa [hb] using this)
   exact Zr
end

/-- THE RULE: a region that draws its order. -/
theorem region {P:Program} {ro:Option Nat} (hm:P.follows .mixedOrders=true) {id:Nat} {ops:List Oper} {a0:Act} {w:World} {Q:Exit→Act→World→Prop} (F0 ds:List Nat) (Γ:List Sp) (Fs0:Nat→List Nat)
 (hck:check ops Γ ds=true)
 (hin:∀ i x,ops.length≤i→Γ[i]?=some x→x.A (a0.tmps.getD x.sub undef) w.drew (Fs0 i)∧∀ k ∈ Fs0 i,k ∈ F0∧k<w.heap.size)
 (hdj:∀ i j,i≠j→ops.length≤i→ops.length≤j→∀ k ∈ Fs0 i,k ∉ Fs0 j)
 (hob:Obs ro ops P a0 w.drew F0 ds Γ 0 ops Γ)
 (hend:∀ (us:Nat→Value) (w':World) (Fs:Nat→List Nat),Chg F0 w.drew w' →
  (∀ i x,Γ[i]?=some x→(∀ k y,k<ops.length→Γ[k]?=some y→i ∉ y.eat)→x.A (us x.sub) w' (Fs i)∧∀ k ∈ Fs i,(k ∈ F0∨w.heap.size≤k)∧k<w'.heap.size) →
  (∀ i j x y,i≠j→Γ[i]?=some x→Γ[j]?=some y→(∀ k z,k<ops.length→Γ[k]?=some z→i ∉ z.eat)→(∀ k z,k<ops.length→Γ[k]?=some z→j ∉ z.eat)→∀ k ∈ Fs i,k ∉ Fs j) →
  Q .normal (frame a0 ds us) w') :
 (Code.region id ops.toArray true).wpIn { Fence.wide with round:=ro } 0 P Q a0 w:=by
 have hc:=chk_of hck
 refine wpIn_region_any hm ?_
 have hfr:frame a0 ds (fun s=>a0.tmps.getD s undef)=a0:=by
  exact Z13
 have:(Array.replicate ops.toArray.size false).toList.count false=ops.toArray.size:=by simp
 refine any_of hob hc ?_ ops.toArray.size _ _ _ (by simp) this ?_
 ·intro D a w2 hall hI
  obtain ⟨⟨us,Fs,rfl,hG,hA,hdis,_⟩,_,_⟩:=hI
  exact Z1w
 ·have hD:∀ i,(Array.replicate ops.toArray.size false).getD i false=false:=fun i=>by
   simp only [Array.getD];split <;> simp
  refine ⟨⟨fun s=>a0.tmps.getD s undef,Fs0,hfr.symm,Chg.refl _ _,fun i x hx hDi _=>?_,fun i j x y hij hx hy hDi hDj _ _=>?_,fun i o x _ _ hDi _=>?_⟩,fun k i hk _=>?_,fun _=>rfl⟩
  ·exact Z7c
  ·exact Z1m
  ·rw [hD] at hDi;cases hDi
  ·rw [hD] at hk;cases hk

/-- THE RULE, for use: what is kept at the end is named. -/
theorem rule {P:Program} {ro:Option Nat} (hm:P.follows .mixedOrders=true) {id:Nat} {ops:List Oper} {a0:Act} {w:World} {Q:Exit→Act→World→Prop} (F0 ds:List Nat) (Γ:List Sp) (keep:List Nat)
 (hck:check ops Γ ds=true) (hkeep:keepOk ops.length Γ keep=true) (Fs0:Nat→List Nat)
 (hin:∀ i x,ops.length≤i→Γ[i]?=some x→x.A (a0.tmps.getD x.sub undef) w.drew (Fs0 i)∧∀ k ∈ Fs0 i,k ∈ F0∧k<w.heap.size)
 (hdj:∀ i j,i≠j→ops.length≤i→ops.length≤j→∀ k ∈ Fs0 i,k ∉ Fs0 j)
 (hob:Obs ro ops P a0 w.drew F0 ds Γ 0 ops Γ)
 (hend:∀ (us:Nat→Value) (w':World) (Fs:Nat→List Nat),Chg F0 w.drew w'→Used Γ us w' Fs keep →
  (∀ i ∈ keep,∀ k ∈ Fs i,(k ∈ F0∨w.heap.size≤k)∧k<w'.heap.size)→(∀ i j,i ∈ keep→j ∈ keep→i≠j→∀ k ∈ Fs i,k ∉ Fs j) →
  Q .normal (frame a0 ds us) w') :
 (Code.region id ops.toArray true).wpIn { Fence.wide with round:=ro } 0 P Q a0 w:=by
 exact Zn
theorem ob {ro:Option Nat} {all:List Oper} {P:Program} {a0:Act} {w0:World} {F0 ds:List Nat} {Γ:List Sp} {j:Nat} {o:Oper} {s:Sp}
 (h:∀ (us:Nat→Value) (w:World) (Fe:Nat→List Nat),Chg F0 w0 w→Used Γ us w Fe s.use→(∀ i j,i ∈ s.use→j ∈ s.use→i≠j→∀ k ∈ Fe i,k ∉ Fe j)→Seen Γ us s.see →
  ∀ K:Act→World→Prop,(∀ a' v w' F,a'=(frame a0 ds us).put o.dst v→s.V (if o.dst=some s.sub then v else us s.sub)→Chg (s.eat.flatMap Fe) w w'→s.A (if o.dst=some s.sub then v else us s.sub) w' F→(∀ k ∈ F,k ∈ s.eat.flatMap Fe∨(w.heap.size≤k∧k<w'.heap.size))→(s.quiet=true→w'=w)→K a' w') →
    wpo ro P all o (frame a0 ds us) w K):Ob ro all P a0 w0 F0 ds Γ j o s :=
 fun us w Fe hG hu hd hv _=>h us w Fe hG (used_of _ hu) hd (seen_of _ hv) _ fun _ v _ F h0 hv h1 h2 h3 h4=>⟨v,F,h0,hv,h1,h2,h3,h4⟩
/-- A value, and nothing of memory; the world stands. -/
def pq (s:Nat) (u:List Nat) (v:Value):Sp:={ sub:=s,use:=u,eat:=[],A:=fun x _ F=>x=v∧F=[],quiet:=true,st:=fun _ _ _ _ h _ _=>h }
theorem wanted_free {o:Oper} {y:Nat→Option Bool} (h:o.guard=none):Region.wanted o y=true:=by simp [Region.wanted,h]
theorem wanted_by {o:Oper} {ops:Array Oper} {tmps:Array Value} {g d:Nat} {b:Bool} (h:o.guard=some (g,b)) (hd:(ops[g]?).bind (·.dst)=some d) (hv:tmps[d]?=some (.bool b)):Region.wanted o (yielded ops tmps)=true:=by
 simp [Region.wanted,h,yielded,hd,hv]
/-- All memory, held from the beginning. -/
def every (s n:Nat):Sp:={ sub:=s,use:=[],eat:=[],A:=fun _ _ F=>F=List.range n,st:=fun _ _ _ _ h _ _=>h }
/-- An operation that takes all memory over, and leaves J of it. -/
def gives (s:Nat) (u e:List Nat) (v:Value) (J:World→Prop):Sp :=
 { sub:=s,use:=u,eat:=e,A:=fun x w F=>x=v∧(∃ w1,J w1∧w1.heap.size≤w.heap.size∧F=List.range w1.heap.size∧∀ k,k<w1.heap.size→w.heap[k]?=w1.heap[k]?),
   st:=by
    rintro x w w' F ⟨rfl,w1,hj,hs,rfl,hb⟩ hk hz
    exact ⟨rfl,w1,hj,Nat.le_trans hs hz,rfl,fun k h=>(hk k Z3v).trans (hb k h)⟩ }
/-- A block that was there, at N: its cells. -/
def at_ (s:Nat) (u e:List Nat) (N:Nat) (t:TypeId) (cs:Array Value):Sp :=
 { sub:=s,use:=u,eat:=e,A:=fun _ w F=>w.heap[N]?=some (.cells cs t (0,0))∧F=[N],
   st:=by rintro v w w' F ⟨h,rfl⟩ hk _;exact ⟨by rw [hk N (by simp)];exact h,rfl⟩ }
def two (n N M:Nat):Nat→List Nat:=fun i=>if i=n then [N] else if i=n +1 then [M] else []
theorem two_held {ops:List Oper} {Γ:List Sp} {a0:Act} {w:World} {x y:Sp} {N M:Nat} (h:Γ.length=ops.length +2) (hx:Γ[ops.length]?=some x) (hy:Γ[ops.length +1]?=some y)
 (hA:x.A (a0.tmps.getD x.sub undef) w.drew [N]) (hB:y.A (a0.tmps.getD y.sub undef) w.drew [M]) (hN:N<w.heap.size) (hM:M<w.heap.size) :
 ∀ i z,ops.length≤i→Γ[i]?=some z→z.A (a0.tmps.getD z.sub undef) w.drew (two ops.length N M i)∧∀ k ∈ two ops.length N M i,k ∈ [N,M]∧k<w.heap.size:=by
 intro i z hi hz
 unfold two
 by_cases e:i=ops.length
 ·subst e
  rw [hx] at hz
  cases hz
  simp only [if_pos]
  exact ⟨hA,fun k hk=>by simp at hk;subst hk;exact ⟨by simp,hN⟩⟩
 ·by_cases e':i=ops.length +1
  ·subst e'
   rw [hy] at hz
   cases hz
   rw [if_neg (by omega),if_pos rfl]
   exact ⟨hB,fun k hk=>by simp at hk;subst hk;exact ⟨by simp,hM⟩⟩
  ·rw [List.getElem?_eq_none (by omega)] at hz
   cases hz
theorem two_apart {n N M:Nat} (h:N≠M):∀ i j,i≠j→n≤i→n≤j→∀ k ∈ two n N M i,k ∉ two n N M j:=by
 intro i j hij hi hj k hk
 unfold two at *
 split at hk
 ·simp at hk;subst hk
  rw [if_neg (by omega)]
  split <;> simp
  exact h
 ·split at hk
  ·simp at hk;subst hk
   split
   ·simp;exact Ne.symm h
   ·rw [if_neg (by omega)];simp
  ·simp at hk
end Go.Proofs.YtelkcohhagblaaaGreat.SLF
namespace Go.Proofs.YtelkcohhagblaaaGreat
open Go.RowKit
/-- The maps that lie from B on stay. -/
structure KeepsW (B:Nat) (W W':World):Prop where
 size:W.heap.size≤W'.heap.size
 same:∀ (k:Nat) (o:Obj),B≤k→W.heap[k]?=some o→o.isWalk=true→W'.heap[k]?=some o
theorem KeepsW.of {B:Nat} {W W':World} (h:KeepsFrom B W W'):KeepsW B W W':=⟨h.size,fun k o hB hk ho=>h.same k o hB hk (Obj.not_cells_of_walk ho)⟩
theorem KeepsW.trans {B:Nat} {X Y Z:World} (h:KeepsW B X Y) (k:KeepsW B Y Z):KeepsW B X Z:=⟨Nat.le_trans h.size k.size,fun i o hB hi ho=>k.same i o hB (h.same i o hB hi ho) ho⟩
theorem KeepsW.loop {B:Nat} {W:World} {l:Nat} {x:Loop} (h:W.heap[l]?=some (.loop x)) (o:Obj):KeepsW B W (W.putObj l o):=by
 refine ⟨by simp [World.putObj],fun k p _ hk hp=>?_⟩
 rw [World.putObj_heap_other (fun e=>?_)]
 ·exact hk
 ·subst e
  rw [h] at hk
  cases hk
  cases hp
theorem range_walks {P:Program} {σ α:Type} {g:Operand} {ps:Array Tmp} {assign body:Code} {Q:Exit→Act→World→Prop} {a:Act} {w:World}
 {gf:Nat} {lb:Array Value} (hg:a.eval g=.func (.func gf) #[] lb) (eg:∀ args w,(callFunc gf args).run P w=.ok (.enter gf args) w)
 {encs:α→Array Value} (hps:∀ x,(encs x).size=ps.size)
 (I:σ→World→Prop) (Ix:Code→σ→World→Prop) (hI:OwnFrom w.heap.size I) (hIx:∀ c,OwnFrom w.heap.size (Ix c)) (s0:σ) (h0:I s0 w)
 (ok:σ→α→Prop) (upd:σ→α→σ) (Ax:σ→α→Act→World→Prop) (hAx:∀ s x a',OwnFrom w.heap.size (fun (_:Unit) W=>Ax s x a' W))
 (fin finx:σ→Prop)
 (hiter:∀ (l:Nat) (J Jx:σ→World→Prop) (W:World),Below w.heap.size w W→AbidesFrom W.heap.size J→AbidesFrom W.heap.size Jx→(∀ s W,J s W→I s W)→(∀ s W,Jx s W→∃ c,Ix c s W) →
  (∀ s x W1,J s W1→ok s x→YieldAt Fence.wide 0 P l (encs x) W1 fun e W'=>KeepsW w.heap.size W1 W'∧((e=.returned (.bool true)∧J (upd s x) W')∨(e=.returned (.bool false)∧Jx (upd s x) W'))) →
  J s0 W→CallsIn Fence.wide 0 P gf (#[.func (.yield l) #[] #[]] ++lb) W fun e W'=>(∃ v,e=.returned v)∧((∃ s,fin s∧J s W')∨(∃ s,finx s∧Jx s W')))
 (hassign:∀ (l:Nat) (s:σ) (x:α) (W:World) (K:Act→World→Prop),I s W→ok s x→(∀ a' W',KeepsFrom w.heap.size W W'→I s W'→Ax s x a' W'→K a' W') →
  assign.wpIn (Fence.wide.inRound l) 0 P (Exit.then K (fun _ _ _=>False)) { tmps:=(ps.zip (encs x)).foldl (fun t (p,v)=>t.setIfInBounds p v) a.tmps,defers:=[] } W)
 (hbody:∀ (l:Nat) (s:σ) (x:α) (a':Act) (W:World),w.heap.size≤l→I s W→ok s x→Ax s x a' W→body.wpIn (Fence.wide.inRound l) 0 P (roundEnd w.heap.size I Ix (upd s x) W) a' W)
 (hdone:∀ (D:Nat) (s:σ) (W:World),w.heap.size≤D→fin s→I s W→W.heap[D]?=some (.deferred (some []))→Q .normal { a with defers:={ target:=.collected D,args:=#[] }::a.defers } W)
 (hstop:∀ (D:Nat) (c:Code) (s:σ) (W:World),w.heap.size≤D→finx s→Ix c s W→W.heap[D]?=some (.deferred (some []))→c.wp P Q { a with defers:={ target:=.collected D,args:=#[] }::a.defers } W) :
 (Code.rangeFunc g ps assign body).wp P Q a w:=by
 refine (wpIn_wide (n:=0)).1 (wpIn_rangeFunc fun fn hfn=>?_)
 obtain ⟨rec,hrec⟩:∃ rec:LoopState→Option Code→Loop,rec=fun st pe=>{ state:=st,pending:=pe,fn,tmps:=a.tmps,params:=ps,assign,body,defers:=w.heap.size }:=⟨_,rfl⟩
 obtain ⟨W1,hW1⟩:∃ W1,(w.alloc (.deferred (some []))).alloc (.loop (rec .ready none))=W1:=⟨_,rfl⟩
 have hL1:W1.heap[w.heap.size +1]?=some (.loop (rec .ready none)):=by
  exact Z39
 have hK1:W1.heap[w.heap.size]?=some (.deferred (some [])):=by
  exact Z41
 have hI1:I s0 W1:=by rw [← hW1];exact hI.alloc _ (hI.alloc _ h0)
 have hb1:Below w.heap.size w W1:=by
  exact Z49
 have hz1:w.heap.size +2≤W1.heap.size:=by rw [← hW1];simp
 -- the two blocks of book-keeping, beside an invariant
 let J:σ→World→Prop:=fun s W=>I s W∧W.heap[w.heap.size +1]?=some (.loop (rec .ready none))∧W.heap[w.heap.size]?=some (.deferred (some []))
 let Jx:σ→World→Prop:=fun s W=>∃ c,Ix c s W∧W.heap[w.heap.size +1]?=some (.loop (rec .done (some c)))∧W.heap[w.heap.size]?=some (.deferred (some []))
 have far:∀ {A B:World} {row:Option Nat} {k:Nat},A.grownBy B row→(∀ r,row=some r→W1.heap.size≤r∧∃ o:Obj,A.heap[r]?=some o∧o.isWalk=true)→k<W1.heap.size→k<A.heap.size→B.heap[k]?=A.heap[k]? :=
  fun hg hr hk hk'=>hg.block _ hk' (fun e=>by have:=(hr _ e.symm).1;omega)
 have low:∀ {A:World} {k:Nat} {o:Obj},A.heap[k]?=some o→k<A.heap.size:=fun h=>(Array.getElem?_eq_some_iff.1 h).1
 have nocells:∀ {A B:World} {row:Option Nat},(∀ r,row=some r→W1.heap.size≤r∧∃ o:Obj,A.heap[r]?=some o∧o.isWalk=true)→(∀ r,row=some r→w.heap.size≤r∧∃ o:Obj,A.heap[r]?=some o∧o.isCells=false) :=
  fun hr r e=>by obtain ⟨h1,o,ho,hw⟩:=hr r e;exact ⟨by omega,o,ho,Obj.not_cells_of_walk hw⟩
 have hJ:AbidesFrom W1.heap.size J:=fun s A B row hs hg' hr =>
  ⟨hI s A B row hs.1 hg' (nocells (B:=B) hr),(far hg' hr (by omega) (low hs.2.1)).trans hs.2.1,(far hg' hr (by omega) (low hs.2.2)).trans hs.2.2⟩
 have hJx:AbidesFrom W1.heap.size Jx:=fun s A B row hs hg' hr=>by
  exact Z2l
 refine ⟨w.heap.size +1,[{ target:=.collected w.heap.size,args:=#[] }],W1,{ target:=.fn (.func gf) lb,args:=#[.func (.yield (w.heap.size +1)) #[] #[]] },W1,gf,
  #[.func (.yield (w.heap.size +1)) #[] #[]] ++lb,W1,?_,?_,fun _ _=>trivial,?_,fun h=>by simp [Fence.wide] at h,?_⟩
 ·exact Z5k
 ·simp only [resolve,hg]
  simp [go_sem]
 ·simp [invoke,go_sem,eg]
 refine (hiter (w.heap.size +1) J Jx W1 hb1 hJ hJx (fun _ _ h=>h.1) (fun _ _ h=>let ⟨c,hc,_⟩:=h;⟨c,hc⟩) ?_ ⟨hI1,hL1,hK1⟩).mono ?_
 ·-- a round
  rintro s x W ⟨hi,hl,hk⟩ hok
  have hy:=run_yield (P:=P) (args:=encs x) hl (by rw [hrec];exact hps x)
  rw [hrec] at hy
  refine ⟨fn,_,assign,body,hy,roundIn_of_wpIn hfn (hassign _ s x W _ hi hok fun a' Wa hka hia hax=>?_)⟩
  have hla:=hka.same _ _ (by omega) hl rfl
  have hda:=hka.same _ _ (Nat.le_refl _) hk rfl
  refine ⟨_,run_beginRound hla (by rw [hrec]),?_⟩
  obtain ⟨Wb,hWb⟩:∃ Wb,Wa.putObj (w.heap.size +1) (.loop { rec .ready none with state:=.busy })=Wb:=⟨_,rfl⟩
  rw [hWb]
  have hlb:Wb.heap[w.heap.size +1]?=some (.loop { rec .ready none with state:=.busy }):=by rw [← hWb];exact World.putObj_heap_same (low hla)
  have hdb:Wb.heap[w.heap.size]?=some (.deferred (some [])):=by rw [← hWb];exact (World.putObj_heap_other (by omega)).trans hda
  have hib:I s Wb:=by rw [← hWb];exact hI.putObj _ hia (by omega) hla rfl
  have hab:Ax s x a' Wb:=by rw [← hWb];exact (hAx s x a').putObj (s:=()) _ hax (by omega) hla rfl
  refine wpIn_mono (hbody _ s x a' Wb (by omega) hib hok hab) ?_
  have out:∀ (jump:Option Code) (W3:World),KeepsFrom w.heap.size Wb W3 →
   (Instr.endRound (w.heap.size +1) jump).run P W3=.ok (.bool jump.isNone) (W3.putObj (w.heap.size +1) (.loop (rec (if jump.isNone then .ready else .done) jump))) ∧
   W3.heap[w.heap.size +1]?=some (.loop { rec .ready none with state:=.busy }) ∧
   (W3.putObj (w.heap.size +1) (.loop (rec (if jump.isNone then .ready else .done) jump))).heap[w.heap.size +1]?=some (.loop (rec (if jump.isNone then .ready else .done) jump)) ∧
   (W3.putObj (w.heap.size +1) (.loop (rec (if jump.isNone then .ready else .done) jump))).heap[w.heap.size]?=some (.deferred (some [])):=fun jump W3 hk3=>by
   exact Z1y
  have jump:∀ (c:Code) (W3:World),KeepsFrom w.heap.size Wb W3→Ix c (upd s x) W3→∃ v w',(Instr.endRound (w.heap.size +1) (some c)).run P W3=.ok v w'∧KeepsW w.heap.size W w'∧(Ending.returned v=.returned (.bool true)∧J (upd s x) w'∨Ending.returned v=.returned (.bool false)∧Jx (upd s x) w'):=fun c W3 hk3 hi3=>by
   obtain ⟨hr,hl3,hl4,hk4⟩:=out (some c) W3 hk3
   exact ⟨_,_,hr,(((KeepsW.of hka).trans (hWb ▸ KeepsW.loop hla _)).trans (KeepsW.of hk3)).trans (KeepsW.loop hl3 _),.inr ⟨rfl,c,(hIx _).putObj _ hi3 (by omega) hl3 rfl,hl4,hk4⟩⟩
  rintro e a3 W3 hp
  cases e with
  | normal =>
    obtain ⟨hr,hl3,hl4,hk4⟩:=out none W3 hp.1
    exact ⟨_,_,hr,(((KeepsW.of hka).trans (hWb ▸ KeepsW.loop hla _)).trans (KeepsW.of hp.1)).trans (KeepsW.loop hl3 _),.inl ⟨rfl,hI.putObj _ hp.2 (by omega) hl3 rfl,hl4,hk4⟩⟩
  | ret=>exact jump _ _ hp.1 hp.2
  | exit id=>exact jump _ _ hp.1 hp.2
  | goto t=>exact jump _ _ hp.1 hp.2
  | panic ch=>exact hp.elim
  | outgrown=>exact hp.elim
 ·exact Z14
open Go.Shelf
set_option maxHeartbeats 1000000
theorem makeFunc_run (fn:Fn) (first cap:Array Value) (w:World):(Instr.makeFunc fn first cap).run Tryz.prog w=.ok (.func fn first cap) w:=rfl
theorem gwithin_any (n lo hi:Int) (w:World) :
 Calls Tryz.prog 115 #[.int .i64 n,.int .i64 lo,.int .i64 hi] w fun e w'=>e=.returned (.bool (withinB n lo hi))∧w=w':=by
 by_cases h1:lo≤n <;>
 ·go_enter Tryz.func115,Tryz.ntmps115
  go_wp2
  go_ret
  exact ⟨by simp [withinB, *] <;> omega,rfl⟩
theorem gneed_yes (w:World):Calls Tryz.prog 114 #[.bool true] w fun e w'=>e=.returned (.tuple #[])∧w=w':=by
 go_enter Tryz.func114,Tryz.ntmps114
 go_wp2
 go_end0
 exact ⟨rfl,rfl⟩

/-- What is given up with. -/
def foreign:Value:=.iface 188 (.agg #[])
def gaveUp:List PanicEntry:=[{ v:=foreign,recovered:=false }]
theorem gneed_no (w:World):Calls Tryz.prog 114 #[.bool false] w fun e w'=>e=.panicked gaveUp∧w=w':=by
 go_enter Tryz.func114,Tryz.ntmps114
 go_wp2
 exact ⟨rfl,rfl,rfl⟩

/-- A closure that tells something of a bound, in whatever world behind w0. -/
structure Tells (w0:World) (k:Nat) (caps:Array Value) (p:Bd→Bool):Prop where
 ent:∀ args w,(callFunc k args).run Tryz.prog w=.ok (.enter k args) w
 tell:∀ (w:World) (b:Bd),Below w0.heap.size w0 w→Calls Tryz.prog k (#[.agg #[.int .i64 b.frm,.int .i64 b.tow,.int .i64 b.most,.int .i64 b.bid]] ++caps) w fun e w'=>e=.returned (.bool (p b))∧Below w.heap.size w w'
def idxB (p:Bd→Bool) (bs:List Bd):Int:=match bs.findIdx? p with | some i=>i | none=> -1
theorem take_succ_any {α:Type} [Inhabited α] {f:α→Bool} {l:List α} {k:Nat} (hk:k<l.length) (h:(l.take k).any f=false) (hx:f (l.getD k default)=false):(l.take (k +1)).any f=false:=by
 rw [List.take_succ_eq_append_getElem hk,List.any_append,h]
 exact Z4f
theorem idxB_hit {p:Bd→Bool} {bs:List Bd} {j:Nat} (hj:j<bs.length) (h:(bs.take j).any p=false) (hx:p (bs.getD j default)=true):idxB p bs=j:=by
 have:bs.findIdx? p=some j:=by
  rw [List.findIdx?_eq_some_iff_getElem]
  refine ⟨hj,by simpa [List.getD_eq_getElem?_getD,List.getElem?_eq_getElem hj] using hx,fun i hi=>?_⟩
  rw [List.any_eq_false] at h
  have:=h bs[i] Z4a
  simpa using this
 simp [idxB,this]
theorem idxB_miss {p:Bd→Bool} {bs:List Bd} (h:bs.any p=false):idxB p bs= -1:=by
 have:bs.findIdx? p=none:=by
  rw [List.findIdx?_eq_none_iff]
  intro x hx
  rw [List.any_eq_false] at h
  simpa using h x hx
 simp [idxB,this]
theorem idxB_any (p:Bd→Bool) (bs:List Bd):decide (0≤idxB p bs)=bs.any p:=by
 cases h:bs.any p with
 | false=>rw [idxB_miss h];rfl
 | true =>
   unfold idxB
   cases hf:bs.findIdx? p with
   | none =>
     rw [List.findIdx?_eq_none_iff] at hf
     rw [List.any_eq_true] at h
     obtain ⟨x,hx,hp⟩:=h
     have:=hf x hx
     rw [hp] at this;cases this
   | some i=>simp
theorem gindexFunc_any (a:Option Addr) (n cap:Nat) (bs:List Bd) (k:Nat) (caps:Array Value) (p:Bd→Bool) (w:World) (hb:BdsAt w a n cap bs) (hp:Tells w k caps p) :
 Calls Tryz.prog 210 #[.slice a n cap,.func (.func k) #[] caps] w fun e w'=>e=.returned (.int .i64 (idxB p bs))∧Below w.heap.size w w':=by
 have hlen:=hb.small
 obtain rfl:=hb.len
 have hent:=hp.ent
 go_enter Tryz.func210,Tryz.ntmps210
 go_wp2
 go_loopw [8] (fun i wr=>∃ j:Nat,j≤bs.length∧i=.int .i64 j∧Below w.heap.size w wr∧(bs.take j).any p=false) (fun i _=>bs.length - (RowKit.intOf i).toNat)
 case atStart=>exact ⟨0,Nat.zero_le _,rfl,Below.refl _ _,rfl⟩
 case round =>
  obtain ⟨j,hj,rfl,hB,hall⟩:=hrel
  have Hall:=Lib.hid hall
  clear hall
  have hbr:=hb.below hB
  by_cases hlt:j<bs.length
  ·obtain ⟨b,off,rfl,hbl,d0,d1,d2,d3⟩:=hbr.get hlt
   generalize hx:bs.getD j default=x at *
   have Hx:=Lib.hid hx
   clear hx
   have hnn:(0:Int)≤j:=by omega
   have hT:=hp.tell wr x hB
   have HT:=Lib.hid hT
   clear hT
   go_wp2_with (refine (HT.out).mono ?_;rintro e w1 ⟨rfl,hb1⟩)
   case roundEnd =>
    have hpx:p x=false:=by cases h:p x <;> simp_all
    go_roundw
    case rel=>exact ⟨j +1,by omega,by go_num,hB.trans (hb1.mono hB.size),take_succ_any hlt Hall.out (by rw [Hx.out];exact hpx)⟩
    case measure=>simp [RowKit.intOf];omega
   all_goals
    have hpx:p x=true:=by assumption
    go_ret
    refine ⟨?_,hB.trans (hb1.mono hB.size)⟩
    rw [idxB_hit hlt Hall.out (by rw [Hx.out];exact hpx)];rfl
  ·go_wp2_with fail
   go_ret
   rw [List.take_of_length_le (by omega)] at Hall
   refine ⟨?_,hB⟩
   rw [idxB_miss Hall.out];rfl
theorem gcontainsFunc_any (a:Option Addr) (n cap:Nat) (bs:List Bd) (k:Nat) (caps:Array Value) (p:Bd→Bool) (w:World) (hb:BdsAt w a n cap bs) (hp:Tells w k caps p) :
 Calls Tryz.prog 197 #[.slice a n cap,.func (.func k) #[] caps] w fun e w'=>e=.returned (.bool (bs.any p))∧Below w.heap.size w w':=by
 go_enter Tryz.func197,Tryz.ntmps197
 go_wp2_with (go_at_call 210;refine (gindexFunc_any _ _ _ _ _ _ _ _ hb hp).mono ?_;rintro e w1 ⟨rfl,hb1⟩)
 go_ret
 exact ⟨by rw [← idxB_any p bs];rfl,hb1⟩
theorem gwrong_any (p:Int) (b:Bd) (N:Nat) (w:World) (hc:w.cell? ⟨N,0,none⟩=some (.int .i64 p)) (h1:1≤p) (h2:p≤60) :
 Calls Tryz.prog 196 #[.agg #[.int .i64 b.frm,.int .i64 b.tow,.int .i64 b.most,.int .i64 b.bid],.pointer (some ⟨N,0,none⟩)] w fun e w'=>e=.returned (.bool (!Bd.ok p b))∧Below w.heap.size w w':=by
 have hN:=World.block_lt_of_cell? w _ hc
 go_enter Tryz.func196,Tryz.ntmps196
 go_wp2_with (go_at_call 115;refine (gwithin_any _ _ _ _).mono ?_;rintro e w1 ⟨rfl,rfl⟩)
 all_goals
  go_ret
  refine ⟨?_,(Below.refl _ _).alloc (Nat.le_refl _) _⟩
  simp_all [Bd.ok]
theorem gcheck_any (p:Int) (a:Option Addr) (n cap:Nat) (bs:List Bd) (w:World) (hb:BdsAt w a n cap bs) :
 Calls Tryz.prog 152 #[.agg #[.int .i64 p,.slice a n cap]] w fun e w'=>e=.returned (.int .i64 (chk p bs))∧Below w.heap.size w w':=by
 have hlen:=hb.small
 obtain rfl:=hb.len
 have hmf:=makeFunc_run
 have hbx:=hb.below (w':=w.alloc (Obj.cells #[Value.int IntKind.i64 p,Value.slice a bs.length cap] 57)) ((Below.refl _ _).alloc (Nat.le_refl _) _)
 have hc0:(w.alloc (Obj.cells #[Value.int IntKind.i64 p,Value.slice a bs.length cap] 57)).cell? ⟨w.heap.size,0,none⟩=some (.int .i64 p):=by simp [go_sem]
 by_cases hp:1≤p∧p≤60
 ·have hT:Tells (w.alloc (Obj.cells #[Value.int IntKind.i64 p,Value.slice a bs.length cap] 57)) 196 #[.pointer (some ⟨w.heap.size,0,none⟩)] (fun b=>!Bd.ok p b) :=
   ⟨enters_of Tryz.func196 Zk rfl,fun w1 b hw=>gwrong_any p b _ w1 (((bcell hw).1 _ _ (by simp)).trans hc0) hp.1 hp.2⟩
  obtain ⟨hp1,hp2⟩:=hp
  clear hc0
  have hlin:(bs.any fun b=>!Bd.ok p b)=!(bs.all (Bd.ok p)):=by rw [Bool.eq_iff_iff];simp
  have Hlin:=Lib.hid hlin
  clear hlin
  go_enter Tryz.func152,Tryz.ntmps152
  go_wp2_with (go_at_call 197;refine (gcontainsFunc_any _ _ _ _ _ _ _ _ hbx hT).mono ?_;rintro e w1 ⟨rfl,hb1⟩)
  all_goals
   rw [Hlin.out] at *
   go_ret
   refine ⟨ret_int ?_,by ((repeat (first | assumption | exact Below.refl _ _ | refine Below.alloc ?_ ?_ _ | refine Below.setCell ?_ ?_ _ | refine Below.drew ?_ | refine belowN ?_ | refine Below.up ?_ Z18 ?_)) <;> (first | assumption | omega | (simp;done) | (simp;omega)))⟩
   unfold chk
   (repeat' split) <;> (first | rfl | omega | (exfalso;simp_all;done) | (simp_all;done))
 ·go_enter Tryz.func152,Tryz.ntmps152
  go_wp2
  all_goals
   go_ret
   refine ⟨ret_int ?_,by ((repeat (first | assumption | exact Below.refl _ _ | refine Below.alloc ?_ ?_ _ | refine Below.setCell ?_ ?_ _ | refine Below.drew ?_ | refine belowN ?_ | refine Below.up ?_ Z18 ?_)) <;> (first | assumption | omega | (simp;done) | (simp;omega)))⟩
   unfold chk
   (repeat' split) <;> (first | rfl | omega | (exfalso;simp_all;omega) | (simp_all;done))
end Go.Proofs.YtelkcohhagblaaaGreat
