/- What the functions answer, for every input. -/
import Derived.Test.YtelkcohhagblaaaGreatSe02
import Derived.Test.YtelkcohhagblaaaGreatSe03
import Derived.ChangeKeysEq
import Derived.Laws.StructEq
import Derived.Deep.QuietTactic
import Derived.TacticsIn
set_option linter.unusedSimpArgs false
set_option linter.unusedVariables false
set_option linter.unnecessarySimpa false
namespace Go.Proofs.YtelkcohhagblaaaGreat
theorem Z74 {P:Prop}(h:P:=by
 unfold far0
 rw [gi_set h0 Z3p q0]
 split
 ·rfl
 ·exact Z2h):P:=h
open Go.RowKit
def FAR:Int:=1099511627776
def gi (l:List Int) (i:Int):Int:=l.getD i.toNat 0
def ints (l:List Int):Array Value:=(l.map (Value.int .i64)).toArray

/-- May this bound be used? -/
def opens (far:Int) (r:List Int) (b:Bd):Bool:=decide (gi r b.frm<far) && decide (gi r b.frm +b.most<gi r b.tow)
theorem opens_FAR {r:List Int} {b:Bd}:opens FAR r b=true ↔ gi r b.frm<1099511627776∧gi r b.frm +b.most<gi r b.tow:=by
 unfold opens
 rw [Bool.and_eq_true,decide_eq_true_eq,decide_eq_true_eq]
 rfl

/-- Sums, the last bounds, and how many bounds have been passed. -/
structure RL where
 r:List Int
 last:List Int
 nx:Nat
def RL.upd (s:RL) (k:Nat) (b:Bd):RL:=⟨s.r.set b.tow.toNat (gi s.r b.frm +b.most),s.last.set b.tow.toNat k,k +1⟩
def RL.step (far:Int) (s:RL) (k:Nat) (b:Bd):RL:=if opens far s.r b then s.upd k b else s
/-- k bounds of a pass. -/
def RL.pass (far:Int) (bs:List Bd) (s:RL):Nat→RL
 | 0=>{ s with nx:=0 }
 | k +1=>(RL.pass far bs s k).step far k (bs.getD k default)
/-- The passes until nothing changes. -/
def settle (far:Int) (bs:List Bd):Nat→RL→RL × Bool
 | 0,s=>(s,false)
 | n +1,s=>if (s.pass far bs bs.length).r=s.r then (s.pass far bs bs.length,true) else settle far bs n (s.pass far bs bs.length)

/-- A bound between two of 60 points. -/
structure Bd.inr (b:Bd):Prop where
 f0:0≤b.frm
 f1:b.frm<60
 t0:0≤b.tow
 t1:b.tow<60
 m0: -100000000≤b.most
 m1:b.most≤100000000
structure RL.ok (lo:Int) (s:RL):Prop where
 rl:s.r.length=60
 ll:s.last.length=60
 lows:∀ i:Int,0≤i→i<60→lo - s.nx * 100000000≤gi s.r i∧gi s.r i≤FAR
theorem gi_set {l:List Int} {i j:Int} {v:Int} (hi:0≤i) (hi':i.toNat<l.length) (hj:0≤j):gi (l.set i.toNat v) j=if j=i then v else gi l j:=by
 unfold gi
 simp only [List.getD_eq_getElem?_getD,List.getElem?_set]
 by_cases h:i.toNat=j.toNat
 ·have:j=i:=by omega
  subst this
  simp [hi']
 ·have:j≠i:=fun e=>h (by rw [e])
  simp [h,this]
theorem RL.ok.upd {lo:Int} {s:RL} (h:s.ok lo) {k:Nat} {b:Bd} (hb:b.inr) (hk:s.nx≤k) (ho:opens FAR s.r b=true):(s.upd k b).ok lo:=by
 refine ⟨by simp [RL.upd,h.rl],by simp [RL.upd,h.ll],fun i h0 h1=>?_⟩
 have h2:=h.lows i h0 h1
 have h3:=h.lows b.frm hb.f0 hb.f1
 have h4:=h.lows b.tow hb.t0 hb.t1
 have h5:=hb.m0
 simp only [opens,Bool.and_eq_true,decide_eq_true_eq] at ho
 have ht:=hb.t0
 have ht1:=hb.t1
 simp only [RL.upd]
 rw [gi_set hb.t0 (by rw [h.rl];omega) h0]
 split <;> constructor <;> (push_cast;omega)
theorem RL.pass_nx (far:Int) (bs:List Bd) (s:RL):∀ k,(s.pass far bs k).nx≤k
 | 0=>by simp [RL.pass]
 | k +1=>by
   have:=RL.pass_nx far bs s k
   simp only [RL.pass,RL.step]
   split
   ·simp [RL.upd]
   ·omega
theorem RL.ok.pass {lo:Int} {s:RL} (h:RL.ok lo { s with nx:=0 }) {bs:List Bd} (hb:∀ b ∈ bs,b.inr):∀ k,k≤bs.length→(s.pass FAR bs k).ok lo
 | 0,_=>h
 | k +1,hk=>by
   have ih:=RL.ok.pass h hb k (by omega)
   simp only [RL.pass,RL.step]
   split
   ·rename_i ho
    refine ih.upd (hb _ ?_) (RL.pass_nx _ _ _ _) ho
    exact Z1f
   ·exact ih
theorem RL.ok.reset {lo:Int} {s:RL} (h:s.ok lo) {m:Nat} (hm:s.nx≤m):RL.ok (lo - m * 100000000) { s with nx:=0 } :=
 ⟨h.rl,h.ll,fun i h0 h1=>by have:=h.lows i h0 h1;simp;omega⟩
theorem ints_get (l:List Int) (i:Nat) (h:i<l.length):(ints l)[i]?=some (.int .i64 (l.getD i 0)):=by
 simp [ints,List.getD_eq_getElem?_getD,List.getElem?_eq_getElem h]
theorem ints_set (l:List Int) (i:Nat) (v:Int):(ints l).setIfInBounds i (.int .i64 v)=ints (l.set i v):=by
 simp [ints,List.map_set]
theorem gi_cell {l:List Int} {i:Int} (h0:0≤i) (h:i<l.length):(ints l)[i.toNat]?=some (.int .i64 (gi l i)):=by
 rw [ints_get l _ (by omega)];rfl
theorem BdsAt.chg {w w':World} {a:Option Addr} {n cap:Nat} {bs:List Bd} {E:List Nat} (h:BdsAt w a n cap bs) (hc:SL.Chg E w w') (hE:∀ x,a=some x→x.block ∉ E):BdsAt w' a n cap bs:=by
 refine ⟨h.len,h.small,h.nil,fun x hx=>?_⟩
 obtain ⟨h1,h2,h3⟩:=h.at_ x hx
 refine ⟨h1,by have:=hc.size;omega,fun i hi=>?_⟩
 have hk:∀ o,w'.cell? ⟨x.block,o,none⟩=w.cell? ⟨x.block,o,none⟩:=fun o=>World.cell?_of_block (w:=w) (hc.block _ h2 (hE x hx))
 rw [hk,hk,hk,hk]
 exact h3 i hi
theorem clB_ne {s:List Pn} {a b:Nat} (h:clB s a b=true):a≠b:=by
 unfold clB at h
 simp at h
 exact h.1
theorem Pn.mem {s:List Pn} {i:Nat} (h:i<s.length):s.getD i default ∈ s:=by rw [List.getD_eq_getElem?_getD,List.getElem?_eq_getElem h];exact List.getElem_mem _

/-- Parts each two of which clash. -/
structure WitOk (s:List Pn) (W:List Nat):Prop where
 lt:∀ a ∈ W,a<s.length
 cl:W.Pairwise fun a b=>clB s a b=true
theorem WitOk.nodup {s:List Pn} {W:List Nat} (h:WitOk s W):W.Nodup:=h.cl.imp fun h=>clB_ne h
open Go.RowKit
/-- The marks of ranges over functions among a frame's deferred calls. -/
def Marks_w (B:Nat) (D:List Deferred) (W:World):Prop :=
 (∀ d ∈ D,∃ r,d.target=.collected r∧B≤r∧W.heap[r]?=some (.deferred (some [])))∧D.Pairwise fun d e=>d.target≠e.target
theorem leaves_marks_w {P:Program} {F:Fence} {n B:Nat} {fn:Func} {tmps:Array Value} {R:Ending→World→Prop} {u:FrameMode} (hu:u≠.run) (J:World→Prop)
 (hJ:∀ W r,B≤r→J W→W.heap[r]?=some (.deferred (some []))→J (W.putObj r (.deferred none))) (hend:∀ W,J W→LeavesIn F n P fn tmps R [] u W) :
 ∀ (D:List Deferred) (W:World),Marks_w B D W→J W→LeavesInM F n P fn tmps R D u W
 | [],W,_,h=>hend W h
 | d::D,W,⟨hm,hp⟩,h=>by
   obtain ⟨r,ht,hB,hr⟩:=hm d (by simp)
   rw [List.pairwise_cons] at hp
   refine ⟨hu,.inl ⟨r,_,ht,run_takeDeferred hr,?_⟩⟩
   refine leaves_marks_w hu J hJ hend D _ ⟨fun e he=>?_,hp.2⟩ (hJ W r hB h hr)
   exact Z21

/-- A frame whose slots dl are free. -/
def frame'_w (ts:Array Value) (dl:List Nat) (us:Nat→Value):Array Value:=(SL.put' dl us 0 ts.toList).toArray
theorem SL.Chg.cellsE_w {E:List Nat} {w w':World} (h:SL.Chg E w w'):(∀ b o,b<w.heap.size→b ∉ E→w'.cell? ⟨b,o,none⟩=w.cell? ⟨b,o,none⟩)∧(∀ b o,b<w.heap.size→b ∉ E→w'.frozen? ⟨b,o,none⟩=w.frozen? ⟨b,o,none⟩) :=
 ⟨fun b _ hb hn=>World.cell?_of_block (w:=w) (h.block b hb hn),fun b _ hb hn=>World.frozen?_of_block (w:=w) (h.block b hb hn)⟩
theorem SL.Chg.belowE_w {E:List Nat} {w w':World} {B:Nat} (h:SL.Chg E w w') (hB:B≤w.heap.size) (hE:∀ k ∈ E,B≤k):Below B w w' :=
 ⟨h.os,h.tape,h.output,h.size,fun k hk=>h.block k (Nat.lt_of_lt_of_le hk hB) (fun hm=>by have:=hE k hm;omega)⟩
theorem keeps_of_chg_w {B:Nat} {E:List Nat} {W W':World} (h:SL.Chg E W W') (hE:∀ k ∈ E,k<B):KeepsFrom B W W' :=
 ⟨h.size,fun k o hk ho _=>(h.block k (Array.getElem?_eq_some_iff.1 ho).1 (fun hm=>by have:=hE k hm;omega)).trans ho⟩

/-- All blocks of cells stay as they are. -/
structure KeepC_w (W W':World):Prop where
 size:W.heap.size≤W'.heap.size
 cells:∀ (k:Nat) (cs:Array Value) (t:TypeId) (f:Nat × Nat),W.heap[k]?=some (Obj.cells cs t f)→W'.heap[k]?=some (Obj.cells cs t f)
theorem KeepC_w.of_grown {W W':World} {row:Option Nat} (hg:W.grownBy W' row) (hr:∀ r,row=some r→∃ o:Obj,W.heap[r]?=some o∧o.isCells=false):KeepC_w W W':=by
 exact Z2i
theorem KeepC_w.of_below {W W':World} (h:Below W.heap.size W W'):KeepC_w W W' :=
 ⟨h.size,fun k _ _ _ hk=>(h.block k (Array.getElem?_eq_some_iff.1 hk).1).trans hk⟩
theorem KeepC_w.cell {W W':World} (h:KeepC_w W W') {b o:Nat} {v:Value} (hc:W.cell? ⟨b,o,none⟩=some v):W'.cell? ⟨b,o,none⟩=some v:=by
 exact Z1l
theorem row_keepC_w {w w':World} {base:Nat} {t:TypeId} {size n:Nat} {v:Value} {xs:List Value} (h:w.ownsRow base t size v n xs) (hk:KeepC_w w w'):w'.ownsRow base t size v n xs:=by
 obtain ⟨hl,⟨hv,hn⟩ | ⟨g,cap',cur,hv,hbg,hg,hr⟩⟩:=h
 ·exact ⟨hl,.inl ⟨hv,hn⟩⟩
 ·exact ⟨hl,.inr ⟨g,cap',cur,hv,hbg,hk.cells _ _ _ _ hg,hr⟩⟩
open Go.Shelf
set_option maxHeartbeats 1000000
theorem gcopiedI_any (a:Option Addr) (n cap:Nat) (xs:List Int) (w:World) (hb:IntsAt w a n cap xs) (hs:xs.length≤100000) :
 Calls Tryz.prog 177 #[.slice a n cap] w fun e w'=>∃ v,e=.returned v∧w'.ownsRow w.heap.size 3 1 v xs.length (xs.map (.int .i64))∧Below w.heap.size w w':=by
 obtain rfl:=hb.len
 go_enter Tryz.func177,Tryz.ntmps177
 go_wp2_with (at_builtin;refine wpList_app elemI rfl _ _ rfl (World.ownsRow_nil _ w.heap.size _ _) rfl rfl hb.row (by simp) (ones_int xs) ?_ ?_ ?_ ?_)
 ·unfold maxLen;omega
 ·omega
 ·simp
 ·intro v' w' hown hg hb1 _ _
  go_wp2
  go_ret
  exact ⟨v',rfl,by simpa using hown,hb1⟩
open Go Go.RowKit
def cutOk (ops:List Oper) (m:Nat):Bool :=
 decide (m≤ops.length) && ((SL.anc ops).length == ops.length) && SLF.noDef ops &&
 ((List.range ops.length).all fun j=>(ops.getD j default).after.toList.all fun e=>!Region.binds .any e || decide (e.on<j)) &&
 ((List.range ops.length).all fun j=>(((SL.anc ops).getD j [])).all fun i=>(ops.getD j default).after.toList.any fun e=>Region.binds .any e && (e.on == i || ((SL.anc ops).getD e.on []).contains i)) &&
 ((List.range ops.length).all fun j=>decide (j<m) || (List.range j).all fun i=>((SL.anc ops).getD j []).contains i) &&
 (List.range ops.length).all fun j=>decide (m≤j) || match (ops.getD j default).guard with | some (g,_)=>decide (g<m) | none=>true
structure Cut (ops:List Oper) (m:Nat):Prop where
 le:m≤ops.length
 nodef:∀ o ∈ ops,∀ c,o.op≠.defer c
 low:∀ j o,ops[j]?=some o→∀ e ∈ o.after,Region.binds .any e=true→e.on<j
 anc:∀ j o,ops[j]?=some o→∀ i ∈ (SL.anc ops).getD j [],∃ e ∈ o.after,Region.binds .any e=true∧(e.on=i∨i ∈ (SL.anc ops).getD e.on [])
 gd:∀ j o,ops[j]?=some o→j<m→∀ g want,o.guard=some (g,want)→g<m
 tail:∀ j,m≤j→j<ops.length→∀ i,i<j→i ∈ (SL.anc ops).getD j []
theorem cut_of {ops:List Oper} {m:Nat} (h:cutOk ops m=true):Cut ops m:=by
 simp only [cutOk,Bool.and_eq_true,List.all_eq_true,List.mem_range,decide_eq_true_eq,Bool.or_eq_true,Bool.not_eq_true',beq_iff_eq,List.contains_iff_mem] at h
 obtain ⟨⟨⟨⟨⟨⟨h1,h2⟩,h3⟩,h4⟩,h5⟩,h6⟩,h7⟩:=h
 have hop:∀ j o,ops[j]?=some o→j<ops.length∧ops.getD j default=o:=fun j o ho=>⟨(List.getElem?_eq_some_iff.1 ho).1,by simp [List.getD_eq_getElem?_getD,ho]⟩
 refine ⟨h1,SLF.noDef_of h3,fun j o ho e he hb=>?_,fun j o ho i hi=>?_,fun j o ho hjm g want hg=>?_,fun j hm hj i hi=>?_⟩
 ·obtain ⟨hj,he'⟩:=hop j o ho
  rcases h4 j hj e (by rw [he'];simpa using he) with h | h
  ·rw [hb] at h;cases h
  ·exact h
 ·obtain ⟨hj,he'⟩:=hop j o ho
  have:=h5 j hj i hi
  exact Z1d
 ·obtain ⟨hj,he'⟩:=hop j o ho
  rcases h7 j hj with h | h
  ·omega
  ·rw [he',hg] at h
   simpa using h
 ·rcases h6 j hj with h | h
  ·omega
  ·exact h i hi
theorem mem_ready {ops:Array Oper} {L:Array Bool} {i:Nat} (hsz:L.size=ops.size):i ∈ Region.ready .any ops L ↔ i<ops.size∧L.getD i false=false∧∀ o,ops[i]?=some o→∀ e ∈ o.after,Region.binds .any e=true→L.getD e.on false=true:=by
 simp only [Region.ready,List.mem_filter,List.mem_range,Bool.and_eq_true,Bool.not_eq_true']
 constructor
 ·rintro ⟨h1,h2,h3⟩
  refine ⟨h1,(by have hh:i<L.size:=by omega
                 simp [Array.getD,hh] at h2 ⊢;exact h2),fun o ho e he hb=>?_⟩
  simp only [ho,Option.map_some,Option.getD_some,Array.all_eq_true'] at h3
  have:=h3 e he
  simpa [hb] using this
 ·rintro ⟨h1,h2,h3⟩
  refine ⟨h1,(by have:i<L.size:=by omega
                 simp [Array.getD,this] at h2 ⊢;exact h2),?_⟩
  have ho:ops[i]?=some ops[i]:=Array.getElem?_eq_getElem h1
  simp only [ho,Option.map_some,Option.getD_some,Array.all_eq_true']
  intro e he
  by_cases hb:Region.binds .any e=true
  ·simpa [hb] using h3 _ ho e he hb
  ·simp at hb;simp [hb]
section
variable {P:Program} {ro:Option Nat} {ops:List Oper} {m:Nat} {Q:Exit→Act→World→Prop}
theorem tail_run (hc:Cut ops m):∀ (t:Nat) (j:Nat) (L:Array Bool) (a:Act) (w:World),m≤j→j +t=ops.length→(∀ i,L.getD i false=decide (i<j))→L.size=ops.length →
 wpListIn { Fence.wide with round:=ro } 0 P ops.toArray Q (ops.drop j) a w→wpAnyIn { Fence.wide with round:=ro } 0 P .any ops.toArray Q t L a w:=by
 intro t
 induction t with
 | zero =>
   intro j L a w hm hj hL hsz h
   rw [List.drop_eq_nil_of_le (by omega)] at h
   refine ⟨?_,h⟩
   rw [List.eq_nil_iff_forall_not_mem]
   intro i hi
   obtain ⟨h1,h2,_⟩:=(mem_ready Zj).1 hi
   rw [hL] at h2
   simp at h1 h2
   omega
 | succ t ih =>
   intro j L a w hm hj hL hsz h
   have hjl:j<ops.length:=by omega
   have hrj:∀ i,i ∈ Region.ready .any ops.toArray L ↔ i=j:=by
    intro i
    rw [mem_ready Z5l]
    constructor
    ·rintro ⟨h1,h2,h3⟩
     rw [hL] at h2
     simp at h1 h2
     rcases Nat.lt_or_ge j i with h4 | h4
     ·exfalso
      have hi:ops[i]?=some ops[i]:=List.getElem?_eq_getElem h1
      obtain ⟨e,he,hb,hon⟩:=hc.anc i _ hi j (hc.tail i (by omega) h1 j h4)
      have h5:=h3 _ Z37 e he hb
      rw [hL] at h5
      simp at h5
      have h6:=hc.low i _ hi e he hb
      rcases hon with h7 | h7
      ·omega
      ·obtain ⟨e2,he2,hb2,hon2⟩:=hc.anc e.on _ (List.getElem?_eq_getElem (by omega)) j h7
       have:=hc.low e.on _ (List.getElem?_eq_getElem (by omega)) e2 he2 hb2
       have hlt:∀ x y,y ∈ (SL.anc ops).getD x []→x<ops.length→y<x:=by
        intro x
        induction x using Nat.strongRecOn with
        | _ x ihx =>
          intro y hy hx
          obtain ⟨e3,he3,hb3,hon3⟩:=hc.anc x _ (List.getElem?_eq_getElem hx) y hy
          have hl3:=hc.low x _ (List.getElem?_eq_getElem hx) e3 he3 hb3
          rcases hon3 with h | h
          ·omega
          ·have:=ihx _ hl3 y h (by omega);omega
       have:=hlt e.on j h7 (by omega)
       omega
     ·omega
    ·rintro rfl
     refine ⟨by simpa using hjl,by rw [hL];simp,fun o ho e he hb=>?_⟩
     rw [hL]
     simp
     exact hc.low _ o Z4j e he hb
   refine ⟨fun hr=>?_,fun i hi=>?_⟩
   ·have:=(hrj j).2 rfl
    rw [hr] at this
    cases this
   ·obtain rfl:=(hrj i).1 hi
    have ho:ops[i]?=some ops[i]:=List.getElem?_eq_getElem hjl
    rw [List.drop_eq_getElem_cons hjl] at h
    unfold wpOpIn
    simp only [List.getElem?_toArray,ho]
    have hL2:∀ x,(L.setIfInBounds i true).getD x false=decide (x<i +1):=fun x=>by
     by_cases e:x=i
     ·subst e;simp [Array.getD,hsz,hjl]
     ·have h9:=hL x
      rw [show (L.setIfInBounds i true).getD x false=L.getD x false from by
       by_cases hx:x<L.size
       ·simp [Array.getD,hx,Ne.symm e]
       ·simp [Array.getD,hx]]
      rw [h9]
      by_cases h1:x<i
      ·simp [h1];omega
      ·have:¬ x<i +1:=by omega
       simp [h1,this]
    simp only [wpListIn] at h
    split at h
    ·rename_i hw
     rw [if_pos hw]
     exact Oper.wpIn_mono (fun a' w' h'=>ih (i +1) _ a' w' (by omega) (by omega) hL2 Z5l h') h
    ·rename_i hw
     rw [if_neg hw]
     exact ⟨h.1,ih (i +1) _ _ _ (by omega) (by omega) hL2 Z5l h.2⟩
theorem cut_run (hc:Cut ops m) {C:World→Prop} {Qq:Act→Prop} (hQ:∀ a w,C w→Qq a→wpListIn { Fence.wide with round:=ro } 0 P ops.toArray Q (ops.drop m) a w) :
 ∀ (f:Nat) (l L:Array Bool) (a:Act) (w:World),C w→l.size=m→L.size=ops.length→(∀ i,L.getD i false=l.getD i false)→l.toList.count false=f →
   (∀ j o,l.getD j false=true→ops[j]?=some o→∀ e ∈ o.after,Region.binds .any e=true→l.getD e.on false=true) →
   wpAnyQ P .any (ops.take m).toArray C Qq f l a→wpAnyIn { Fence.wide with round:=ro } 0 P .any ops.toArray Q (f +(ops.length - m)) L a w:=by
 have hle:=hc.le
 -- an operation of the tail comes up only when all are done
 have hup:∀ (l L:Array Bool),l.size=m→L.size=ops.length→(∀ i,L.getD i false=l.getD i false)→(∀ j o,l.getD j false=true→ops[j]?=some o→∀ e ∈ o.after,Region.binds .any e=true→l.getD e.on false=true) →
  ∀ i,m≤i→i ∈ Region.ready .any ops.toArray L→∀ k,k<m→l.getD k false=true:=by
  intro l L hl hLs hL hcl i hmi hi k hk
  obtain ⟨h1,h2,h3⟩:=(mem_ready Zj).1 hi
  simp at h1
  have hcl2:∀ x y,l.getD x false=true→y ∈ (SL.anc ops).getD x []→x<ops.length→l.getD y false=true:=by
   intro x
   induction x using Nat.strongRecOn with
   | _ x ihx =>
     intro y hx hy hxl
     obtain ⟨e3,he3,hb3,hon3⟩:=hc.anc x _ (List.getElem?_eq_getElem hxl) y hy
     have hl3:=hc.low x _ (List.getElem?_eq_getElem hxl) e3 he3 hb3
     have hd:=hcl x _ hx (List.getElem?_eq_getElem hxl) e3 he3 hb3
     rcases hon3 with h | h
     ·rw [← h];exact hd
     ·exact ihx _ hl3 y hd h (by omega)
  have hi':ops[i]?=some ops[i]:=List.getElem?_eq_getElem h1
  obtain ⟨e,he,hb,hon⟩:=hc.anc i _ hi' k (hc.tail i hmi h1 k (by omega))
  have hd:=h3 _ (by simpa using hi') e he hb
  rw [hL] at hd
  rcases hon with h | h
  ·rw [← h];exact hd
  ·exact hcl2 _ _ hd h (by have:=hc.low i _ hi' e he hb;omega)
 have hfull:∀ (l L:Array Bool) (a:Act) (w:World),C w→l.size=m→L.size=ops.length→(∀ i,L.getD i false=l.getD i false)→(∀ k,k<m→l.getD k false=true)→Qq a→wpAnyIn { Fence.wide with round:=ro } 0 P .any ops.toArray Q (ops.length - m) L a w:=by
  intro l L a w hw hl hLs hL hall hq
  refine tail_run hc _ m L a w (Nat.le_refl _) (by omega) (fun i=>?_) hLs (hQ a w hw hq)
  rw [hL]
  by_cases h:i<m
  ·rw [hall i h];simp [h]
  ·simp [Array.getD,hl,h]
 intro f
 induction f with
 | zero =>
   intro l L a w hw hl hLs hL hcnt hcl h
   rw [Nat.zero_add]
   refine hfull l L a w hw hl hLs hL (fun k hk=>?_) h.2
   have:=List.count_eq_zero.1 hcnt
   cases hv:l.getD k false with
   | true=>rfl
   | false =>
     exfalso
     apply this
     have hk':k<l.size:=by omega
     simp [Array.getD,hk'] at hv
     rw [← hv]
     simp
 | succ f ih =>
   intro l L a w hw' hl hLs hL hcnt hcl h
   obtain ⟨h0,h1⟩:=h
   rw [show f +1 +(ops.length - m)=(f +(ops.length - m)) +1 by omega]
   -- some one is not done
   obtain ⟨k0,hk0,hk1⟩:∃ k,k<m∧l.getD k false=false:=by
    have:false ∈ l.toList:=by
     rw [← List.count_pos_iff,hcnt];omega
    obtain ⟨k,hk,he⟩:=List.getElem_of_mem this
    refine ⟨k,by simpa [hl] using hk,?_⟩
    have hk':k<l.size:=by simpa using hk
    simp [Array.getD,hk']
    simpa using he
   have hmem:∀ i,i ∈ Region.ready .any ops.toArray L→i<m∧i ∈ Region.ready .any (ops.take m).toArray l:=by
    intro i hi
    have him:i<m:=by
     rcases Nat.lt_or_ge i m with h | h
     ·exact h
     ·have:=hup l L hl hLs hL hcl i h hi k0 hk0
      rw [hk1] at this;cases this
    refine ⟨him,?_⟩
    obtain ⟨q1,q2,q3⟩:=(mem_ready Zj).1 hi
    refine (mem_ready Zj).2 ⟨by simp;omega,by rw [← hL];exact q2,fun o ho e he hb=>?_⟩
    rw [← hL]
    refine q3 o ?_ e he hb
    simp only [List.getElem?_toArray] at ho ⊢
    rw [List.getElem?_take] at ho
    rwa [if_pos him] at ho
   refine ⟨fun hr=>?_,fun i hi=>?_⟩
   ·-- the least one that is not done is ready
    exfalso
    have:∀ n,(∀ k,k<n→k<m→l.getD k false=true)∨∃ k,k ∈ Region.ready .any ops.toArray L:=by
     intro n
     induction n with
     | zero=>exact .inl fun k hk=>by omega
     | succ n ihn =>
       rcases ihn with h | h
       ·by_cases hn:n<m
        ·by_cases hv:l.getD n false=true
         ·refine .inl fun k hk hkm=>?_
          rcases Nat.lt_or_ge k n with h' | h'
          ·exact h k h' hkm
          ·rw [show k=n by omega];exact hv
         ·simp only [Bool.not_eq_true] at hv
          refine .inr ⟨n,(mem_ready Zj).2 ⟨by simp;omega,by rw [hL];exact hv,fun o ho e he hb=>?_⟩⟩
          rw [hL]
          have:=hc.low n o Z4j e he hb
          exact h _ this (by omega)
        ·exact .inl fun k hk hkm=>h k (by omega) hkm
       ·exact .inr h
    rcases this m with h | ⟨k,hk⟩
    ·have:=h k0 hk0 hk0;rw [hk1] at this;cases this
    ·rw [hr] at hk;cases hk
   ·obtain ⟨him,hir⟩:=hmem i hi
    have hil:i<ops.length:=by omega
    have ho:ops[i]?=some ops[i]:=List.getElem?_eq_getElem hil
    have hot:(ops.take m)[i]?=some ops[i]:=by rw [List.getElem?_take,if_pos him];exact ho
    obtain ⟨q1,q2,q3⟩:=(mem_ready Zj).1 hir
    have hset:∀ x,(l.setIfInBounds i true).getD x false=if x=i then true else l.getD x false:=fun x=>by
     by_cases e:x=i
     ·subst e;simp [Array.getD,hl,him]
     ·by_cases hx:x<l.size
      ·simp [Array.getD,hx,Ne.symm e,e]
      ·simp [Array.getD,hx,e]
    have hset2:∀ x,(L.setIfInBounds i true).getD x false=if x=i then true else L.getD x false:=fun x=>by
     by_cases e:x=i
     ·subst e;simp [Array.getD,hLs,hil]
     ·by_cases hx:x<L.size
      ·simp [Array.getD,hx,Ne.symm e,e]
      ·simp [Array.getD,hx,e]
    have next:∀ a' w',C w'→wpAnyQ P .any (ops.take m).toArray C Qq f (l.setIfInBounds i true) a'→wpAnyIn { Fence.wide with round:=ro } 0 P .any ops.toArray Q (f +(ops.length - m)) (L.setIfInBounds i true) a' w':=fun a' w' hw' h'=>by
     refine ih _ _ a' w' hw' Z7f (by simpa using hLs) (fun x=>by rw [hset,hset2,hL]) ?_ ?_ h'
     ·have hi':i<l.size:=by omega
      have hv:l.toList[i]'(by simpa using hi')=false:=by
       simp [Array.getD,hi'] at q2;simpa using q2
      rw [Array.toList_setIfInBounds]
      have:=List.count_set (l:=l.toList) (i:=i) (a:=true) (b:=false) (by simpa [Array.length_toList] using hi')
      rw [this]
      simp [hv,hcnt]
     ·intro j o hj hoj e he hb
      rw [hset] at hj ⊢
      split
      ·rfl
      ·by_cases e':j=i
       ·subst e'
        refine q3 o ?_ e he hb
        simp only [List.getElem?_toArray,List.getElem?_take,if_pos him]
        exact hoj
       ·rw [if_neg e'] at hj
        exact hcl j o hj hoj e he hb
    have h2:=h1 i hir
    unfold qOp at h2
    unfold wpOpIn
    simp only [List.getElem?_toArray,hot] at h2
    simp only [List.getElem?_toArray,ho]
    -- the guard looks at the same slot
    have hgd:Region.wanted ops[i] (yielded (ops.take m).toArray a.tmps)=Region.wanted ops[i] (yielded ops.toArray a.tmps):=by
     unfold Region.wanted
     split
     ·rfl
     ·rename_i j want hg
      have hjm:=hc.gd i _ ho him j want hg
      unfold yielded
      simp only [List.getElem?_toArray,List.getElem?_take,if_pos hjm]
    rw [← hgd]
    split
    ·rename_i hw
     rw [if_pos hw] at h2
     have h3:=Oper.wp_of_quiet (K':=wpAnyIn { Fence.wide with round:=ro } 0 P .any ops.toArray Q (f +(ops.length - m)) (L.setIfInBounds i true)) (Q':=fun _ _ _=>False) hw' next h2
     exact SLF.wpIn_of_wp (hc.nodef _ (List.getElem_mem _)) h3
    ·rename_i hw
     rw [if_neg hw] at h2
     exact ⟨fun _ _=>trivial,next _ _ hw' h2⟩
end

/-- THE RULE: m operations that only read, then the others in the text's order. -/
theorem region_cut_at {P:Program} (hm:P.follows .mixedOrders=true) {ro:Option Nat} {id:Nat} {ops:List Oper} {Q:Exit→Act→World→Prop} {a:Act} {w:World} (m:Nat) (hck:cutOk ops m=true)
 (hB:Region.lexB .any (ops.take m).toArray=true) (h:wpQuiet P (ops.take m).toArray (fun w'=>∃ n,w'=w.drewN n) (fun a'=>∀ w',(∃ n,w'=w.drewN n)→wpListIn { Fence.wide with round:=ro } 0 P ops.toArray Q (ops.drop m) a' w') (ops.take m) a) :
 (Code.region id ops.toArray true).wpIn { Fence.wide with round:=ro } 0 P Q a w:=by
 have hc:=cut_of hck
 have hle:=hc.le
 simp only [Region.lexB,Bool.and_eq_true] at hB
 refine wpIn_region_any hm ?_
 have h2:=wpAnyQ_lex (md:=.any) hB.1 (ops.take m) 0 (Array.replicate (ops.take m).length false) a (by simp) (by simpa using hB.2) h
 have h3:=cut_run (ro:=ro) (Q:=Q) hc (fun a' w' hw' hq=>hq w' hw') (ops.take m).length (Array.replicate (ops.take m).length false) (Array.replicate ops.length false) a { w with drawn:=w.drawn +1 } ⟨1,rfl⟩ Zj (by simp)
  (fun i=>by simp [Array.getD]) (by simp) (fun j o hj=>by simp [Array.getD] at hj) h2
 have hz:(ops.take m).length +(ops.length - m)=ops.toArray.size:=by simp;omega
 rw [hz] at h3
 simpa using h3
end Go.Proofs.YtelkcohhagblaaaGreat
namespace Go.Proofs.YtelkcohhagblaaaGreat.SLG
open Go Go.RowKit Go.Proofs.YtelkcohhagblaaaGreat.SL Go.Proofs.YtelkcohhagblaaaGreat
section
variable (ro:Option Nat) (all:List Oper) (P:Program) (fr:(Nat→Value)→Act) (w0:World) (F0:List Nat)

/-- What one operation owes. -/
def Ob (Γ:List Sp) (o:Oper) (s:Sp):Prop :=
 ∀ (us:Nat→Value) (w:World) (Fe:Nat→List Nat),Chg F0 w0 w→Used Γ us w Fe s.use→(∀ i j,i ∈ s.use→j ∈ s.use→i≠j→∀ k ∈ Fe i,k ∉ Fe j)→Seen Γ us s.see →
   ∀ K:Act→World→Prop,(∀ v w' F,s.V (if o.dst=some s.sub then v else us s.sub)→Chg (s.eat.flatMap Fe) w w'→s.A (if o.dst=some s.sub then v else us s.sub) w' F→(∀ k ∈ F,k ∈ s.eat.flatMap Fe∨(w.heap.size≤k∧k<w'.heap.size))→(s.quiet=true→w'=w)→K ((fr us).put o.dst v) w') →
     SLF.wpo ro P all o (fr us) w K
def Obs (Γ:List Sp):List Oper→List Sp→Prop
 | o::os,s::ss=>Ob ro all P fr w0 F0 Γ o s∧Obs Γ os ss
 | _,_=>True
end
theorem obs_of {ro:Option Nat} {all:List Oper} {P:Program} {a0:Act} {w0:World} {F0 ds:List Nat} {Γ:List Sp}:∀ (os:List Oper) (ss:List Sp) (j:Nat),Obs ro all P (frame a0 ds) w0 F0 Γ os ss→SLF.Obs ro all P a0 w0 F0 ds Γ j os ss
 | [],[],_,_=>trivial
 | [],_::_,_,_=>trivial
 | _::_,[],_,_=>trivial
 | o::os,s::ss,j,h=>⟨SLF.ob fun us w Fe h1 h2 h3 h4 K hK=>h.1 us w Fe h1 h2 h3 h4 K fun v w' F=>hK _ v w' F rfl,obs_of os ss (j +1) h.2⟩
theorem rule {P:Program} {ro:Option Nat} (hm:P.follows .mixedOrders=true) {id:Nat} {ops:List Oper} {a0:Act} {w:World} {Q:Exit→Act→World→Prop} (F0 ds:List Nat) (Γ:List Sp) (keep:List Nat)
 (hck:SLF.check ops Γ ds=true) (hkeep:keepOk ops.length Γ keep=true) (Fs0:Nat→List Nat)
 (hin:∀ i x,ops.length≤i→Γ[i]?=some x→x.A (a0.tmps.getD x.sub undef) w.drew (Fs0 i)∧∀ k ∈ Fs0 i,k ∈ F0∧k<w.heap.size)
 (hdj:∀ i j,i≠j→ops.length≤i→ops.length≤j→∀ k ∈ Fs0 i,k ∉ Fs0 j)
 {fr:(Nat→Value)→Act} (hfr:∀ us,frame a0 ds us=fr us)
 (hob:Obs ro ops P fr w.drew F0 Γ ops Γ)
 (hend:∀ (us:Nat→Value) (w':World) (Fs:Nat→List Nat),Chg F0 w.drew w'→Used Γ us w' Fs keep →
  (∀ i ∈ keep,∀ k ∈ Fs i,(k ∈ F0∨w.heap.size≤k)∧k<w'.heap.size)→(∀ i j,i ∈ keep→j ∈ keep→i≠j→∀ k ∈ Fs i,k ∉ Fs j) →
  Q .normal (fr us) w') :
 (Code.region id ops.toArray true).wpIn { Fence.wide with round:=ro } 0 P Q a0 w:=by
 obtain rfl:frame a0 ds=fr:=funext hfr
 exact SLF.rule hm F0 ds Γ keep hck hkeep Fs0 hin hdj (obs_of _ _ _ hob) hend
/-- The same outside a round. -/
theorem rule0 {P:Program} (hm:P.follows .mixedOrders=true) {id:Nat} {ops:List Oper} {a0:Act} {w:World} {Q:Exit→Act→World→Prop} (F0 ds:List Nat) (Γ:List Sp) (keep:List Nat)
 (hck:SLF.check ops Γ ds=true) (hkeep:keepOk ops.length Γ keep=true) (Fs0:Nat→List Nat)
 (hin:∀ i x,ops.length≤i→Γ[i]?=some x→x.A (a0.tmps.getD x.sub undef) w.drew (Fs0 i)∧∀ k ∈ Fs0 i,k ∈ F0∧k<w.heap.size)
 (hdj:∀ i j,i≠j→ops.length≤i→ops.length≤j→∀ k ∈ Fs0 i,k ∉ Fs0 j)
 {fr:(Nat→Value)→Act} (hfr:∀ us,frame a0 ds us=fr us)
 (hob:Obs none ops P fr w.drew F0 Γ ops Γ)
 (hend:∀ (us:Nat→Value) (w':World) (Fs:Nat→List Nat),Chg F0 w.drew w'→Used Γ us w' Fs keep →
  (∀ i ∈ keep,∀ k ∈ Fs i,(k ∈ F0∨w.heap.size≤k)∧k<w'.heap.size)→(∀ i j,i ∈ keep→j ∈ keep→i≠j→∀ k ∈ Fs i,k ∉ Fs j) →
  Q .normal (fr us) w') :
 (Code.region id ops.toArray true).wp P Q a0 w:=(wpIn_wide (n:=0)).1 (rule (ro:=none) hm F0 ds Γ keep hck hkeep Fs0 hin hdj hfr hob hend)
theorem wanted_not {o:Oper} {ops:Array Oper} {tmps:Array Value} {g d:Nat} {b:Bool} {v:Value} (h:o.guard=some (g,b)) (hd:(ops[g]?).bind (·.dst)=some d) (hv:tmps[d]?=some v) (hne:v≠.bool b):Region.wanted o (yielded ops tmps)=false:=by
 simp only [Region.wanted,h,yielded,hd,Option.bind_some,hv]
 cases v <;> first | rfl | (rename_i c;simp at hne ⊢;exact hne)
/-- What an operation owes that sets the slot that its word speaks of. -/
theorem ob_sp {ro:Option Nat} {all:List Oper} {P:Program} {fr:(Nat→Value)→Act} {w0:World} {F0:List Nat} {Γ:List Sp} {o:Oper} {s:Sp} (hd:o.dst=some s.sub) (hV:s.V=fun _=>True) (hq:s.quiet=false)
 (h:∀ (us:Nat→Value) (w:World) (Fe:Nat→List Nat),Chg F0 w0 w→Used Γ us w Fe s.use→(∀ i j,i ∈ s.use→j ∈ s.use→i≠j→∀ k ∈ Fe i,k ∉ Fe j) →
  ∀ K:Act→World→Prop,(∀ a' v w' F,a'=(fr us).put o.dst v→Chg (s.eat.flatMap Fe) w w'→s.A v w' F→(∀ k ∈ F,k ∈ s.eat.flatMap Fe∨(w.heap.size≤k∧k<w'.heap.size))→K a' w')→SLF.wpo ro P all o (fr us) w K):Ob ro all P fr w0 F0 Γ o s :=
 fun us w Fe h1 h2 h3 _ K hK=>h us w Fe h1 h2 h3 K fun a' v w' F e hc hA hF=>by
  subst e
  refine hK v w' F (by rw [hV];trivial) hc ?_ hF (fun h=>by rw [hq] at h;cases h)
  rw [if_pos hd];exact hA
/-- The same of one that sets no slot. -/
theorem ob_no {ro:Option Nat} {all:List Oper} {P:Program} {fr:(Nat→Value)→Act} {w0:World} {F0:List Nat} {Γ:List Sp} {o:Oper} {s:Sp} (hd:o.dst=none) (hV:s.V=fun _=>True) (hq:s.quiet=false)
 (h:∀ (us:Nat→Value) (w:World) (Fe:Nat→List Nat),Chg F0 w0 w→Used Γ us w Fe s.use→(∀ i j,i ∈ s.use→j ∈ s.use→i≠j→∀ k ∈ Fe i,k ∉ Fe j) →
  ∀ K:Act→World→Prop,(∀ w' F,Chg (s.eat.flatMap Fe) w w'→s.A (us s.sub) w' F→(∀ k ∈ F,k ∈ s.eat.flatMap Fe∨(w.heap.size≤k∧k<w'.heap.size))→K (fr us) w')→SLF.wpo ro P all o (fr us) w K):Ob ro all P fr w0 F0 Γ o s :=
 fun us w Fe h1 h2 h3 _ K hK=>h us w Fe h1 h2 h3 K fun w' F hc hA hF=>by
  have:=hK undef w' F (by rw [hV];trivial) hc (by rw [if_neg (by rw [hd];simp)];exact hA) hF (fun h=>by rw [hq] at h;cases h)
  rw [hd] at this
  exact this
/-- A struct written over, cell by cell. -/
theorem heap_set2 {w:World} {N:Nat} {a0 a1:Value} {t:TypeId} (h:w.heap[N]?=some (.cells #[a0,a1] t (0,0))) (b0 b1:Value):((w.setCell ⟨N,0,none⟩ b0).setCell ⟨N,1,none⟩ b1).heap[N]?=some (.cells #[b0,b1] t (0,0)):=by
 have:=(SL.heap_set (SL.heap_set h b0 (i:=0)) b1 (i:=1))
 simpa using this
theorem chg_set2 {E:List Nat} (w:World) {N:Nat} (hE:N ∈ E) (b0 b1:Value):SL.Chg E w ((w.setCell ⟨N,0,none⟩ b0).setCell ⟨N,1,none⟩ b1):=((SL.Chg.setCell w hE b0).trans (SL.Chg.setCell _ hE b1))
theorem row_set2 {w:World} {base:Nat} {t:TypeId} {size n:Nat} {v:Value} {xs:List Value} (h:w.ownsRow base t size v n xs) {N:Nat} (hn:N ∉ v.ownBlock.toList) (b0 b1:Value):((w.setCell ⟨N,0,none⟩ b0).setCell ⟨N,1,none⟩ b1).ownsRow base t size v n xs:=(SL.row_set (SL.row_set h hn b0) hn b1)
theorem heap_set4 {w:World} {N:Nat} {a0 a1 a2 a3:Value} {t:TypeId} (h:w.heap[N]?=some (.cells #[a0,a1,a2,a3] t (0,0))) (b0 b1 b2 b3:Value):((((w.setCell ⟨N,0,none⟩ b0).setCell ⟨N,1,none⟩ b1).setCell ⟨N,2,none⟩ b2).setCell ⟨N,3,none⟩ b3).heap[N]?=some (.cells #[b0,b1,b2,b3] t (0,0)):=by
 have:=(SL.heap_set (SL.heap_set (SL.heap_set (SL.heap_set h b0 (i:=0)) b1 (i:=1)) b2 (i:=2)) b3 (i:=3))
 simpa using this
theorem chg_set4 {E:List Nat} (w:World) {N:Nat} (hE:N ∈ E) (b0 b1 b2 b3:Value):SL.Chg E w ((((w.setCell ⟨N,0,none⟩ b0).setCell ⟨N,1,none⟩ b1).setCell ⟨N,2,none⟩ b2).setCell ⟨N,3,none⟩ b3):=((((SL.Chg.setCell w hE b0).trans (SL.Chg.setCell _ hE b1)).trans (SL.Chg.setCell _ hE b2)).trans (SL.Chg.setCell _ hE b3))
theorem heap_set6 {w:World} {N:Nat} {a0 a1 a2 a3 a4 a5:Value} {t:TypeId} (h:w.heap[N]?=some (.cells #[a0,a1,a2,a3,a4,a5] t (0,0))) (b0 b1 b2 b3 b4 b5:Value):((((((w.setCell ⟨N,0,none⟩ b0).setCell ⟨N,1,none⟩ b1).setCell ⟨N,2,none⟩ b2).setCell ⟨N,3,none⟩ b3).setCell ⟨N,4,none⟩ b4).setCell ⟨N,5,none⟩ b5).heap[N]?=some (.cells #[b0,b1,b2,b3,b4,b5] t (0,0)):=by
 have:=(SL.heap_set (SL.heap_set (SL.heap_set (SL.heap_set (SL.heap_set (SL.heap_set h b0 (i:=0)) b1 (i:=1)) b2 (i:=2)) b3 (i:=3)) b4 (i:=4)) b5 (i:=5))
 simpa using this
theorem chg_set6 {E:List Nat} (w:World) {N:Nat} (hE:N ∈ E) (b0 b1 b2 b3 b4 b5:Value):SL.Chg E w ((((((w.setCell ⟨N,0,none⟩ b0).setCell ⟨N,1,none⟩ b1).setCell ⟨N,2,none⟩ b2).setCell ⟨N,3,none⟩ b3).setCell ⟨N,4,none⟩ b4).setCell ⟨N,5,none⟩ b5):=((((((SL.Chg.setCell w hE b0).trans (SL.Chg.setCell _ hE b1)).trans (SL.Chg.setCell _ hE b2)).trans (SL.Chg.setCell _ hE b3)).trans (SL.Chg.setCell _ hE b4)).trans (SL.Chg.setCell _ hE b5))
end Go.Proofs.YtelkcohhagblaaaGreat.SLG
namespace Go.Proofs.YtelkcohhagblaaaGreat
/-- y keeps all bounds. -/
def keepsB (bs:List Bd) (y:Int→Int):Prop:=∀ b ∈ bs,y b.tow - y b.frm≤b.most

/-- With a list that keeps all bounds, no step takes the sums below it (shifted by c), where the sums began above it. -/
theorem RL.step_above {bs:List Bd} {y:Int→Int} {c:Int} {s:RL} {k:Nat} {b:Bd} (hl:s.r.length=60) (hb:b.inr) (hy:y b.tow - y b.frm≤b.most) (h:∀ j:Int,0≤j→j<60→gi s.r j<FAR→y j +c≤gi s.r j) :
 ∀ j:Int,0≤j→j<60→gi (s.step FAR k b).r j<FAR→y j +c≤gi (s.step FAR k b).r j:=by
 intro j h0 h1
 unfold RL.step
 split
 ·rename_i ho
  simp only [RL.upd]
  rw [gi_set hb.t0 (by rw [hl];have:=hb.t0;have:=hb.t1;omega) h0]
  split
  ·rename_i e;subst e
   intro _
   have:=h b.frm hb.f0 hb.f1 (opens_FAR.1 ho).1
   omega
  ·exact h j h0 h1
 ·exact h j h0 h1
theorem RL.pass_above {bs:List Bd} {y:Int→Int} {c:Int} {s:RL} (hl:s.r.length=60) (hin:∀ b ∈ bs,b.inr) (hy:keepsB bs y) (h:∀ j:Int,0≤j→j<60→gi s.r j<FAR→y j +c≤gi s.r j) :
 ∀ k,k≤bs.length→(s.pass FAR bs k).r.length=60∧∀ j:Int,0≤j→j<60→gi (s.pass FAR bs k).r j<FAR→y j +c≤gi (s.pass FAR bs k).r j
 | 0,_=>⟨hl,h⟩
 | k +1,hk=>by
   obtain ⟨h1,h2⟩:=RL.pass_above hl hin hy h k (by omega)
   have hm:bs.getD k default ∈ bs:=by
    exact Z1f
   simp only [RL.pass]
   refine ⟨?_,RL.step_above (bs:=bs) h1 (hin _ hm) (hy _ hm) h2⟩
   unfold RL.step
   split
   ·simp [RL.upd,h1]
   ·exact h1
theorem settle_above {bs:List Bd} {y:Int→Int} {c:Int} (hin:∀ b ∈ bs,b.inr) (hy:keepsB bs y):∀ (n:Nat) (s:RL),s.r.length=60→(∀ j:Int,0≤j→j<60→gi s.r j<FAR→y j +c≤gi s.r j) →
 ∀ j:Int,0≤j→j<60→gi (settle FAR bs n s).1.r j<FAR→y j +c≤gi (settle FAR bs n s).1.r j
 | 0,s,_,h=>h
 | n +1,s,hl,h=>by
   obtain ⟨h1,h2⟩:=RL.pass_above hl hin hy h bs.length (Nat.le_refl _)
   simp only [settle]
   split
   ·exact h2
   ·exact settle_above hin hy n _ h1 h2

/-- Steps only lower. -/
theorem RL.step_le {s:RL} {k:Nat} {b:Bd} (hl:s.r.length=60) (hb:b.inr):(∀ j:Int,0≤j→j<60→gi (s.step FAR k b).r j≤gi s.r j)∧(opens FAR s.r b=true→gi (s.step FAR k b).r b.tow<gi s.r b.tow)∧(s.step FAR k b).r.length=60:=by
 unfold RL.step
 by_cases ho:opens FAR s.r b=true
 ·rw [if_pos ho]
  have h2:=opens_FAR.1 ho
  have ht:b.tow.toNat<s.r.length:=by rw [hl];have:=hb.t0;have:=hb.t1;omega
  refine ⟨fun j h0 h1=>?_,fun _=>?_,by simp [RL.upd,hl]⟩
  ·simp only [RL.upd]
   rw [gi_set hb.t0 ht h0]
   split
   ·rename_i e;subst e;omega
   ·omega
  ·simp only [RL.upd]
   rw [gi_set hb.t0 ht hb.t0,if_pos rfl]
   exact h2.2
 ·rw [if_neg ho]
  exact ⟨fun _ _ _=>Int.le_refl _,fun h=>absurd h ho,hl⟩
theorem RL.pass_le {bs:List Bd} {s:RL} (hl:s.r.length=60) (hin:∀ b ∈ bs,b.inr):∀ k,k≤bs.length→(s.pass FAR bs k).r.length=60∧(∀ j:Int,0≤j→j<60→gi (s.pass FAR bs k).r j≤gi s.r j)
 | 0,_=>⟨hl,fun _ _ _=>Int.le_refl _⟩
 | k +1,hk=>by
   obtain ⟨h1,h2⟩:=RL.pass_le hl hin k (by omega)
   have hm:bs.getD k default ∈ bs:=by
    exact Z1f
   simp only [RL.pass]
   obtain ⟨h3,_,h4⟩:=RL.step_le (k:=k) h1 (hin _ hm)
   exact ⟨h4,fun j q0 q1=>Int.le_trans (h3 j q0 q1) (h2 j q0 q1)⟩
theorem RL.pass_mono {bs:List Bd} {s:RL} (hl:s.r.length=60) (hin:∀ b ∈ bs,b.inr) (k:Nat):∀ d,k +d≤bs.length→∀ j:Int,0≤j→j<60→gi (s.pass FAR bs (k +d)).r j≤gi (s.pass FAR bs k).r j
 | 0,_,j,_,_=>Int.le_refl _
 | d +1,h,j,h0,h1=>by
   have h2:=(RL.pass_le hl hin (k +d) (by omega)).1
   have hm:bs.getD (k +d) default ∈ bs:=by
    exact Z1f
   exact Int.le_trans ((RL.step_le (k:=k +d) h2 (hin _ hm)).1 j h0 h1) (RL.pass_mono hl hin k d (by omega) j h0 h1)

/-- A pass that changes nothing has met no open bound. -/
theorem RL.still {bs:List Bd} {s:RL} (hl:s.r.length=60) (hin:∀ b ∈ bs,b.inr) (h:(s.pass FAR bs bs.length).r=s.r):∀ b ∈ bs,opens FAR s.r b=false:=by
 intro b hb
 obtain ⟨k,hk,rfl⟩:=List.getElem_of_mem hb
 have hm:bs.getD k default=bs[k]:=by rw [List.getD_eq_getElem?_getD,List.getElem?_eq_getElem hk];rfl
 have h1:=(RL.pass_le hl hin k (by omega)).1
 have hlow:∀ j:Int,0≤j→j<60→gi (s.pass FAR bs k).r j=gi s.r j:=fun j q0 q1=>by
  have a1:=(RL.pass_le hl hin k (by omega)).2 j q0 q1
  have a2:=RL.pass_mono hl hin k (bs.length - k) (by omega) j q0 q1
  rw [show k +(bs.length - k)=bs.length by omega,h] at a2
  omega
 have hi:=hin _ hb
 cases ho:opens FAR s.r bs[k] with
 | false=>rfl
 | true =>
   exfalso
   have ho2:opens FAR (s.pass FAR bs k).r bs[k]=true:=by
    have:=opens_FAR.1 ho
    rw [opens_FAR,hlow _ hi.f0 hi.f1,hlow _ hi.t0 hi.t1]
    exact this
   have h3:=(RL.step_le (k:=k) h1 hi).2.1 ho2
   have h4:=RL.pass_mono hl hin (k +1) (bs.length - (k +1)) (by omega) bs[k].tow hi.t0 hi.t1
   rw [show k +1 +(bs.length - (k +1))=bs.length by omega,h] at h4
   simp only [RL.pass,hm] at h4
   rw [hlow _ hi.t0 hi.t1] at h3
   omega
theorem settle_still {bs:List Bd} (hin:∀ b ∈ bs,b.inr):∀ (n:Nat) (s:RL),s.r.length=60→(settle FAR bs n s).2=true→∀ b ∈ bs,opens FAR (settle FAR bs n s).1.r b=false
 | 0,s,_,h=>by simp [settle] at h
 | n +1,s,hl,h=>by
   simp only [settle] at h ⊢
   split
   ·rename_i he
    simp only []
    rw [he]
    exact RL.still hl hin he
   ·rename_i he
    rw [if_neg he] at h
    exact settle_still hin n _ (RL.pass_le hl hin bs.length (Nat.le_refl _)).1 h
theorem settle_le {bs:List Bd} (hin:∀ b ∈ bs,b.inr):∀ (n:Nat) (s:RL),s.r.length=60→∀ j:Int,0≤j→j<60→gi (settle FAR bs n s).1.r j≤gi s.r j
 | 0,_,_,_,_,_=>Int.le_refl _
 | n +1,s,hl,j,h0,h1=>by
   obtain ⟨h2,h3⟩:=RL.pass_le hl hin bs.length (Nat.le_refl _)
   simp only [settle]
   split
   ·exact h3 j h0 h1
   ·exact Int.le_trans (settle_le hin n _ h2 j h0 h1) (h3 j h0 h1)

/-- Where settle says yes, sums that lie below FAR keep all bounds. -/
theorem keeps_of_settle {bs:List Bd} (hin:∀ b ∈ bs,b.inr) {n:Nat} {s:RL} (hl:s.r.length=60) (h:(settle FAR bs n s).2=true) (hlow:∀ j:Int,0≤j→j<60→gi s.r j<FAR):keepsB bs (gi (settle FAR bs n s).1.r):=by
 intro b hb
 have hi:=hin b hb
 have h1:=settle_still hin n s hl h b hb
 have h2:=Int.lt_of_le_of_lt (settle_le hin n s hl b.frm hi.f0 hi.f1) (hlow b.frm hi.f0 hi.f1)
 have h3:¬ (gi (settle FAR bs n s).1.r b.frm<1099511627776∧gi (settle FAR bs n s).1.r b.frm +b.most<gi (settle FAR bs n s).1.r b.tow):=fun hh=>by
  rw [opens_FAR.2 hh] at h1
  cases h1
 have h4:gi (settle FAR bs n s).1.r b.frm<1099511627776:=h2
 clear h2
 omega
open Go.RowKit
/-- gf with the captures lb yields just the elements of xs, in order, in each world in which C holds. -/
def IterAt {α:Type} (P:Program) (gf:Nat) (lb:Array Value) (C:World→Prop) (enc:α→Value) (xs:List α):Prop :=
 ∀ (B l:Nat) (J Jx:List α→World→Prop) (W:World),B≤W.heap.size→AbidesFrom W.heap.size J→AbidesFrom W.heap.size Jx→(∀ s W,J s W→C W)→J [] W →
   (∀ pre x post W1,xs=pre ++x::post→J pre W1→YieldAt Fence.wide 0 P l #[enc x] W1 fun e W'=>KeepsW B W1 W'∧((e=.returned (.bool true)∧J (pre ++[x]) W')∨(e=.returned (.bool false)∧Jx (pre ++[x]) W'))) →
   CallsIn Fence.wide 0 P gf (#[.func (.yield l) #[] #[]] ++lb) W fun e W'=>(∃ v,e=.returned v)∧(J xs W'∨∃ pre x post,xs=pre ++x::post∧Jx (pre ++[x]) W')
theorem range_iter {P:Program} {α:Type} {g:Operand} {p:Tmp} {assign body:Code} {Q:Exit→Act→World→Prop} {a:Act} {w:World}
 {gf:Nat} {lb:Array Value} (hg:a.eval g=.func (.func gf) #[] lb) (eg:∀ args w,(callFunc gf args).run P w=.ok (.enter gf args) w)
 {C:World→Prop} {enc:α→Value} {xs:List α} (hit:IterAt P gf lb C enc xs)
 (I:List α→World→Prop) (Ix:Code→List α→World→Prop) (hI:OwnFrom w.heap.size I) (hIx:∀ c,OwnFrom w.heap.size (Ix c)) (hC:∀ s W,I s W→C W) (h0:I [] w)
 (Ax:List α→α→Act→World→Prop) (hAx:∀ s x a',OwnFrom w.heap.size (fun (_:Unit) W=>Ax s x a' W))
 (hassign:∀ (l:Nat) (pre:List α) (x:α) (post:List α) (W:World) (K:Act→World→Prop),xs=pre ++x::post→I pre W→(∀ a' W',KeepsFrom w.heap.size W W'→I pre W'→Ax pre x a' W'→K a' W') →
  assign.wpIn (Fence.wide.inRound l) 0 P (Exit.then K (fun _ _ _=>False)) { tmps:=a.tmps.setIfInBounds p (enc x),defers:=[] } W)
 (hbody:∀ (l:Nat) (pre:List α) (x:α) (post:List α) (a':Act) (W:World),w.heap.size≤l→xs=pre ++x::post→I pre W→Ax pre x a' W→body.wpIn (Fence.wide.inRound l) 0 P (roundEnd w.heap.size I Ix (pre ++[x]) W) a' W)
 (hdone:∀ (D:Nat) (W:World),w.heap.size≤D→I xs W→W.heap[D]?=some (.deferred (some []))→Q .normal { a with defers:={ target:=.collected D,args:=#[] }::a.defers } W)
 (hstop:∀ (D:Nat) (c:Code) (pre:List α) (x:α) (post:List α) (W:World),w.heap.size≤D→xs=pre ++x::post→Ix c (pre ++[x]) W→W.heap[D]?=some (.deferred (some []))→c.wp P Q { a with defers:={ target:=.collected D,args:=#[] }::a.defers } W) :
 (Code.rangeFunc g #[p] assign body).wp P Q a w:=by
 refine range_walks (σ:=List α) (α:=α) hg eg (encs:=fun x=>#[enc x]) (fun _=>rfl) I Ix hI hIx [] h0 (fun s x=>∃ post,xs=s ++x::post) (fun s x=>s ++[x]) Ax hAx (fun s=>s=xs) (fun s=>∃ pre x post,xs=pre ++x::post∧s=pre ++[x]) ?_ ?_ ?_ ?_ ?_
 ·intro l J Jx W hb hJ hJx hJI hJxI hy h0
  refine (hit w.heap.size l J Jx W hb.size hJ hJx (fun s W h=>hC s W (hJI s W h)) h0 (fun pre x post W1 he hJ1=>hy pre x W1 hJ1 ⟨post,he⟩)).mono ?_
  rintro e W' ⟨hv,h | ⟨pre,x,post,he,h⟩⟩
  ·exact ⟨hv,.inl ⟨xs,rfl,h⟩⟩
  ·exact ⟨hv,.inr ⟨_,⟨pre,x,post,he,rfl⟩,h⟩⟩
 ·rintro l s x W K hi ⟨post,he⟩ hK
  have:=hassign l s x post W K he hi hK
  simpa using this
 ·rintro l s x a' W hl hi ⟨post,he⟩ ha
  exact hbody l s x post a' W hl he hi ha
 ·rintro D s W hD rfl hi hd
  exact hdone D W hD hi hd
 ·rintro D c s W hD ⟨pre,x,post,he,rfl⟩ hi hd
  exact hstop D c pre x post W hD he hi hd
/-- The same with the frame said by slots. -/
theorem range_iter' {P:Program} {α:Type} {g:Operand} {p:Tmp} {assign body:Code} {Q:Exit→Act→World→Prop} {ts:Array Value} {ds:List Deferred} {w:World}
 {gf:Nat} {lb:Array Value} (hg:({ tmps:=ts,defers:=ds }:Act).eval g=.func (.func gf) #[] lb) (eg:∀ args w,(callFunc gf args).run P w=.ok (.enter gf args) w)
 {C:World→Prop} {enc:α→Value} {xs:List α} (hit:IterAt P gf lb C enc xs)
 (I:List α→World→Prop) (Ix:Code→List α→World→Prop) (hI:OwnFrom w.heap.size I) (hIx:∀ c,OwnFrom w.heap.size (Ix c)) (hC:∀ s W,I s W→C W) (h0:I [] w)
 (dl:List Nat) (A:α→(Nat→Value)→World→Prop) (hA:∀ x us,OwnFrom w.heap.size (fun (_:Unit) W=>A x us W))
 (hassign:∀ (l:Nat) (pre:List α) (x:α) (post:List α) (W:World) (K:Act→World→Prop),xs=pre ++x::post→I pre W →
  (∀ a' W',KeepsFrom w.heap.size W W'→I pre W'→a'.tmps=frame'_w ts dl (fun i=>a'.tmps.getD i undef)→a'.defers=[]→A x (fun i=>a'.tmps.getD i undef) W'→K a' W') →
  assign.wpIn (Fence.wide.inRound l) 0 P (Exit.then K (fun _ _ _=>False)) { tmps:=ts.setIfInBounds p (enc x),defers:=[] } W)
 (hbody:∀ (l:Nat) (pre:List α) (x:α) (post:List α) (us:Nat→Value) (W:World),w.heap.size≤l→xs=pre ++x::post→I pre W→A x us W→body.wpIn (Fence.wide.inRound l) 0 P (roundEnd w.heap.size I Ix (pre ++[x]) W) { tmps:=frame'_w ts dl us,defers:=[] } W)
 (hdone:∀ (D:Nat) (W:World),w.heap.size≤D→I xs W→W.heap[D]?=some (.deferred (some []))→Q .normal { tmps:=ts,defers:={ target:=.collected D,args:=#[] }::ds } W)
 (hstop:∀ (D:Nat) (c:Code) (pre:List α) (x:α) (post:List α) (W:World),w.heap.size≤D→xs=pre ++x::post→Ix c (pre ++[x]) W→W.heap[D]?=some (.deferred (some []))→c.wp P Q { tmps:=ts,defers:={ target:=.collected D,args:=#[] }::ds } W) :
 (Code.rangeFunc g #[p] assign body).wp P Q { tmps:=ts,defers:=ds } w:=by
 refine range_iter hg eg hit I Ix hI hIx hC h0 (fun _ x a' W=>a'.tmps=frame'_w ts dl (fun i=>a'.tmps.getD i undef)∧a'.defers=[]∧A x (fun i=>a'.tmps.getD i undef) W)
  (fun s x a' u W W' row h hg hr=>⟨h.1,h.2.1,hA x _ u W W' row h.2.2 hg hr⟩) (fun l pre x post W K he hi hK=>hassign l pre x post W K he hi fun a' W' h1 h2 h3 h4 h5=>hK a' W' h1 h2 ⟨h3,h4,h5⟩) ?_ hdone hstop
 rintro l pre x post ⟨ts',ds'⟩ W hl he hi ⟨h1,h2,h3⟩
 simp only at h1 h2 h3
 have:=hbody l pre x post _ W hl he hi h3
 rw [← h1] at this
 rw [h2]
 exact this
end Go.Proofs.YtelkcohhagblaaaGreat
