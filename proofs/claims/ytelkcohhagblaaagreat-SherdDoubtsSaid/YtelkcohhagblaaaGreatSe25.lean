/- What the functions answer, for every input. -/
import Derived.Test.YtelkcohhagblaaaGreatSe24
import Derived.Test.YtelkcohhagblaaaGreatSe04
import Derived.Test.YtelkcohhagblaaaGreatSe08
set_option linter.unusedSimpArgs false
set_option linter.unusedVariables false
set_option linter.unnecessarySimpa false
namespace Go.Proofs.YtelkcohhagblaaaGreat
open Go.RowKit Go.Shelf
set_option maxHeartbeats 1000000
set_option maxRecDepth 100000
set_option maxHeartbeats 4000000
theorem own_ints {w w':World} {base:Nat} {a:Option Addr} {n c:Nat} {xs:List Int} (h:w.ownsRow base 3 1 (.slice a n c) n (xs.map (.int .i64))) (hb:Below w.heap.size w w') (hs:xs.length≤100):IntsAt w' a n c xs:=(IntsAt.of_owns h (by omega)).below hb
/-- One pass of the reference: the sums, and whether no bound was open. -/
def rpass (far:Int) (bs:List Bd) (x:List Int):Nat→List Int × Bool
 | 0=>(x,true)
 | k +1=>let s:=rpass far bs x k;let b:=bs.getD k default;if opens far s.1 b then (s.1.set b.tow.toNat (gi s.1 b.frm +b.most),false) else s
def rsettle (far:Int) (bs:List Bd):Nat→List Int→List Int × Bool
 | 0,_=>([],false)
 | n +1,x=>if (rpass far bs x bs.length).2 then ((rpass far bs x bs.length).1,true) else rsettle far bs n (rpass far bs x bs.length).1

/-- The ends of bounds are points. -/
def Pts (p:Int) (bs:List Bd):Prop:=∀ b ∈ bs,0≤b.frm∧b.frm<p∧0≤b.tow∧b.tow<p
theorem Pts.of_chk {p:Int} {bs:List Bd} (h:chk p bs=0):Pts p bs:=by
 exact Z16
set_option maxHeartbeats 1000000
/-- Points outside V are final and low; those of V are high; bounds from points outside U are not open. -/
structure BF (p:Int) (bs:List Bd) (y:Int→Int) (V U:List Int) (m:Int) (r:List Int):Prop where
 sub:∀ j:Int,j ∈ V→j ∈ U
 low:∀ j:Int,0≤j→j<p→j ∉ V→gi r j<FAR∧gi r j - y j≤m
 up:∀ j:Int,0≤j→j<p→j ∈ V→gi r j<FAR→m≤gi r j - y j
 eq:∀ j:Int,0≤j→j<p→j ∈ U→j ∉ V→gi r j - y j=m
 fin:∀ b ∈ bs,b.frm ∉ U→gi r b.tow≤gi r b.frm +b.most
theorem opens_iff {r:List Int} {b:Bd}:opens FAR r b=true ↔ gi r b.frm<FAR∧gi r b.frm +b.most<gi r b.tow:=by
 unfold opens
 rw [Bool.and_eq_true,decide_eq_true_eq,decide_eq_true_eq]
theorem BF.step {p:Int} {bs:List Bd} {y:Int→Int} {V U:List Int} {m:Int} {r:List Int} (h:BF p bs y V U m r) (hl:r.length=60) (hp:p≤60) (hy:keepsB bs y) (hpt:Pts p bs)
 {b:Bd} (hb:b ∈ bs) (ho:opens FAR r b=true):b.tow ∈ V∧BF p bs y V U m (r.set b.tow.toNat (gi r b.frm +b.most)):=by
 obtain ⟨o1,o2⟩:=opens_iff.1 ho
 obtain ⟨q0,q1,q2,q3⟩:=hpt b hb
 have hU:b.frm ∈ U:=by
  apply Classical.byContradiction
  intro hn
  have:=h.fin b hb hn
  omega
 have hm:m≤gi r b.frm - y b.frm:=by
  by_cases hV:b.frm ∈ V
  ·exact h.up _ q0 q1 hV o1
  ·have:=h.eq _ q0 q1 hU hV
   omega
 have hyb:=hy b hb
 have hV:b.tow ∈ V:=by
  apply Classical.byContradiction
  intro hn
  have:=h.low _ q2 q3 hn
  omega
 refine ⟨hV,?_⟩
 have hg:∀ j:Int,0≤j→gi (r.set b.tow.toNat (gi r b.frm +b.most)) j=if j=b.tow then gi r b.frm +b.most else gi r j:=fun j hj=>gi_set q2 (by omega) hj
 refine ⟨h.sub,fun j j0 j1 hj=>?_,fun j j0 j1 hj hf=>?_,fun j j0 j1 hj hj2=>?_,fun b2 hb2 hj=>?_⟩
 ·rw [hg j j0,if_neg (fun e=>hj Z4h)]
  exact h.low j j0 j1 hj
 ·rw [hg j j0] at hf ⊢
  by_cases e:j=b.tow
  ·rw [if_pos e]
   subst e
   omega
  ·rw [if_neg e] at hf ⊢
   exact h.up j j0 j1 hj hf
 ·rw [hg j j0,if_neg (fun e=>hj2 Z4h)]
  exact h.eq j j0 j1 hj hj2
 ·obtain ⟨s0,s1,s2,s3⟩:=hpt b2 hb2
  have hf:=h.fin b2 hb2 hj
  rw [hg _ s0,hg _ s2]
  have hne:b2.frm≠b.tow:=fun e=>hj (h.sub _ Z4h)
  rw [if_neg hne]
  split
  ·rename_i e
   rw [e] at hf
   omega
  ·exact hf
theorem getD_mem {bs:List Bd} {k:Nat} (h:k<bs.length):bs.getD k default ∈ bs:=by
 rw [List.getD_eq_getElem?_getD,List.getElem?_eq_getElem h]
 exact List.getElem_mem _
theorem BF.pass {p:Int} {bs:List Bd} {y:Int→Int} {V U:List Int} {m:Int} {s:RL} (h:BF p bs y V U m s.r) (hl:s.r.length=60) (hp:p≤60) (hin:∀ b ∈ bs,b.inr) (hy:keepsB bs y) (hpt:Pts p bs) :
 ∀ k,k≤bs.length→BF p bs y V U m (s.pass FAR bs k).r∧∀ i,i<k→(bs.getD i default).frm ∉ V→gi (s.pass FAR bs k).r (bs.getD i default).tow≤gi (s.pass FAR bs k).r (bs.getD i default).frm +(bs.getD i default).most
 | 0,_=>⟨h,fun i hi=>by omega⟩
 | k +1,hk=>by
   obtain ⟨h1,h2⟩:=BF.pass h hl hp hin hy hpt k (by omega)
   have hlen:=(RL.pass_le hl hin k (by omega)).1
   have hm:=getD_mem (bs:=bs) (k:=k) (by omega)
   obtain ⟨q0,q1,q2,q3⟩:=hpt _ hm
   simp only [RL.pass,RL.step]
   cases ho:opens FAR (s.pass FAR bs k).r (bs.getD k default) with
   | false =>
     simp only [Bool.false_eq_true,if_false]
     refine ⟨h1,fun i hi hf=>?_⟩
     by_cases e:i=k
     ·subst e
      have hlow:=h1.low _ q0 q1 hf
      apply Classical.byContradiction
      intro hn
      have:=opens_iff.2 ⟨hlow.1,Int.lt_of_not_ge hn⟩
      rw [ho] at this
      exact absurd this (by simp)
     ·exact h2 i (by omega) hf
   | true =>
     obtain ⟨hV,h3⟩:=h1.step hlen hp hy hpt hm ho
     obtain ⟨o1,o2⟩:=opens_iff.1 ho
     simp only [if_true,RL.upd]
     refine ⟨h3,fun i hi hf=>?_⟩
     have hg:∀ j:Int,0≤j→gi ((s.pass FAR bs k).r.set (bs.getD k default).tow.toNat (gi (s.pass FAR bs k).r (bs.getD k default).frm +(bs.getD k default).most)) j=if j=(bs.getD k default).tow then gi (s.pass FAR bs k).r (bs.getD k default).frm +(bs.getD k default).most else gi (s.pass FAR bs k).r j:=fun j hj=>gi_set q2 (by omega) hj
     obtain ⟨s0,s1,s2,s3⟩:=hpt _ (getD_mem (bs:=bs) (k:=i) (by omega))
     have hne:(bs.getD i default).frm≠(bs.getD k default).tow:=fun e=>hf Z4h
     rw [hg _ s0,hg _ s2,if_neg hne]
     by_cases e:i=k
     ·subst e
      rw [if_pos rfl]
      omega
     ·have h4:=h2 i (by omega) hf
      split
      ·rename_i e2
       rw [e2] at h4
       omega
      ·exact h4
theorem pass_still {bs:List Bd} {s:RL} (h:∀ b ∈ bs,opens FAR s.r b=false):∀ k,k≤bs.length→(s.pass FAR bs k).r=s.r
 | 0,_=>rfl
 | k +1,hk=>by
   have e:=pass_still h k (by omega)
   simp only [RL.pass,RL.step]
   rw [e,h _ (getD_mem (by omega))]
   simpa using e
theorem least_of (f:Int→Int):∀ l:List Int,l≠[]→∃ v ∈ l,∀ u ∈ l,f v≤f u
 | [],h=>absurd rfl h
 | [a],_=>⟨a,by simp,fun u hu=>by simp at hu;rw [hu];exact Int.le_refl _⟩
 | a::b::l,_=>by
   obtain ⟨v,hv,hm⟩:=least_of f (b::l) (by simp)
   by_cases h:f a≤f v
   ·refine ⟨a,by simp,fun u hu=>?_⟩
    rcases List.mem_cons.1 hu with rfl | hu
    ·exact Int.le_refl _
    ·exact Int.le_trans h (hm u hu)
   ·refine ⟨v,List.mem_cons_of_mem _ hv,fun u hu=>?_⟩
    rcases List.mem_cons.1 hu with rfl | hu
    ·omega
    ·exact hm u hu
theorem BF.settles {p:Int} {bs:List Bd} {y:Int→Int} (hp:p≤60) (hin:∀ b ∈ bs,b.inr) (hy:keepsB bs y) (hpt:Pts p bs) :
 ∀ (n:Nat) (U:List Int) (m:Int) (s:RL),U.length +1≤n→BF p bs y U U m s.r→s.r.length=60→(settle FAR bs n s).2=true
 | 0,_,_,_,h,_,_=>by omega
 | n +1,U,m,s,h,hb,hl=>by
   simp only [settle]
   by_cases e:(s.pass FAR bs bs.length).r=s.r
   ·rw [if_pos e]
   ·rw [if_neg e]
    by_cases hn:(U.filter fun j=>decide (0≤j∧j<p∧gi s.r j<FAR))=[]
    ·exfalso
     apply e
     refine pass_still (fun b hbm=>?_) _ (Nat.le_refl _)
     obtain ⟨q0,q1,q2,q3⟩:=hpt b hbm
     cases ho:opens FAR s.r b with
     | false=>rfl
     | true =>
       exfalso
       obtain ⟨o1,o2⟩:=opens_iff.1 ho
       by_cases hU:b.frm ∈ U
       ·have:=List.filter_eq_nil_iff.1 hn _ hU
        simp at this
        omega
       ·have:=hb.fin b hbm hU
        omega
    ·obtain ⟨v,hv,hmin⟩:=least_of (fun j=>gi s.r j - y j) _ hn
     simp only [List.mem_filter,decide_eq_true_eq] at hv hmin
     obtain ⟨hvU,v0,v1,vf⟩:=hv
     have hmv:=hb.up v v0 v1 hvU vf
     have hB:BF p bs y (U.filter (·≠v)) U (gi s.r v - y v) s.r:=by
      refine ⟨fun j hj=>(List.mem_filter.1 hj).1,fun j j0 j1 hj=>?_,fun j j0 j1 hj hf=>?_,fun j j0 j1 hj hj2=>?_,hb.fin⟩
      ·by_cases ev:j=v
       ·subst ev
        exact ⟨vf,Int.le_refl _⟩
       ·have:=hb.low j j0 j1 (fun hU=>hj (List.mem_filter.2 ⟨hU,by simpa using ev⟩))
        exact ⟨this.1,by omega⟩
      ·exact hmin j ⟨(List.mem_filter.1 hj).1,j0,j1,hf⟩
      ·have:j=v:=by
        apply Classical.byContradiction
        intro ev
        exact hj2 (List.mem_filter.2 ⟨hj,by simpa using ev⟩)
       rw [this]
     obtain ⟨h1,h2⟩:=hB.pass hl hp hin hy hpt bs.length (Nat.le_refl _)
     have hlt:(U.filter (·≠v)).length<U.length:=by
      apply Nat.lt_of_le_of_ne (List.length_filter_le _ _)
      intro e2
      have:=List.filter_eq_self.1 (List.filter_sublist.eq_of_length e2) v hvU
      simp at this
     refine BF.settles hp hin hy hpt n _ _ _ (by omega) ⟨fun j hj=>hj,h1.low,h1.up,fun j _ _ a b=>absurd a b,fun b hbm hf=>?_⟩ (RL.pass_le hl hin bs.length (Nat.le_refl _)).1
     obtain ⟨i,hi,rfl⟩:=List.getElem_of_mem hbm
     have:=h2 i hi (by rw [List.getD_eq_getElem?_getD,List.getElem?_eq_getElem hi];exact hf)
     rwa [List.getD_eq_getElem?_getD,List.getElem?_eq_getElem hi] at this

/-- Where there is a solution, the sums from a point settle. -/
theorem gfrom_done {p:Int} {bs:List Bd} (hs:Sys p bs) (hpt:Pts p bs) (hok:okB p bs=true) {a:Int} (h0:0≤a) (h1:a<p):(gfrom p bs a).2=true:=by
 have hp:=hs.p2
 have hy:=okB_keeps hs hok
 refine BF.settles hp hs.inr hy hpt (p +1).toNat ((List.range p.toNat).map fun (i:Nat)=>(i:Int)) (-(gi (gsol p bs).1.r a)) _ Zj ⟨fun j hj=>hj,fun j j0 j1 hj=>?_,fun j j0 j1 hj hf=>?_,fun j _ _ a b=>absurd a b,fun b hb hf=>?_⟩ (far0_len a)
 ·exact absurd (List.mem_map.2 ⟨j.toNat,by simp;omega,by simp;omega⟩) hj
 ·have e:=gi_far0 (a:=a) (j:=j) h0 (by omega) j0 (by omega)
  simp only at hf ⊢
  rw [e] at hf ⊢
  by_cases ej:j=a
  ·rw [if_pos ej,ej];omega
  ·rw [if_neg ej] at hf;omega
 ·obtain ⟨q0,q1,_⟩:=hpt b hb
  exact absurd (List.mem_map.2 ⟨b.frm.toNat,by simp;omega,by simp;omega⟩) hf
def cnt (r:List Int):Nat:=r.countP fun v=>decide (v<FAR)
structure Nar (r:List Int):Prop where
 len:r.length=60
 up:∀ j:Int,0≤j→j<60→gi r j=FAR∨(gi r j<FAR∧gi r j≤((cnt r:Int) - 1) * 1000000)
def Same9 (p:Int) (x r:List Int):Prop:=x.length=p.toNat∧∀ j:Int,0≤j→j<p→(gi r j<FAR∧gi x j=gi r j)∨(gi r j=FAR∧gi x j=1000000000)
theorem gi_get {l:List Int} {j:Int} (h:j.toNat<l.length):gi l j=l[j.toNat]:=by
 simp [gi,List.getD_eq_getElem?_getD,List.getElem?_eq_getElem h]
theorem cnt_le {r:List Int} (h:r.length=60):cnt r≤60:=by
 have:=List.countP_le_length (p:=fun v=>decide (v<FAR)) (l:=r)
 unfold cnt
 omega
theorem cnt_pos {r:List Int} (h:r.length=60) {j:Int} (j0:0≤j) (j1:j<60) (hj:gi r j<FAR):1≤cnt r:=by
 unfold cnt
 refine List.countP_pos_iff.2 ⟨r[j.toNat]'(by omega),List.getElem_mem _,?_⟩
 rw [← gi_get (l:=r) (j:=j) (by omega)]
 simpa using hj
theorem cnt_set {r:List Int} (h:r.length=60) {j v:Int} (j0:0≤j) (j1:j<60) (hv:v<FAR):cnt (r.set j.toNat v)=cnt r +(if gi r j<FAR then 0 else 1):=by
 unfold cnt
 have hjl:j.toNat<r.length:=by omega
 rw [List.countP_set hjl]
 rw [gi_get hjl]
 have h1:1≤List.countP (fun v=>decide (v<FAR)) r∨¬ r[j.toNat]<FAR:=by
  by_cases hh:r[j.toNat]<FAR
  ·exact .inl (List.countP_pos_iff.2 ⟨_,List.getElem_mem hjl,by simpa using hh⟩)
  ·exact .inr hh
 by_cases hh:r[j.toNat]<FAR
 ·simp [hv,hh]
  rcases h1 with h1 | h1
  ·omega
  ·exact absurd hh h1
 ·simp [hv,hh]
theorem Nar.step {r:List Int} (h:Nar r) {b:Bd} (hb:b.inr) (hm:b.most≤1000000) (ho:opens FAR r b=true):Nar (r.set b.tow.toNat (gi r b.frm +b.most))∧gi r b.frm +b.most<100000000:=by
 obtain ⟨o1,o2⟩:=opens_iff.1 ho
 have hl:=h.len
 have hc1:=cnt_pos hl hb.f0 hb.f1 o1
 have hc2:=cnt_le hl
 have hf:gi r b.frm≤((cnt r:Int) - 1) * 1000000:=by
  rcases h.up _ hb.f0 hb.f1 with e | e
  ·omega
  ·exact e.2
 have hv:gi r b.frm +b.most≤(cnt r:Int) * 1000000:=by omega
 have hF:FAR=1099511627776:=rfl
 have hvF:gi r b.frm +b.most<FAR:=by omega
 have hC:=cnt_set hl hb.t0 hb.t1 hvF
 refine ⟨⟨by simpa using hl,fun j j0 j1=>?_⟩,by omega⟩
 rw [gi_set hb.t0 (by have:=hb.t1;have:=hb.t0;omega) j0,hC]
 have ht:=h.up _ hb.t0 hb.t1
 have hj:=h.up j j0 j1
 by_cases ht2:gi r b.tow<FAR
 ·rw [if_pos ht2]
  by_cases e:j=b.tow
  ·rw [if_pos e]
   right
   rcases ht with ht | ht
   ·omega
   ·exact ⟨hvF,by simp;omega⟩
  ·rw [if_neg e]
   simpa using hj
 ·rw [if_neg ht2]
  by_cases e:j=b.tow
  ·rw [if_pos e]
   right
   exact ⟨hvF,by omega⟩
  ·rw [if_neg e]
   rcases hj with hj | hj
   ·exact .inl hj
   ·exact .inr ⟨hj.1,by omega⟩
theorem same9_step {p:Int} {x r:List Int} (h:Nar r) (hx:Same9 p x r) {b:Bd} (hb:b.inr) (hm:b.most≤1000000) (hp:p≤60) (hpt:0≤b.frm∧b.frm<p∧0≤b.tow∧b.tow<p) :
 opens 1000000000 x b=opens FAR r b∧(opens FAR r b=true→gi x b.frm=gi r b.frm∧Same9 p (x.set b.tow.toNat (gi x b.frm +b.most)) (r.set b.tow.toNat (gi r b.frm +b.most))):=by
 obtain ⟨q0,q1,q2,q3⟩:=hpt
 have hF:FAR=1099511627776:=rfl
 have hc2:=cnt_le h.len
 have xf:=hx.2 _ q0 q1
 have xt:=hx.2 _ q2 q3
 have uf:=h.up _ q0 (by omega)
 have ut:=h.up _ q2 (by omega)
 have e:opens 1000000000 x b=opens FAR r b:=by
  unfold opens
  rw [Bool.eq_iff_iff]
  simp only [Bool.and_eq_true,decide_eq_true_eq]
  omega
 refine ⟨e,fun ho=>?_⟩
 obtain ⟨o1,o2⟩:=opens_iff.1 ho
 have ef:gi x b.frm=gi r b.frm:=by omega
 refine ⟨ef,by simpa using hx.1,fun j j0 j1=>?_⟩
 have hxl:=hx.1
 rw [gi_set q2 (by have:=h.len;omega) j0,gi_set q2 (by omega) j0,ef]
 by_cases ej:j=b.tow
 ·rw [if_pos ej,if_pos ej]
  have:=(h.step hb hm ho).2
  omega
 ·rw [if_neg ej,if_neg ej]
  exact hx.2 j j0 j1
theorem same9_pass {p:Int} {bs:List Bd} {s:RL} {x:List Int} (hp:p≤60) (hin:∀ b ∈ bs,b.inr) (hmil:∀ b ∈ bs,b.most≤1000000) (hpt:Pts p bs) (h:Nar s.r) (hx:Same9 p x s.r) :
 ∀ k,k≤bs.length→Nar (s.pass FAR bs k).r∧Same9 p (rpass 1000000000 bs x k).1 (s.pass FAR bs k).r∧((rpass 1000000000 bs x k).2=true→(s.pass FAR bs k).r=s.r)∧((rpass 1000000000 bs x k).2=false→∃ j:Int,0≤j∧j<60∧gi (s.pass FAR bs k).r j<gi s.r j)
 | 0,_=>⟨h,hx,fun _=>rfl,fun h=>by simp [rpass] at h⟩
 | k +1,hk=>by
   obtain ⟨h1,h2,h3,h4⟩:=same9_pass hp hin hmil hpt h hx k (by omega)
   have hm:=getD_mem (bs:=bs) (k:=k) (by omega)
   have hb:=hin _ hm
   obtain ⟨e1,e2⟩:=same9_step h1 h2 hb (hmil _ hm) hp (hpt _ hm)
   simp only [rpass,RL.pass,RL.step]
   rw [e1]
   cases ho:opens FAR (s.pass FAR bs k).r (bs.getD k default) with
   | false =>
     simp only [Bool.false_eq_true,if_false]
     exact ⟨h1,h2,h3,h4⟩
   | true =>
     simp only [if_true,RL.upd]
     refine ⟨(h1.step hb (hmil _ hm) ho).1,(e2 ho).2,fun h=>by simp at h,fun _=>⟨(bs.getD k default).tow,hb.t0,hb.t1,?_⟩⟩
     obtain ⟨o1,o2⟩:=opens_iff.1 ho
     have a2:=(RL.pass_le h.len hin k (by omega)).2 _ hb.t0 hb.t1
     rw [gi_set hb.t0 (by have:=h1.len;have:=hb.t0;have:=hb.t1;omega) hb.t0,if_pos rfl]
     omega
theorem same9_settle {p:Int} {bs:List Bd} (hp:p≤60) (hin:∀ b ∈ bs,b.inr) (hmil:∀ b ∈ bs,b.most≤1000000) (hpt:Pts p bs) :
 ∀ (n:Nat) (s:RL) (x:List Int),Nar s.r→Same9 p x s.r→(rsettle 1000000000 bs n x).2=(settle FAR bs n s).2∧((settle FAR bs n s).2=true→Nar (settle FAR bs n s).1.r∧Same9 p (rsettle 1000000000 bs n x).1 (settle FAR bs n s).1.r)∧((settle FAR bs n s).2=false→(rsettle 1000000000 bs n x).1=[])
 | 0,s,x,_,_=>⟨rfl,fun h=>by simp [settle] at h,fun _=>rfl⟩
 | n +1,s,x,h,hx=>by
   obtain ⟨h1,h2,h3,h4⟩:=same9_pass hp hin hmil hpt h hx bs.length (Nat.le_refl _)
   simp only [rsettle,settle]
   cases hf:(rpass 1000000000 bs x bs.length).2 with
   | true =>
     rw [if_pos rfl,if_pos (h3 hf)]
     exact ⟨rfl,fun _=>⟨h1,h2⟩,fun h=>by simp at h⟩
   | false =>
     have hne:¬ (s.pass FAR bs bs.length).r=s.r:=fun e=>by
      obtain ⟨j,_,_,h⟩:=h4 hf
      rw [e] at h
      exact absurd h (Int.lt_irrefl _)
     rw [if_neg (by simp),if_neg hne]
     exact same9_settle hp hin hmil hpt n _ _ h1 h2
def begin9 (p a:Int):List Int:=(List.replicate p.toNat 1000000000).set a.toNat 0
theorem cnt_far0 {a:Int} (h0:0≤a) (h1:a<60):cnt (far0 a)=1:=by
 have h:=cnt_set (r:=fars) (j:=a) (v:=0) fars_len h0 h1 (by unfold FAR;omega)
 have e:cnt fars=0:=by unfold cnt fars;rw [List.countP_replicate];simp
 have e2:¬ gi fars a<FAR:=by rw [gi_get Z3p];simp only [fars,List.getElem_replicate];exact Int.lt_irrefl _
 rw [e,if_neg e2] at h
 simpa [far0] using h
theorem nar_far0 {a:Int} (h0:0≤a) (h1:a<60):Nar (far0 a):=by
 refine ⟨far0_len a,fun j j0 j1=>?_⟩
 rw [gi_far0 h0 h1 j0 j1,cnt_far0 h0 h1]
 split
 ·right;unfold FAR;omega
 ·left;rfl
theorem same9_far0 {p a:Int} (h0:0≤a) (h1:a<p) (hp:p≤60):Same9 p (begin9 p a) (far0 a):=by
 refine ⟨by simp [begin9],fun j j0 j1=>?_⟩
 rw [gi_far0 h0 (by omega) j0 (by omega)]
 unfold begin9
 rw [gi_set h0 Zj j0]
 by_cases e:j=a
 ·rw [if_pos e,if_pos e];left;unfold FAR;omega
 ·rw [if_neg e,if_neg e]
  right
  refine ⟨rfl,?_⟩
  rw [gi_get Zj]
  simp

/-- What the reference's sums from a point are, where there is a solution. -/
theorem rfrom_gfrom {p:Int} {bs:List Bd} (h:chk p bs=0) (hok:okB p bs=true) {a:Int} (h0:0≤a) (h1:a<p) :
 Same9 p (rsettle 1000000000 bs (p +1).toNat (begin9 p a)).1 (gfrom p bs a).1.r∧Nar (gfrom p bs a).1.r:=by
 have hs:=Sys.of_chk h
 have hpt:=Pts.of_chk h
 have hp:=hs.p2
 have hmil:∀ b ∈ bs,b.most≤1000000:=by
  exact Z16
 have hS:=same9_settle hp hs.inr hmil hpt (p +1).toNat ⟨far0 a,List.replicate 60 (-1),0⟩ (begin9 p a) (nar_far0 h0 (by omega)) (same9_far0 h0 h1 hp)
 have hd:=gfrom_done hs hpt hok h0 h1
 have:=hS.2.1 hd
 exact ⟨this.2,this.1⟩
theorem chk_mil {p:Int} {bs:List Bd} (h:chk p bs=0):∀ b ∈ bs, -1000000≤b.most∧b.most≤1000000:=by
 exact Z16
end Go.Proofs.YtelkcohhagblaaaGreat
