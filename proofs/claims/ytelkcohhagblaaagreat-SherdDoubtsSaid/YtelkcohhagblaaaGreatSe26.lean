/- What the functions answer, for every input. -/
import Derived.Test.YtelkcohhagblaaaGreatSe25
import Derived.Test.YtelkcohhagblaaaGreatSe08
import Derived.Test.YtelkcohhagblaaaGreatSe24
import Derived.Test.YtelkcohhagblaaaGreatSe07
set_option linter.unusedSimpArgs false
set_option linter.unusedVariables false
set_option linter.unnecessarySimpa false
namespace Go.Proofs.YtelkcohhagblaaaGreat
theorem pass_inv {bs:List Bd} {Q:List Int→Prop} (hin:∀ b ∈ bs,b.inr) (hQ:∀ r b,r.length=60→b ∈ bs→Q r→opens FAR r b=true→Q (r.set b.tow.toNat (gi r b.frm +b.most))) {s:RL} (hl:s.r.length=60) (h:Q s.r) :
 ∀ k,k≤bs.length→Q (s.pass FAR bs k).r
 | 0,_=>h
 | k +1,hk=>by
   have h1:=pass_inv hin hQ hl h k (by omega)
   have hlen:=(RL.pass_le hl hin k (by omega)).1
   simp only [RL.pass,RL.step]
   cases ho:opens FAR (s.pass FAR bs k).r (bs.getD k default) with
   | false=>simpa using h1
   | true =>
     simp only [if_true,RL.upd]
     exact hQ _ _ hlen (getD_mem (by omega)) h1 ho
theorem settle_inv {bs:List Bd} {Q:List Int→Prop} (hin:∀ b ∈ bs,b.inr) (hQ:∀ r b,r.length=60→b ∈ bs→Q r→opens FAR r b=true→Q (r.set b.tow.toNat (gi r b.frm +b.most))) :
 ∀ (n:Nat) (s:RL),s.r.length=60→Q s.r→Q (settle FAR bs n s).1.r
 | 0,_,_,h=>h
 | n +1,s,hl,h=>by
   have h1:=pass_inv hin hQ hl h bs.length (Nat.le_refl _)
   simp only [settle]
   split
   ·exact h1
   ·exact settle_inv hin hQ n _ (RL.pass_le hl hin bs.length (Nat.le_refl _)).1 h1

/-- Where the sums from a point have settled, no bound is open. -/
theorem gfrom_still {p:Int} {bs:List Bd} (h:chk p bs=0) (hok:okB p bs=true) {a:Int} (h0:0≤a) (h1:a<p) {b:Bd} (hb:b ∈ bs) (hf:gD p bs a b.frm<FAR) :
 gD p bs a b.tow≤gD p bs a b.frm +b.most∧gD p bs a b.tow<FAR:=by
 have hs:=Sys.of_chk h
 have hp:=hs.p2
 have hst:=settle_still hs.inr (p +1).toNat ⟨far0 a,List.replicate 60 (-1),0⟩ (far0_len a) (gfrom_done hs (Pts.of_chk h) hok h0 h1) b hb
 have hN:=(rfrom_gfrom h hok h0 h1).2
 have hbi:=hs.inr b hb
 have hu:=hN.up b.frm hbi.f0 hbi.f1
 have hc:=cnt_le hN.len
 have hm:=(chk_mil h b hb).2
 have hF:FAR=1099511627776:=rfl
 have e1:gi (gfrom p bs a).1.r b.frm=gD p bs a b.frm:=rfl
 have e2:gi (gfrom p bs a).1.r b.tow=gD p bs a b.tow:=rfl
 have h3:¬ (gD p bs a b.frm<FAR∧gD p bs a b.frm +b.most<gD p bs a b.tow):=fun h3=>by
  have:=opens_iff.2 h3
  exact absurd (hst.symm.trans this) (by simp)
 omega
theorem gD_tri {p:Int} {bs:List Bd} (h:chk p bs=0) (hok:okB p bs=true) {a b c:Int} (a0:0≤a) (a1:a<p) (b0:0≤b) (b1:b<p) (c0:0≤c) (c1:c<p) (hab:gD p bs a b<FAR) (hbc:gD p bs b c<FAR) :
 gD p bs a c<FAR∧gD p bs a c≤gD p bs a b +gD p bs b c:=by
 have hs:=Sys.of_chk h
 have hp:=hs.p2
 have key:=settle_inv (Q:=fun r=>∀ j:Int,0≤j→j<60→gi r j<FAR→gD p bs a j<FAR∧gD p bs a j≤gD p bs a b +gi r j) hs.inr (fun r x hl hx hq ho j j0 j1 hj=>by
  obtain ⟨o1,o2⟩:=opens_iff.1 ho
  have hxi:=hs.inr x hx
  rw [gi_set hxi.t0 (by have:=hxi.t0;have:=hxi.t1;omega) j0] at hj ⊢
  by_cases e:j=x.tow
  ·rw [if_pos e] at hj ⊢
   subst e
   have h1:=hq x.frm hxi.f0 hxi.f1 o1
   have h2:=gfrom_still h hok a0 a1 hx h1.1
   exact ⟨h2.2,by omega⟩
  ·rw [if_neg e] at hj ⊢
   exact hq j j0 j1 hj) (p +1).toNat ⟨far0 b,List.replicate 60 (-1),0⟩ (far0_len b) (fun j j0 j1 hj=>by
  have e:=gi_far0 (a:=b) (j:=j) b0 (by omega) j0 j1
  simp only at hj ⊢
  rw [e] at hj ⊢
  by_cases ej:j=b
  ·rw [if_pos ej,ej]
   exact ⟨hab,by omega⟩
  ·rw [if_neg ej] at hj
   exact absurd hj (Int.lt_irrefl _))
 exact key c c0 (by omega) hbc
theorem chk_sub {p:Int} {bs cs:List Bd} (h:chk p bs=0) (h1:∀ b ∈ cs,b ∈ bs) (h2:cs.length≤bs.length):chk p cs=0:=by
 unfold chk at h ⊢
 split at h
 ·omega
 ·split at h
  ·omega
  ·split at h
   ·rename_i a1 a2 a3
    rw [if_neg (by omega),if_neg a2,if_pos]
    exact List.all_eq_true.2 fun b hb=>List.all_eq_true.1 a3 b (h1 b hb)
   ·omega
/-- A part of a list of bounds. -/
def Sub (cs bs:List Bd):Prop:=(∀ b ∈ cs,b ∈ bs)∧cs.length≤bs.length
theorem Sub.filter {bs:List Bd} (f:Bd→Bool):Sub (bs.filter f) bs:=⟨fun _ h=>(List.mem_filter.1 h).1,List.length_filter_le _ _⟩
theorem Sub.refl (bs:List Bd):Sub bs bs:=⟨fun _ h=>h,Nat.le_refl _⟩
theorem Sub.trans {a b c:List Bd} (h:Sub a b) (k:Sub b c):Sub a c:=⟨fun x hx=>k.1 x (h.1 x hx),Nat.le_trans h.2 k.2⟩
theorem Sub.chk {p:Int} {bs cs:List Bd} (h:Sub cs bs) (hc:chk p bs=0):chk p cs=0:=chk_sub hc h.1 h.2
theorem chk_len {p:Int} {bs:List Bd} (h:chk p bs=0):bs.length≤400:=by unfold chk at h;split at h <;> omega
/-- a comes back to itself below 0 with m bounds. -/
def cyc (bs:List Bd) (a m:Nat):Prop:=gi (wS bs a m) a<0

/-- The fewest bounds of a circle below 0, up to A points: 0 if there is none. -/
def Few (bs:List Bd) (P A best:Nat):Prop:=(best=0∧∀ a m,a<A→1≤m→m≤P→¬ cyc bs a m)∨(1≤best∧best≤P∧(∃ a,a<A∧cyc bs a best)∧∀ a m,a<A→1≤m→m<best→¬ cyc bs a m)
theorem Few.uniq {bs:List Bd} {P:Nat} {b c:Nat} (h:Few bs P P b) (k:Few bs P P c):b=c:=by
 rcases h with ⟨rfl,h⟩ | ⟨h1,h2,⟨a,ha,h3⟩,h4⟩
 ·rcases k with ⟨rfl,_⟩ | ⟨k1,k2,⟨a,ha,k3⟩,_⟩
  ·rfl
  ·exact absurd k3 (h a c ha k1 k2)
 ·rcases k with ⟨rfl,k⟩ | ⟨k1,k2,⟨a',ha',k3⟩,k4⟩
  ·exact absurd h3 (k a b ha h1 h2)
  ·have c1:¬ b<c:=fun hl=>k4 a b ha h1 hl h3
   have c2:¬ c<b:=fun hl=>h4 a' c ha' k1 hl k3
   omega
/-- The point before, by the last bound. -/
def prd (bs:List Bd) (l:List Int) (j:Int):Int:=(bdI bs (gi l j)).frm
/-- From j the last bounds lead back to a in n steps. -/
def Rch (bs:List Bd) (l:List Int) (a:Int):Nat→Int→Prop
 | 0,j=>j=a
 | n +1,j=>j≠a∧Rch bs l a n (prd bs l j)
/-- The last bounds on the way back. -/
def chn (bs:List Bd) (l:List Int):Nat→Int→List Int
 | 0,_=>[]
 | n +1,j=>gi l j::chn bs l n (prd bs l j)
theorem Rch.uniq {bs:List Bd} {l:List Int} {a:Int}:∀ {n m:Nat} {j:Int},Rch bs l a n j→Rch bs l a m j→n=m
 | 0,0,_,_,_=>rfl
 | 0,m +1,_,h,k=>absurd h k.1
 | n +1,0,_,h,k=>absurd k h.1
 | n +1,m +1,_,h,k=>by rw [Rch.uniq h.2 k.2]

/-- What holds of sums and last bounds, where y keeps all bounds. -/
structure PI (bs:List Bd) (y:Int→Int) (a:Int) (r l:List Int):Prop where
 low:∀ j:Int,0≤j→j<60→gi r j<FAR→y j - y a≤gi r j
 zero:gi r a=0
 lead:∀ j:Int,0≤j→j<60→gi r j<FAR→j≠a→(0≤gi l j∧gi l j<bs.length)∧(bdI bs (gi l j)).tow=j∧gi r (prd bs l j)<FAR∧gi r (prd bs l j) +(bdI bs (gi l j)).most≤gi r j
 reach:∀ j:Int,0≤j→j<60→gi r j<FAR→∃ n,Rch bs l a n j
theorem PI.step {bs:List Bd} {y:Int→Int} {a:Int} (hin:∀ b ∈ bs,b.inr) (hy:keepsB bs y) {r l:List Int} {k:Nat} (hr:r.length=60) (hl:l.length=60) (hk:k<bs.length) (a0:0≤a) (a1:a<60) (h:PI bs y a r l) (ho:opens FAR r (bs.getD k default)=true) :
 PI bs y a (r.set (bs.getD k default).tow.toNat (gi r (bs.getD k default).frm +(bs.getD k default).most)) (l.set (bs.getD k default).tow.toNat k):=by
 have hb:=getD_mem hk
 have ek:bdI bs (k:Int)=bs.getD k default:=by unfold bdI;rw [Int.toNat_natCast]
 generalize bs.getD k default=b at *
 obtain ⟨f0,f1,t0,t1,_,_⟩:=hin b hb
 have hyb:=hy b hb
 obtain ⟨o1,o2⟩:=opens_FAR.1 ho
 have hF:FAR=1099511627776:=rfl
 have hlu:=h.low b.frm f0 f1 (by omega)
 have hva:b.tow≠a:=fun e=>by
  have h0:=h.zero
  rw [← e] at h0
  rw [e] at hyb
  omega
 have huv:b.frm≠b.tow:=fun e=>by
  rw [e] at hyb o2;omega
 have er:∀ j:Int,0≤j→gi (r.set b.tow.toNat (gi r b.frm +b.most)) j=if j=b.tow then gi r b.frm +b.most else gi r j:=fun j j0=>gi_set t0 (by omega) j0
 have el:∀ j:Int,0≤j→gi (l.set b.tow.toNat (k:Int)) j=if j=b.tow then (k:Int) else gi l j:=fun j j0=>gi_set t0 (by omega) j0
 have ep:∀ j:Int,0≤j→prd bs (l.set b.tow.toNat (k:Int)) j=if j=b.tow then b.frm else prd bs l j:=fun j j0=>by
  unfold prd
  rw [el j j0]
  split
  ·rw [ek]
  ·rfl
 have hle:∀ j:Int,0≤j→gi (r.set b.tow.toNat (gi r b.frm +b.most)) j≤gi r j:=fun j j0=>by
  rw [er j j0]
  split
  ·rename_i e;subst e;omega
  ·omega
 have hfin:∀ j:Int,0≤j→j<60→gi (r.set b.tow.toNat (gi r b.frm +b.most)) j<FAR→j≠b.tow→gi r j<FAR:=fun j j0 j1 hj e=>by rw [er j j0,if_neg e] at hj;exact hj
 have hpr:∀ j:Int,0≤j→j<60→gi r j<FAR→j≠a→0≤prd bs l j∧prd bs l j<60∧gi r (prd bs l j)<FAR∧gi r (prd bs l j) - y (prd bs l j)≤gi r j - y j:=fun j j0 j1 hj e=>by
  obtain ⟨h1,h2,h3,h4⟩:=h.lead j j0 j1 hj e
  have hm:=bdI_mem h1
  have hmi:=hin _ hm
  have hmy:=hy _ hm
  rw [h2] at hmy
  have e2:(bdI bs (gi l j)).frm=prd bs l j:=rfl
  rw [e2] at hmy
  exact ⟨hmi.f0,hmi.f1,h3,by omega⟩
 have key1:∀ (n:Nat) (j:Int),Rch bs l a n j→0≤j→j<60→gi r j<FAR→gi r j - y j≤gi r b.frm - y b.frm→Rch bs (l.set b.tow.toNat (k:Int)) a n j:=by
  intro n
  induction n with
  | zero=>intro j hj _ _ _ _;exact hj
  | succ n ih =>
    intro j hj j0 j1 hf hp
    obtain ⟨p0,p1,p2,p3⟩:=hpr j j0 j1 hf hj.1
    have hjv:j≠b.tow:=fun e=>by subst e;omega
    refine ⟨hj.1,?_⟩
    rw [ep j j0,if_neg hjv]
    exact ih _ hj.2 p0 p1 p2 (by omega)
 obtain ⟨nu,hnu⟩:=h.reach b.frm f0 f1 (by omega)
 have hru:=key1 nu b.frm hnu f0 f1 (by omega) (Int.le_refl _)
 have hrv:Rch bs (l.set b.tow.toNat (k:Int)) a (nu +1) b.tow:=⟨hva,by rw [ep _ t0,if_pos rfl];exact hru⟩
 have key2:∀ (n:Nat) (j:Int),Rch bs l a n j→0≤j→j<60→gi r j<FAR→∃ m,Rch bs (l.set b.tow.toNat (k:Int)) a m j:=by
  intro n
  induction n with
  | zero=>intro j hj _ _ _;exact ⟨0,hj⟩
  | succ n ih =>
    intro j hj j0 j1 hf
    by_cases e:j=b.tow
    ·subst e;exact ⟨_,hrv⟩
    ·obtain ⟨p0,p1,p2,_⟩:=hpr j j0 j1 hf hj.1
     obtain ⟨m,hm⟩:=ih _ hj.2 p0 p1 p2
     exact ⟨m +1,hj.1,by rw [ep j j0,if_neg e];exact hm⟩
 refine ⟨fun j j0 j1 hj=>?_,?_,fun j j0 j1 hj hja=>?_,fun j j0 j1 hj=>?_⟩
 ·by_cases e:j=b.tow
  ·rw [er j j0,if_pos e];subst e;omega
  ·rw [er j j0,if_neg e];exact h.low j j0 j1 (hfin j j0 j1 hj e)
 ·rw [er a a0,if_neg (fun e=>hva e.symm)];exact h.zero
 ·by_cases e:j=b.tow
  ·rw [ep j j0,el j j0,if_pos e,if_pos e,ek,er j j0,if_pos e,er _ f0,if_neg huv]
   exact ⟨⟨by omega,by omega⟩,e.symm,by omega,Int.le_refl _⟩
  ·have hf:=hfin j j0 j1 hj e
   obtain ⟨h1,h2,h3,h4⟩:=h.lead j j0 j1 hf hja
   obtain ⟨p0,p1,p2,_⟩:=hpr j j0 j1 hf hja
   have:=hle _ p0
   rw [ep j j0,el j j0,if_neg e,if_neg e,er j j0,if_neg e]
   exact ⟨h1,h2,by omega,by omega⟩
 ·by_cases e:j=b.tow
  ·subst e;exact ⟨_,hrv⟩
  ·obtain ⟨n,hn⟩:=h.reach j j0 j1 (hfin j j0 j1 hj e)
   exact key2 n j hn j0 j1 (hfin j j0 j1 hj e)

/-- The way back by the last bounds is a path with the least sum. -/
theorem PI.path {bs:List Bd} {y:Int→Int} {a:Int} {r l:List Int} (hin:∀ b ∈ bs,b.inr) (hst:∀ b ∈ bs,opens FAR r b=false) (h:PI bs y a r l):∀ (n:Nat) (j:Int),0≤j→j<60→gi r j<FAR→Rch bs l a n j →
 Wk bs a (chn bs l n j).reverse j∧wsum bs (chn bs l n j).reverse=gi r j∧(∀ x ∈ tows bs (chn bs l n j),∃ m,1≤m∧m≤n∧Rch bs l a m x)∧(tows bs (chn bs l n j)).Nodup∧(∀ x ∈ frms bs (chn bs l n j),∃ m,m<n∧Rch bs l a m x)∧(frms bs (chn bs l n j)).Nodup
 | 0,j,_,_,_,hR=>by
   cases hR
   exact ⟨rfl,h.zero.symm,by simp [chn,tows],by simp [chn,tows],by simp [chn,frms],by simp [chn,frms]⟩
 | n +1,j,j0,j1,hf,hR=>by
   obtain ⟨h1,h2,h3,h4⟩:=h.lead j j0 j1 hf hR.1
   have hm:=bdI_mem h1
   have hmi:=hin _ hm
   have hso:=hst _ hm
   have hle:gi r j≤gi r (prd bs l j) +(bdI bs (gi l j)).most:=by
    apply Classical.byContradiction
    intro hlt
    have:opens FAR r (bdI bs (gi l j))=true:=opens_FAR.2 ⟨h3,by rw [h2];show gi r (prd bs l j) +_<_;omega⟩
    rw [hso] at this;cases this
   obtain ⟨k1,k2,k3,k4,k5,k6⟩:=PI.path hin hst h n (prd bs l j) hmi.f0 hmi.f1 h3 hR.2
   have et:tows bs (chn bs l (n +1) j)=j::tows bs (chn bs l n (prd bs l j)):=by simp only [chn,tows,List.map_cons,h2]
   have ef:frms bs (chn bs l (n +1) j)=prd bs l j::frms bs (chn bs l n (prd bs l j)):=rfl
   rw [et,ef]
   refine ⟨?_,?_,?_,?_,?_,?_⟩
   ·simp only [chn,List.reverse_cons]
    exact Wk.append.2 ⟨_,k1,h1,rfl,h2⟩
   ·simp only [chn,List.reverse_cons]
    rw [wsum_append,k2]
    simp only [wsum]
    omega
   ·intro x hx
    rcases List.mem_cons.1 hx with rfl | hx
    ·exact ⟨n +1,by omega,by omega,hR⟩
    ·obtain ⟨m,m1,m2,m3⟩:=k3 x hx
     exact ⟨m,m1,by omega,m3⟩
   ·refine List.nodup_cons.2 ⟨fun hx=>?_,k4⟩
    obtain ⟨m,m1,m2,m3⟩:=k3 _ hx
    have:=m3.uniq hR
    omega
   ·intro x hx
    rcases List.mem_cons.1 hx with rfl | hx
    ·exact ⟨n,by omega,hR.2⟩
    ·obtain ⟨m,m1,m2⟩:=k5 x hx
     exact ⟨m,by omega,m2⟩
   ·refine List.nodup_cons.2 ⟨fun hx=>?_,k6⟩
    obtain ⟨m,m1,m2⟩:=k5 _ hx
    have:=m2.uniq hR.2
    omega
theorem both_mk {p x y:Int} (x0:0≤x) (x1:x<p) (y0:0≤y) (y1:y<p):both p x y=true:=by
 simp [both,inP,withinB] <;> omega
open Go
theorem askE_in {p x y:Int} {bs:List Bd} (hc:chk p bs=0) (hok:okB p bs=true) (x0:0≤x) (x1:x<p) (y0:0≤y) (y1:y<p):askE p bs x y=0:=by
 unfold askE
 rw [if_pos hc,if_pos (both_mk x0 x1 y0 y1),if_pos hok]
theorem side_mem {co:Int} {ms:List Itm} {i:Nat} (h:(i:Int)<co):(⟨(i:Int) +1,i, -1,0⟩:Bd) ∈ waysB co ms:=by
 unfold waysB sidesL
 rw [List.mem_append]
 exact .inl (List.mem_map.2 ⟨i,by rw [List.mem_range];omega,rfl⟩)
theorem bend_mem {co:Int} {ms:List Itm} {i:Nat} (h:(i:Int) +1<co):(⟨(i:Int),(i:Int) +1,179,0⟩:Bd) ∈ turnsB co ms∧(⟨(i:Int) +1,i,179,0⟩:Bd) ∈ turnsB co ms:=by
 unfold turnsB bendsL
 constructor <;> (rw [List.mem_append];refine .inl (List.mem_flatMap.2 ⟨i,by rw [List.mem_range];omega,by simp⟩))
/-- From a corner to one before it there is always a greatest way. -/
theorem ways_back {co:Int} {ms:List Itm} (hc:chk (co +1) (waysB co ms)=0) (hok:okB (co +1) (waysB co ms)=true) {i:Nat}:∀ d:Nat,(i:Int) +d≤co→gD (co +1) (waysB co ms) ((i:Int) +d) i<FAR
 | 0,h=>by
   exact Z2w
 | d +1,h=>by
   -- the first side back, then the rest
   have h0:=gD_self (Sys.of_chk hc) hok (a:=(i:Int) +(d +1:Nat)) (by omega) (by omega)
   have hs:=side_mem (co:=co) (ms:=ms) (i:=i +d) (by omega)
   have h1:=gfrom_still hc hok (a:=(i:Int) +(d +1:Nat)) (by omega) (by omega) hs (by
    show gD _ _ _ (((i +d:Nat):Int) +1)<FAR
    rw [show ((i +d:Nat):Int) +1=(i:Int) +(d +1:Nat) by omega,h0]
    unfold FAR;omega)
   have ih:=ways_back hc hok (i:=i) d (by omega)
   have h1:gD (co +1) (waysB co ms) ((i:Int) +(d +1:Nat)) ((i +d:Nat):Int)<FAR:=h1.2
   rw [show ((i +d:Nat):Int)=(i:Int) +d by omega] at h1
   exact (gD_tri hc hok (a:=(i:Int) +(d +1:Nat)) (b:=(i:Int) +d) (c:=(i:Int)) (by omega) (by omega) (by omega) (by omega) (by omega) (by omega) h1 ih).1
/-- Between any two sides there is a greatest turn. -/
theorem turns_far {co:Int} {ms:List Itm} (hc:chk co (turnsB co ms)=0) (hok:okB co (turnsB co ms)=true) {i:Nat}:∀ d:Nat,(i:Int) +d<co→gD co (turnsB co ms) ((i:Int) +d) i<FAR∧gD co (turnsB co ms) i ((i:Int) +d)<FAR
 | 0,h=>by
   exact Z2w
 | d +1,h=>by
   obtain ⟨ih1,ih2⟩:=turns_far hc hok (i:=i) d (by omega)
   obtain ⟨m1,m2⟩:=bend_mem (co:=co) (ms:=ms) (i:=i +d) (by omega)
   have e1:((i +d:Nat):Int)=(i:Int) +d:=by omega
   have e2:(i:Int) +d +1=(i:Int) +(d +1:Nat):=by omega
   constructor
   ·have h0:=gD_self (Sys.of_chk hc) hok (a:=(i:Int) +(d +1:Nat)) (by omega) (by omega)
    have h1:=(gfrom_still hc hok (a:=(i:Int) +(d +1:Nat)) (by omega) (by omega) m2 (by
     show gD _ _ _ (((i +d:Nat):Int) +1)<FAR
     rw [e1,e2,h0]
     unfold FAR;omega)).2
    have h1:gD co (turnsB co ms) ((i:Int) +(d +1:Nat)) ((i +d:Nat):Int)<FAR:=h1
    rw [e1] at h1
    exact (gD_tri hc hok (by omega) (by omega) (by omega) (by omega) (by omega) (by omega) h1 ih1).1
   ·have h1:=(gfrom_still hc hok (a:=(i:Int)) (by omega) (by omega) m1 (by
     show gD _ _ _ ((i +d:Nat):Int)<FAR
     rw [e1];exact ih2)).2
    have h1:gD co (turnsB co ms) (i:Int) (((i +d:Nat):Int) +1)<FAR:=h1
    rw [e1,e2] at h1
    exact h1
def lookE (l:List Itm) (day id:Int):Int:=if (chkI l).2=0 then (if (sherdO (countL l day) id).isSome then 0 else 20) else (chkI l).2
def lookS (l:List Itm) (day id:Int):Shd:=(sherdO (countL l day) id).getD Shd.zero
def wayP (l:List Itm) (day id:Int):Int:=(lookS l day id).co +1
def wayB (l:List Itm) (day id:Int):List Bd:=waysB (lookS l day id).co (keptL (countL l day) 2 id)
def turnP (l:List Itm) (day id:Int):Int:=(lookS l day id).co
def turnB (l:List Itm) (day id:Int):List Bd:=turnsB (lookS l day id).co (keptL (countL l day) 3 id)
theorem kept_len (s:List Itm) (k id:Int):(keptL s k id).length≤(s.filter fun x=>x.sh == id).length:=by
 unfold keptL
 have:(s.filter fun x=>x.kd == k && x.sh == id)=((s.filter fun x=>x.sh == id).filter fun x=>x.kd == k):=by
  rw [List.filter_filter]
 rw [this]
 exact List.length_filter_le _ _
structure LookOk (l:List Itm) (day id:Int):Prop where
 cat:CatOk l
 some:sherdO (countL l day) id=Option.some (lookS l day id)
 co:3≤(lookS l day id).co∧(lookS l day id).co≤16
 id1:1≤id
 sid:(lookS l day id).id=id
 wms:∀ x ∈ keptL (countL l day) 2 id,MsOk (lookS l day id).co x
 tms:∀ x ∈ keptL (countL l day) 3 id,MsOk ((lookS l day id).co - 1) x
 few:((countL l day).filter fun x=>x.sh == id).length≤150
theorem look_ok {l:List Itm} {day id:Int} (h:lookE l day id=0):LookOk l day id:=by
 unfold lookE at h
 split at h
 ·rename_i h0
  have hc:=chk_ok.1 h0
  split at h
  ·rename_i h1
   obtain ⟨y,hy⟩:=Option.isSome_iff_exists.1 h1
   have hl:lookS l day id=y:=by unfold lookS;rw [hy];rfl
   obtain ⟨k1,k2,k3,k4⟩:=kept_ok hc hy
   obtain ⟨z,hz,e1,e2,e3⟩:=sherdO_some hy
   have hid:=itemB_id (hc.item z (mem_count.1 hz).1)
   have hid1:1≤id:=by rw [← e1];exact hid.1
   rw [← hl] at k1 k2 k3 k4
   exact ⟨hc,by rw [hl];exact hy,k1,hid1,k2,k3,k4,kept_few hc day hid1⟩
  ·omega
 ·contradiction
theorem LookOk.ways {l:List Itm} {day id:Int} (h:LookOk l day id):chk (wayP l day id) (wayB l day id)=0 :=
 chk_ways h.co h.wms (Nat.le_trans (kept_len _ _ _) h.few)
theorem LookOk.turns {l:List Itm} {day id:Int} (h:LookOk l day id):chk (turnP l day id) (turnB l day id)=0 :=
 chk_turns h.co h.tms (Nat.le_trans (kept_len _ _ _) h.few)
def wayE (l:List Itm) (day id fr tw:Int):Int :=
 if lookE l day id=0 then (if 0≤fr∧fr<tw∧tw≤(lookS l day id).co then (if okB (wayP l day id) (wayB l day id) then 0 else 21) else 1) else lookE l day id
def wayK (l:List Itm) (day id fr tw:Int):Bool:=decide (wayE l day id fr tw=0) && grB (wayP l day id) (wayB l day id) fr tw
def wayLo (l:List Itm) (day id fr tw:Int):Int:=if wayK l day id fr tw then - grN (wayP l day id) (wayB l day id) tw fr else 0
def wayHi (l:List Itm) (day id fr tw:Int):Int:=if wayK l day id fr tw then grN (wayP l day id) (wayB l day id) fr tw else 0
def turnE (l:List Itm) (day id fr tw:Int):Int :=
 if lookE l day id=0 then (if 0≤fr∧fr<tw∧tw<(lookS l day id).co then (if okB (turnP l day id) (turnB l day id) then 0 else 21) else 1) else lookE l day id
def turnLo (l:List Itm) (day id fr tw:Int):Int:=if turnE l day id fr tw=0 then - grN (turnP l day id) (turnB l day id) tw fr else 0
def turnHi (l:List Itm) (day id fr tw:Int):Int:=if turnE l day id fr tw=0 then grN (turnP l day id) (turnB l day id) fr tw else 0
structure WayOk (l:List Itm) (day id fr tw:Int):Prop where
 look:LookOk l day id
 pf:0≤fr
 pl:fr<tw
 pt:tw≤(lookS l day id).co
 ok:okB (wayP l day id) (wayB l day id)=true
theorem WayOk.e {l:List Itm} {day id fr tw:Int} (hl:lookE l day id=0) (h1:0≤fr) (h2:fr<tw) (h3:tw≤(lookS l day id).co) (h4:okB (wayP l day id) (wayB l day id)=true):wayE l day id fr tw=0:=by
 unfold wayE
 rw [if_pos hl,if_pos ⟨h1,h2,h3⟩,if_pos h4]
theorem lookE_of {l:List Itm} {day id:Int} (h:LookOk l day id):lookE l day id=0:=by
 unfold lookE
 rw [if_pos (chk_ok.2 h.cat),h.some]
 rfl
/-- Back there is always a greatest way. -/
theorem WayOk.back {l:List Itm} {day id fr tw:Int} (h:WayOk l day id fr tw):gD (wayP l day id) (wayB l day id) tw fr<FAR:=by
 have:=ways_back h.look.ways h.ok (i:=fr.toNat) (tw - fr).toNat (by have:=h.pf;have:=h.pl;have:=h.pt;omega)
 exact Z33
structure TurnOk (l:List Itm) (day id fr tw:Int):Prop where
 look:LookOk l day id
 pf:0≤fr
 pl:fr<tw
 pt:tw<(lookS l day id).co
 ok:okB (turnP l day id) (turnB l day id)=true
theorem TurnOk.e {l:List Itm} {day id fr tw:Int} (h:TurnOk l day id fr tw):turnE l day id fr tw=0:=by
 unfold turnE
 rw [if_pos (lookE_of h.look),if_pos ⟨h.pf,h.pl,h.pt⟩,if_pos h.ok]
theorem TurnOk.far {l:List Itm} {day id fr tw:Int} (h:TurnOk l day id fr tw):gD (turnP l day id) (turnB l day id) tw fr<FAR∧gD (turnP l day id) (turnB l day id) fr tw<FAR:=by
 have:=turns_far h.look.turns h.ok (i:=fr.toNat) (tw - fr).toNat (by have:=h.pf;have:=h.pl;have:=h.pt;have hp:turnP l day id=(lookS l day id).co:=rfl;omega)
 exact Z33
/-- Colours, curves. -/
def colE (l:List Itm) (day id:Int):Int:=if lookE l day id=0 then (if (colL (keptL (countL l day) 4 id)).hi<(colL (keptL (countL l day) 4 id)).lo then 21 else 0) else lookE l day id
def colR (l:List Itm) (day id:Int):Spn:=if colE l day id=0 then colL (keptL (countL l day) 4 id) else ⟨0,0,0,0⟩
def curE (l:List Itm) (day id:Int):Int:=if lookE l day id=0 then (if comC (setsL (keptL (countL l day) 5 id))=[] then 21 else 0) else lookE l day id
def curR (l:List Itm) (day id:Int):List UInt8:=if curE l day id=0 then comC (setsL (keptL (countL l day) 5 id)) else []
end Go.Proofs.YtelkcohhagblaaaGreat
