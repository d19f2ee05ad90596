/-
  The law Changes, walked, and its statement.
-/
import Derived.Test.YtelkcohhagblaaaGreatSe45
import Derived.Test.YtelkcohhagblaaaGreatSe07
import Derived.Test.YtelkcohhagblaaaGreatSe08
import Derived.Test.YtelkcohhagblaaaGreatSe26
import Derived.Test.YtelkcohhagblaaaGreatSe27
import Derived.Test.YtelkcohhagblaaaGreatSe49
import Derived.Test.YtelkcohhagblaaaGreatSe50
import Derived.Test.YtelkcohhagblaaaGreatSe44
import Derived.Test.YtelkcohhagblaaaGreatSe54
import Derived.Test.YtelkcohhagblaaaGreatSe51
import Derived.Test.YtelkcohhagblaaaGreatSe43
import Derived.Test.YtelkcohhagblaaaGreatRows
import Derived.OpenShut
set_option linter.unusedSimpArgs false
set_option linter.unusedVariables false
set_option linter.unnecessarySimpa false
namespace Go.Proofs.YtelkcohhagblaaaGreat
theorem Za0 {P:Prop}(h:P:=by
 have hrw:=hD4.row
 obtain ⟨ra,rc,rfl,_⟩:=owns_slice hrw
 obtain ⟨k0,k1,k2,k3,k4,k5,kf,kl⟩:=cell6 hX4
 have hal4:=one_alloc w4 (Obj.cells #[.int .i64 x.id] 3)
 have hsl:=World.alloc_heap_new w4 (Obj.cells #[.int .i64 x.id] 3)
 have hD5:=hD4.up hBI.size hal4
 have hr5:=hD5.row
 have hz5:=hD5.low.size
 have hzWI:=hBI.size
 have hln:(D0 ++difK t s j).length≤2000:=by have:=Ht.out.len;rw [List.length_append];omega
 exact Z9n):P:=h
theorem Za1 {P:Prop}(h:P:=by
 have hrw:=hD4.row
 obtain ⟨ra,rc,rfl,_⟩:=owns_slice hrw
 obtain ⟨k0,k1,k2,k3,k4,k5,kf,kl⟩:=cell6 hX4
 have hal4:=one_alloc w4 (Obj.cells #[.int .i64 x.id] 3)
 have hsl:=World.alloc_heap_new w4 (Obj.cells #[.int .i64 x.id] 3)
 have hD5:=hD4.up hBI.size hal4
 have hr5:=hD5.row
 have hz5:=hD5.low.size
 have hzWI:=hBI.size
 have hln:(D0 ++difK s t j).length≤2000:=by have:=Hs.out.len;rw [List.length_append];omega
 exact Z9n):P:=h
theorem Za2 {P:Prop}(h:P:=by
 clear hc5 hf5
 go_step
 refine hc.mono ?_
 rintro e w6 ⟨v1,v2,rfl,hb6,h1,h2⟩
 exact hK _ _ w6 _ Zh (.of_below hb6) (SL.aw_in ⟨v1,v2,[],_,⟨rfl,rfl⟩,⟨_,_,⟨SL.row_base h1 hs5,rfl⟩,⟨SL.row_base h2 hs5,rfl⟩,rfl⟩,rfl⟩) (fun k hk=>by
  right
  simp only [List.nil_append,List.mem_append] at hk
  rcases hk with hk | hk
  ·exact SL.row_bounds h1 k hk
  ·exact SL.row_bounds h2 k hk)):P:=h
theorem Za3 {P:Prop}(h:P:=by
 obtain ⟨xa,xc,rfl,_⟩:=owns_slice r1
 obtain ⟨ya,yc,rfl,_⟩:=owns_slice r2
 obtain ⟨y0,y1,y2,yf,yl⟩:=cell3s hMh
 have R1:=Lib.hid r1
 have R2:=Lib.hid r2
 have HDD:=Lib.hid hd1
 have HF:=Lib.hid hF5
 have HE:=Lib.hid eF6
 clear hc5 hf5 h5 r1 r2 hd1 hF5 eF6
 go_step
 exact sto3_g e6 hMb hMh R1.out R2.out (by simpa using HF.out) HE.out HDD.out (fun w1 F h1 h2 h3=>hK w1 F h1 (SL.aw_in h2) h3)):P:=h
theorem Za4 {P:Prop}(h:P:=by
 refine SLG.ob_sp rfl rfl rfl fun us w' Fe hG hu hd Kx hK=>?_
 try dsimp only
 simp [SL.O] at hu
 have hB5:Below w7.heap.size w7 w':=hG.below'
 exact Z7m):P:=h
theorem Za5 {P:Prop}(h:P:=by
 refine hK _ v' w6 _ Zh (.of_own hg6 (fun k e=>by simp [SL.row,e1,e])) ⟨ho6,rfl⟩ ?_
 intro k hk
 simp [SL.row,e1] at hk ⊢
 exact Z1a):P:=h
theorem Z9m {P:Prop}(h:P:=by
 refine ⟨?_,?_,?_,?_,?_,?_,?_,?_,?_,?_,?_,?_,trivial⟩
 all_goals first
  | (intro us w' Fe hG hu hd hv Kx hK
     try dsimp only
     simp [SL.O] at hu hK
     have hB5:Below w7.heap.size w7 w':=hG.below'
     exact Z7r)
  | skip
 ·refine SLG.ob_sp rfl rfl rfl fun us w' Fe hG hu hd Kx hK=>?_
  try dsimp only
  simp [SL.O] at hu
  have hB5:Below w7.heap.size w7 w':=hG.below'
  obtain ⟨hc5,hf5⟩:=bcell hB5
  have hs5:=hB5.size
  refine SLF.wpo_do (SLF.wanted_free rfl) ?hd ?_
  case hd=>intro c h;cases h
  have hc:=hO1 w' (hB7.ch2 hB5)
  exact Za2
 ·refine SLG.ob_sp rfl rfl rfl fun us w' Fe hG hu hd Kx hK=>?_
  try dsimp only
  simp [SL.O] at hu
  have hB5:Below w7.heap.size w7 w':=hG.below'
  obtain ⟨hc5,hf5⟩:=bcell hB5
  have hs5:=hB5.size
  refine SLF.wpo_do (SLF.wanted_free rfl) ?hd ?_
  case hd=>intro c h;cases h
  have hc:=hO2 w' (hB7.ch2 hB5)
  exact Za2
 ·exact Za4
 ·exact Za4
 ·refine SLG.ob_no rfl rfl rfl fun us w' Fe hG hu hd Kx hK=>?_
  try dsimp only
  simp [SL.O] at hu
  have hB5:Below w7.heap.size w7 w':=hG.below'
  obtain ⟨hc5,hf5⟩:=bcell hB5
  have hs5:=hB5.size
  refine SLF.wpo_do (SLF.wanted_free rfl) ?hd ?_
  case hd=>intro c h;cases h
  obtain ⟨h5,M,e6,hMb,hMh,eF6⟩:=hu
  obtain ⟨v1,v2,F1,F2,⟨e5,rfl⟩,⟨F3,F4,⟨r1,rfl⟩,⟨r2,rfl⟩,rfl⟩,hF5⟩:=SL.aw_out h5
  have hd1:=hd 3 8 Z3m Z3m (by simp)
  exact Za3
 ·refine SLG.ob_no rfl rfl rfl fun us w' Fe hG hu hd Kx hK=>?_
  try dsimp only
  simp [SL.O] at hu
  have hB5:Below w7.heap.size w7 w':=hG.below'
  obtain ⟨hc5,hf5⟩:=bcell hB5
  have hs5:=hB5.size
  refine SLF.wpo_do (SLF.wanted_free rfl) ?hd ?_
  case hd=>intro c h;cases h
  obtain ⟨h5,M,e6,hMb,hMh,eF6⟩:=hu
  obtain ⟨v1,v2,F1,F2,⟨e5,rfl⟩,⟨F3,F4,⟨r1,rfl⟩,⟨r2,rfl⟩,rfl⟩,hF5⟩:=SL.aw_out h5
  have hd1:=hd 7 9 Z3m Z3m (by simp)
  exact Za3):P:=h
theorem Z9n {P:Prop}(h:P:=by
 have HD5:=Lib.hid hD5
 clear hD4 hrw hX4 hD5
 go_wp2_with (at_builtin;refine wpList_app elemI rfl _ _ rfl hr5 rfl rfl (RowAt.of_heap hsl) (by simp) (fun u hu=>by simp at hu;subst hu;rfl) Z1s (by omega) (by omega) ?_;intro v' w6 hr6 hg6 hb6 _ hat6)
 have HD6:=Lib.hid (HD5.out.app hBI.size (x:=x.id) hr6 hg6 hat6)
 obtain ⟨wa,wc,rfl,_⟩:=owns_slice hr6
 clear hr6 hg6 hb6 hat6 hr5 hsl hal4
 go_wp2_with fail
 go_roundw
 case rel=>exact ⟨j +1,by omega,by go_num,by rw [Hsu.out,HO.out];simpa using HD6.out⟩
 case measure=>simp [RowKit.intOf];omega):P:=h
theorem Z9o {P:Prop}(h:P:=by
 refine ⟨?_,?_,?_,?_,?_,?_,?_,?_,?_,?_,?_,?_,?_,trivial⟩
 all_goals first
  | (intro us w' Fe hG hu hd hv Kx hK
     try dsimp only
     simp [SL.O] at hu hK
     have hB5:Below w3.heap.size w3 w':=hG.below'
     exact Z7v)
  | skip
 ·refine SLG.ob_sp rfl rfl rfl fun us w' Fe hG hu hd Kx hK=>?_
  try dsimp only
  simp [SL.O] at hu
  have hB5:Below w3.heap.size w3 w':=hG.below'
  obtain ⟨hc5,hf5⟩:=bcell hB5
  have hs5:=hB5.size
  first
   | (refine SLF.wpo_do (SLF.wanted_free rfl) ?hd ?_;(case hd=>intro c h;cases h))
   | (refine SLF.wpo_do (SLF.wanted_by rfl rfl ?hv) ?hd ?_;(case hv=>simp [hu];done);(case hd=>intro c h;cases h))
   | (refine' SLF.wpo_not (SLG.wanted_not rfl rfl ?hv ?hn) ?_;(case hv=>simp [hu];exact rfl);(case hn=>first | (simp;done) | (simp [undef];done)))
  have hc:=hV1 w' (hB3.ch2 hB5)
  clear hc5 hf5
  exact Z9p
 ·refine SLG.ob_sp rfl rfl rfl fun us w' Fe hG hu hd Kx hK=>?_
  try dsimp only
  simp [SL.O] at hu
  have hB5:Below w3.heap.size w3 w':=hG.below'
  obtain ⟨hc5,hf5⟩:=bcell hB5
  have hs5:=hB5.size
  first
   | (refine SLF.wpo_do (SLF.wanted_free rfl) ?hd ?_;(case hd=>intro c h;cases h))
   | (refine SLF.wpo_do (SLF.wanted_by rfl rfl ?hv) ?hd ?_;(case hv=>simp [hu];done);(case hd=>intro c h;cases h))
   | (refine' SLF.wpo_not (SLG.wanted_not rfl rfl ?hv ?hn) ?_;(case hv=>simp [hu];exact rfl);(case hn=>first | (simp;done) | (simp [undef];done)))
  have hc:=hV2 w' (hB3.ch2 hB5)
  clear hc5 hf5
  exact Z9p):P:=h
theorem Z9p {P:Prop}(h:P:=by
 go_step
 refine hc.mono ?_
 exact Zg):P:=h
theorem Z9q {P:Prop}(h:P:=by
 go_upto_region 13 with (first
  | (go_at_call 192;(with_reducible refine (hE1 _ hE0).mono ?_);rintro e w9 ⟨rfl,hb9⟩;obtain ⟨g0,g1,g2,gf,gl⟩:=cell3s ((hb9.block _ ml).trans HM1.out);obtain ⟨k0,k1,k2,kf,kl⟩:=cell3s ((hb9.block _ nl).trans HM2.out))
  | (go_at_call 192;(with_reducible refine (hE2 _ hb9).mono ?_);rintro e w4 ⟨rfl,hb10⟩;have hc9:=hb9.ch2 hb10))
 have HD9:=Lib.hid (HD8.out.up hBI.size hc9)
 go_wp2_with fail
 go_roundw
 case rel=>exact ⟨j +1,by omega,by go_num,by rw [Hsu.out,HO.out];simpa using HD9.out⟩
 case measure=>simp [RowKit.intOf];omega):P:=h
theorem Z9r {P:Prop}(h:P:=by
 clear hlen
 as_aux_lemma =>
  go_enter Tryz.func17,Tryz.ntmps17
  go_wp2_with (first
   | (go_at_call 18;(with_reducible refine (hFe _ hB0).mono ?_);rintro e w1 ⟨rfl,hb1⟩;obtain ⟨⟨d0,d1,d2,d3,d4,d5,d6,d7,d8,d9,d10,d11,d12,d13,d14,d15⟩,_,_⟩:=ItmCells.of_heap ((hb1.block w.heap.size (by simp)).trans hX0);have hB1:=hB0.ch2 hb1)
   | (go_at_call 19;(with_reducible refine (hOn _).mono ?_);rintro e w2 ⟨rfl,hb2⟩;have hB1:=hB1.ch2 hb2)
   | (go_at_call 20;(with_reducible refine (hSh _).mono ?_);rintro e w3 ⟨rfl,hb3⟩))
  go_ret
  exact ⟨rfl,hB1.ch2 hb3⟩):P:=h
theorem Z9s {P:Prop}(h:P:=by
 exact ⟨fun x hx=>List.mem_append.2 ((List.mem_append.1 hx).imp id (hm x)),by simp only [List.length_append,msB_len];omega⟩):P:=h
theorem Z9t {P:Prop}(h:P:=by
 rw [List.getD_eq_getElem?_getD,List.getElem?_eq_getElem hlt];exact List.getElem_mem hlt):P:=h
theorem Z9u {P:Prop}(h:P:=by
 rw [List.all_eq_true] at hb ⊢
 intro s hsm
 exact hb s ((hs.map fun x=>x.st.data.toList).subset hsm)):P:=h
theorem Z9v {P:Prop}(h:P:=by
 unfold sherdsL
 rw [sortS_len]
 unfold shdsL
 rw [List.length_map]
 exact List.length_filter_le _ _):P:=h
theorem Z9w {P:Prop}(h:P:=by
 simp [results,Tryz.results191,go_sem,q0,q1,q2,q3,q4,q5,q6,q7,q8,q9,q10]):P:=h
theorem Z9x {P:Prop}(h:P:=by
 simp only [if_res,h]
 cases B <;> rfl):P:=h
theorem Z9y {P:Prop}(h:P:=by
 exact HP.out _ _ (hB.ch2 hb4) (SL.row_base ho4 hB.size)):P:=h
theorem Z9z {P:Prop}(h:P:=by
 simp [hx]):P:=h
open Go
def eqS (x y:Shd):Bool:=x.id == y.id && (x.wa.data.toList == y.wa.data.toList && (x.pit == y.pit && (x.ly == y.ly && (x.co == y.co && x.ft == y.ft))))
theorem eqS_iff {x y:Shd}:eqS x y=true ↔ x=y:=by
 constructor
 ·intro h
  unfold eqS at h
  simp only [Bool.and_eq_true,beq_iff_eq] at h
  obtain ⟨h1,h2,h3,h4,h5,h6⟩:=h
  have k2:=ba_toList h2
  clear h2
  obtain ⟨x1,x2,x3,x4,x5,x6⟩:=x
  obtain ⟨y1,y2,y3,y4,y5,y6⟩:=y
  simp only at h1 k2 h3 h4 h5 h6
  subst h1 k2 h3 h4 h5 h6
  rfl
 ·rintro rfl
  unfold eqS
  simp
open Go.RowKit Go.Shelf
set_option maxHeartbeats 4000000
set_option maxRecDepth 100000
def Cs.ask (c:Cs) (l:List Int):Int:=askE_w c.ware.data.toList c.lim c.byr c.ps l
theorem mem_pts {p j:Int} (h0:0≤j) (h1:j<p):j ∈ (List.range p.toNat).map fun (i:Nat)=>(i:Int):=List.mem_map.2 ⟨j.toNat,by simp;omega,by simp;omega⟩

/-- Where some list keeps all bounds, there is a solution. -/
theorem okB_of_keeps {p:Int} {bs:List Bd} (h:chk p bs=0) {y:Int→Int} (hy:keepsB bs y):okB p bs=true:=by
 have hs:=Sys.of_chk h
 have hp:=hs.p2
 have hp1:=hs.p1
 obtain ⟨v,hv,hm⟩:=least_of (fun j=> - y j) ((List.range p.toNat).map fun (i:Nat)=>(i:Int)) (by
  intro e
  have:=mem_pts (p:=p) (j:=0) (by omega) (by omega)
  rw [e] at this
  simp at this)
 refine BF.settles hp hs.inr hy (Pts.of_chk h) (p +1).toNat ((List.range p.toNat).map fun (i:Nat)=>(i:Int)) (- y v) ⟨List.replicate 60 0,List.replicate 60 (-1),0⟩ Zj ⟨fun j hj=>hj,fun j j0 j1 hj=>?_,fun j j0 j1 hj hf=>?_,fun j _ _ a b=>absurd a b,fun b hb hf=>?_⟩ (by simp)
 ·exact absurd (mem_pts j0 j1) hj
 ·have:=hm j hj
  simp only at this ⊢
  rw [gi_zeros]
  omega
 ·obtain ⟨q0,q1,_⟩:=Pts.of_chk h b hb
  exact absurd (mem_pts q0 q1) hf

theorem okB_sub {p:Int} {bs cs:List Bd} (h:chk p bs=0) (hok:okB p bs=true) (h1:∀ b ∈ cs,b ∈ bs) (h2:cs.length≤bs.length):okB p cs=true :=
 okB_of_keeps (chk_sub h h1 h2) (fun b hb=>okB_keeps (Sys.of_chk h) hok b (h1 b hb))

/-- With more bounds greatest differences do not become greater. -/
theorem gD_mono {p:Int} {bs T:List Bd} (hs:Sys p bs) (h:chk p T=0) (hok:okB p T=true) (hsub:∀ b ∈ bs,b ∈ T) {a c:Int} (a0:0≤a) (a1:a<p) (c0:0≤c) (c1:c<p) (hac:gD p bs a c<FAR) :
 gD p T a c<FAR∧gD p T a c≤gD p bs a c:=by
 have hp:=hs.p2
 have key:=settle_inv (Q:=fun r=>∀ j:Int,0≤j→j<60→gi r j<FAR→gD p T a j<FAR∧gD p T a j≤gi r j) hs.inr (fun r x hl hx hq ho j j0 j1 hj=>by
  obtain ⟨o1,o2⟩:=opens_iff.1 ho
  have hxi:=hs.inr x hx
  rw [gi_set hxi.t0 (by have:=hxi.t0;have:=hxi.t1;omega) j0] at hj ⊢
  by_cases e:j=x.tow
  ·rw [if_pos e] at hj ⊢
   subst e
   have h1:=hq x.frm hxi.f0 hxi.f1 o1
   have h2:=gfrom_still h hok a0 a1 (hsub x hx) h1.1
   exact ⟨h2.2,by omega⟩
  ·rw [if_neg e] at hj ⊢
   exact hq j j0 j1 hj) (p +1).toNat ⟨far0 a,List.replicate 60 (-1),0⟩ (far0_len a) (fun j j0 j1 hj=>by
  have e:=gi_far0 (a:=a) (j:=j) a0 (by omega) j0 j1
  simp only at hj ⊢
  rw [e] at hj ⊢
  by_cases ej:j=a
  ·rw [if_pos ej,ej,gD_self (Sys.of_chk h) hok a0 a1]
   unfold FAR
   omega
  ·rw [if_neg ej] at hj
   exact absurd hj (Int.lt_irrefl _))
 exact key c c0 (by omega) hac

theorem gD_sub {p:Int} {S T:List Bd} (h:Sub S T) (hc:chk p T=0) (hok:okB p T=true) {x y:Int} (x0:0≤x) (x1:x<p) (y0:0≤y) (y1:y<p):gD p T x y≤gD p S x y:=by
 by_cases hf:gD p S x y<FAR
 ·exact (gD_mono (Sys.of_chk (h.chk hc)) hc hok h.1 x0 x1 y0 y1 hf).2
 ·have:=(gD_range (Sys.of_chk hc) x0 x1 y0 y1).2
  omega
open Go
theorem WayOk.ask {l:List Itm} {day id fr tw:Int} (h:WayOk l day id fr tw):askE (wayP l day id) (wayB l day id) fr tw=0∧askE (wayP l day id) (wayB l day id) tw fr=0:=by
 obtain ⟨h0,h1,h2,h3,h4⟩:=h
 have hp:wayP l day id=(lookS l day id).co +1:=rfl
 exact ⟨askE_in h0.ways h4 (by omega) (by omega) (by omega) (by omega),askE_in h0.ways h4 (by omega) (by omega) (by omega) (by omega)⟩
theorem wayK_iff {l:List Itm} {day id fr tw:Int}:wayK l day id fr tw=true ↔ WayOk l day id fr tw∧gD (wayP l day id) (wayB l day id) fr tw<FAR:=by
 unfold wayK
 rw [Bool.and_eq_true,decide_eq_true_eq]
 constructor
 ·rintro ⟨h1,h2⟩
  have hw:=way_ok h1
  refine ⟨hw,?_⟩
  unfold grB at h2
  simp only [decide_eq_true_eq] at h2
  have hp:wayP l day id=(lookS l day id).co +1:=rfl
  have:=(gD_range (Sys.of_chk hw.look.ways) (x:=fr) (y:=tw) hw.pf (by have:=hw.pl;have:=hw.pt;omega) (by have:=hw.pf;have:=hw.pl;omega) (by have:=hw.pt;omega)).2
  omega
 ·rintro ⟨hw,h2⟩
  refine ⟨WayOk.e (lookE_of hw.look) hw.pf hw.pl hw.pt hw.ok,?_⟩
  unfold grB
  simp only [decide_eq_true_eq]
  exact ⟨hw.ask.1,by omega⟩
theorem way_vals {l:List Itm} {day id fr tw:Int} (h:wayK l day id fr tw=true):wayHi l day id fr tw=gD (wayP l day id) (wayB l day id) fr tw∧wayLo l day id fr tw= - gD (wayP l day id) (wayB l day id) tw fr:=by
 obtain ⟨hw,h2⟩:=wayK_iff.1 h
 have h3:=hw.back
 unfold wayHi wayLo
 rw [if_pos h,if_pos h]
 unfold grN
 rw [if_pos ⟨hw.ask.1,by omega⟩,if_pos ⟨hw.ask.2,by omega⟩]
 exact ⟨rfl,rfl⟩
theorem turn_ok {l:List Itm} {day id fr tw:Int} (h:turnE l day id fr tw=0):TurnOk l day id fr tw:=by
 unfold turnE at h
 split at h
 ·rename_i h0
  split at h
  ·rename_i h1
   split at h
   ·rename_i h2
    exact ⟨look_ok h0,h1.1,h1.2.1,h1.2.2,h2⟩
   ·omega
  ·omega
 ·contradiction
theorem turn_vals {l:List Itm} {day id fr tw:Int} (h:turnE l day id fr tw=0):turnHi l day id fr tw=gD (turnP l day id) (turnB l day id) fr tw∧turnLo l day id fr tw= - gD (turnP l day id) (turnB l day id) tw fr:=by
 have hw:=turn_ok h
 have h3:=hw.far
 have hp:turnP l day id=(lookS l day id).co:=rfl
 have h1:=hw.pf
 have h2:=hw.pl
 have h4:=hw.pt
 have a1:=askE_in hw.look.turns hw.ok (x:=fr) (y:=tw) (by omega) (by omega) (by omega) (by omega)
 have a2:=askE_in hw.look.turns hw.ok (x:=tw) (y:=fr) (by omega) (by omega) (by omega) (by omega)
 unfold turnHi turnLo
 rw [if_pos h,if_pos h]
 unfold grN
 rw [if_pos ⟨a1,by omega⟩,if_pos ⟨a2,by omega⟩]
 exact ⟨rfl,rfl⟩
open Go
/-- What is known of a sherd, but its outline. -/
def valC (s:List Itm) (id:Int):Spn:=if (colL (keptL s 4 id)).hi<(colL (keptL s 4 id)).lo then ⟨-1,0,0,0⟩ else colL (keptL s 4 id)
def valU (s:List Itm) (id:Int):List UInt8:=comC (setsL (keptL s 5 id))
def eqP (x y:Spn):Bool:=x.lo == y.lo && (x.hi == y.hi && (x.lob == y.lob && x.hib == y.hib))
theorem eqP_iff {x y:Spn}:eqP x y=true ↔ x=y:=by
 obtain ⟨a,b,c,d⟩:=x
 obtain ⟨a',b',c',d'⟩:=y
 simp [eqP]
def eqB (x y:Bd):Bool:=x.frm == y.frm && (x.tow == y.tow && (x.most == y.most && x.bid == y.bid))
theorem eqB_iff {x y:Bd}:eqB x y=true ↔ x=y:=by
 obtain ⟨a,b,c,d⟩:=x
 obtain ⟨a',b',c',d'⟩:=y
 simp [eqB]
def eqBs:List Bd→List Bd→Bool
 | [],[]=>true
 | x::l,y::m=>eqB x y && eqBs l m
 | _,_=>false
theorem eqBs_iff:∀ {l m:List Bd},eqBs l m=true ↔ l=m
 | [],[]=>by simp [eqBs]
 | [],_::_=>by simp [eqBs]
 | _::_,[]=>by simp [eqBs]
 | x::l,y::m=>by simp [eqBs,eqB_iff,eqBs_iff (l:=l) (m:=m)]
/-- A sherd of one shelf is another in the other one. -/
def otherB (s t:List Itm) (x:Shd):Bool :=
 match sherdO t x.id with
 | none=>true
 | some y=>!(eqS x y && (eqP (valC s x.id) (valC t y.id) && (valU s x.id == valU t y.id))) || !(eqBs (waysB x.co (keptL s 2 x.id)) (waysB y.co (keptL t 2 y.id)) && eqBs (turnsB x.co (keptL s 3 x.id)) (turnsB y.co (keptL t 3 y.id)))
def differL (s t:List Itm):List Int:=ascOf (((sherdsL s).filter (otherB s t)).map (·.id) ++((sherdsL t).filter (otherB t s)).map (·.id))
def changedL (l:List Itm) (a b:Int):List Int:=if (chkI l).2=0 then differL (countL l a) (countL l b) else []
open Go
theorem sys_sub {k co:Int} {a b:List Itm} (hs:a.Sublist b):(∀ x ∈ sysB k co a,x ∈ sysB k co b)∧(sysB k co a).length≤(sysB k co b).length:=by
 have hm:∀ x ∈ msB a,x ∈ msB b:=fun x hx=>by
  simp only [msB,List.mem_flatMap] at hx ⊢
  obtain ⟨y,hy,e⟩:=hx
  exact ⟨y,hs.subset hy,e⟩
 have hl:=hs.length_le
 unfold sysB waysB turnsB
 split
 ·exact Z9s
 ·exact Z9s
theorem com_sub {a b:List Itm} (hs:a.Sublist b) (h:comC (setsL a)=[]):comC (setsL b)=[]:=by
 unfold comC at h ⊢
 rw [List.filter_eq_nil_iff] at h ⊢
 intro c hc hb
 refine h c hc ?_
 exact Z9u
/-- The span common to colours. -/
theorem colL_go:∀ (l:List Itm) (o:Spn),(o.lo≤(l.foldl colS o).lo∧(∀ x ∈ l,x.lo≤(l.foldl colS o).lo)∧((l.foldl colS o).lo=o.lo∨∃ x ∈ l,x.lo=(l.foldl colS o).lo)) ∧
 ((l.foldl colS o).hi≤o.hi∧(∀ x ∈ l,(l.foldl colS o).hi≤x.hi)∧((l.foldl colS o).hi=o.hi∨∃ x ∈ l,x.hi=(l.foldl colS o).hi))
 | [],o=>by simp
 | x::l,o=>by
   obtain ⟨⟨a1,a2,a3⟩,b1,b2,b3⟩:=colL_go l (colS o x)
   simp only [List.foldl_cons]
   generalize l.foldl colS (colS o x)=r at *
   have e1:(colS o x).lo=if o.lo<x.lo then x.lo else o.lo:=rfl
   have e2:(colS o x).hi=if x.hi<o.hi then x.hi else o.hi:=rfl
   rw [e1] at a1 a3
   rw [e2] at b1 b3
   refine ⟨⟨?_,?_,?_⟩,?_,?_,?_⟩
   ·split at a1 <;> omega
   ·intro y hy
    rcases List.mem_cons.1 hy with rfl | hy
    ·split at a1 <;> omega
    ·exact a2 y hy
   ·rcases a3 with a3 | ⟨y,hy,e⟩
    ·split at a3
     ·exact .inr ⟨x,List.mem_cons_self,a3.symm⟩
     ·exact .inl a3
    ·exact .inr ⟨y,List.mem_cons_of_mem _ hy,e⟩
   ·split at b1 <;> omega
   ·intro y hy
    rcases List.mem_cons.1 hy with rfl | hy
    ·split at b1 <;> omega
    ·exact b2 y hy
   ·rcases b3 with b3 | ⟨y,hy,e⟩
    ·split at b3
     ·exact .inr ⟨x,List.mem_cons_self,b3.symm⟩
     ·exact .inl b3
    ·exact .inr ⟨y,List.mem_cons_of_mem _ hy,e⟩
theorem kept_mem {s:List Itm} {k id:Int} {x:Itm}:x ∈ keptL s k id ↔ x ∈ s∧x.kd=k∧x.sh=id:=by unfold keptL;rw [List.mem_filter];simp
open Go
theorem cat_snoc {l:List Itm} {x:Itm} (h:CatOk l) (hr:refE l x=0):CatOk (l ++[x]):=by
 intro i hi
 rw [List.length_append,List.length_singleton] at hi
 by_cases h1:i<l.length
 ·rw [List.take_append_of_le_length (by omega),show (l ++[x]).getD i default=l.getD i default by rw [List.getD_eq_getElem?_getD,List.getD_eq_getElem?_getD,List.getElem?_append_left h1]]
  exact h i h1
 ·have:i=l.length:=by omega
  subst this
  rw [List.take_left,show (l ++[x]).getD l.length default=x by rw [List.getD_eq_getElem?_getD,List.getElem?_append_right (Nat.le_refl _)];simp]
  exact hr
theorem look_same {l m:List Itm} {day id:Int} (hl:LookOk l day id) (hm:LookOk m day id) (hs:∀ x ∈ countL m day,x ∈ countL l day):lookS m day id=lookS l day id:=by
 obtain ⟨x,hx,e1,_,e3⟩:=sherdO_some hl.some
 obtain ⟨y,hy,f1,_,f3⟩:=sherdO_some hm.some
 have:y=x:=ids_inj (countL_ids hl.cat.ids day) (hs y hy) hx (by omega)
 rw [e3,f3,this]
theorem ways_sub {co:Int} {a b:List Itm} (h:a.Sublist b):Sub (waysB co a) (waysB co b):=by
 obtain ⟨h1,h2⟩:=sys_sub (k:=2) (co:=co) h
 simp only [sysB,if_pos] at h1 h2
 exact ⟨h1,h2⟩
open Go.RowKit Go.Shelf
set_option maxHeartbeats 8000000
set_option maxRecDepth 100000
theorem r2has_any (a:Option Addr) (len cap:Nat) (xs:List Int) (n:Int) (w:World) (hx:IntsAt w a len cap xs) :
 Calls Tryz.prog 51 #[.slice a len cap,.int .i64 n] w fun e w'=>e=.returned (.bool (xs.any (· == n)))∧w=w':=by
 have hlen:=hx.small
 obtain rfl:=hx.len
 go_enter Tryz.func51,Tryz.ntmps51
 go_wp2
 go_loop [5] (fun i=>∃ k:Nat,k≤xs.length∧i=.int .i64 k∧(xs.take k).any (· == n)=false) (fun i=>xs.length - (RowKit.intOf i).toNat)
 case atStart=>exact ⟨0,Nat.zero_le _,rfl,rfl⟩
 case round =>
  obtain ⟨k,hk,rfl,hno⟩:=hrel
  have Hno:=Lib.hid hno
  clear hno
  by_cases hlt:k<xs.length
  ·obtain ⟨b,off,rfl,hbl,d0⟩:=hx.get hlt
   generalize hy:xs.getD k 0=y at *
   have Hy:=Lib.hid hy
   clear hy
   have hget:xs[k]=y:=by rw [← Hy.out];simp [List.getD_eq_getElem?_getD,List.getElem?_eq_getElem hlt]
   have Hget:=Lib.hid hget
   clear hget
   by_cases e:y=n
   ·subst e
    go_wp2
    go_ret
    refine ⟨?_,rfl⟩
    rw [show xs.any (· == y)=true from List.any_eq_true.2 ⟨xs[k],List.getElem_mem hlt,by rw [Hget.out];simp⟩];rfl
   ·have e':(y == n)=false:=by simpa using e
    go_wp2
    go_round
    case rel=>exact ⟨k +1,by omega,by go_num,by rw [List.take_succ_eq_append_getElem hlt,List.any_append,Hno.out,Hget.out];simp [e]⟩
    case measure=>simp [RowKit.intOf];omega
  ·go_wp2
   go_ret
   refine ⟨?_,rfl⟩
   rw [List.take_of_length_le (by omega)] at Hno
   rw [Hno.out];rfl
open Go.ChangeShapes Go.WideShapes Go.ChangeAt Go.RowKit Go.Joins Go.Deep
set_option maxRecDepth 100000
set_option maxHeartbeats 2000000
theorem item_open {H:Type} {enc:TypeId × Value→H} {W:World} {base:Nat} {v:Value} {d:DataW H} {p:List MemPlace} (hv:Value.okWide Tryz.prog W .any base 24 v)
 (h:DataW.Trod enc Tryz.prog W 0 (fun _=>true) true 24 v d p):∃ x:Itm,v=x.v∧x.Wide:=by
 simp only [Value.okWide,Tryz.underlying24] at hv
 obtain ⟨cs,he,_⟩:=hv
 subst he
 obtain ⟨fuel,hf⟩:=h
 obtain ⟨x,hx,hw⟩:=item_cells (show DataW.trod enc Tryz.prog W 0 (fun _=>true) true fuel 24 cs.toList=some (d,p) from hf)
 refine ⟨x,?_,hw⟩
 unfold Itm.v
 rw [← hx]
end Go.Proofs.YtelkcohhagblaaaGreat
namespace Go.Proofs
open Go.Shelf
def Tryz.equalBA_ren:Go.Shelf.Ren:=⟨fun | 8=>192 | n=>n,fun | 22=>50 | 24=>69 | 4=>4 | 3=>3 | 0=>0 | n=>n,fun | n=>n⟩
theorem Tryz.equalBA:Go.Proofs.SlLaysQ.n8 Tryz.prog Tryz.equalBA_ren:={
 mixed:=by kernel_rfl
 f8:=⟨Tryz.f192.name,by decide,Tryz.func192.trans (congrArg some (by kernel_rfl))⟩
 t0:=Tryz.underlying0
 a0:=Tryz.isAgg0
 z0:=Tryz.sizeOf0
 v0:=Tryz.zeroValue0
 t3:=Tryz.underlying3
 a3:=Tryz.isAgg3
 z3:=Tryz.sizeOf3
 v3:=Tryz.zeroValue3
 t4:=Tryz.underlying4
 a4:=Tryz.isAgg4
 z4:=Tryz.sizeOf4
 v4:=Tryz.zeroValue4
 t22:=Tryz.underlying50
 a22:=Tryz.isAgg50
 z22:=Tryz.sizeOf50
 v22:=Tryz.zeroValue50 }
end Go.Proofs
namespace Go.Proofs.YtelkcohhagblaaaGreat
open Go.RowKit Go.Shelf
set_option maxHeartbeats 8000000
set_option maxRecDepth 100000
theorem eleven {W:World} {N:Nat} {a0 a1 a2 a3 a4 a5 a6 a7 a8 a9 a10:Value} {t:TypeId} (h:W.heap[N]?=some (.cells #[a0,a1,a2,a3,a4,a5,a6,a7,a8,a9,a10] t (0,0))) (b0 b1 b2 b3 b4 b5 b6 b7 b8 b9 b10:Value) :
 (((((((((((W.setCell ⟨N,0,none⟩ b0).setCell ⟨N,1,none⟩ b1).setCell ⟨N,2,none⟩ b2).setCell ⟨N,3,none⟩ b3).setCell ⟨N,4,none⟩ b4).setCell ⟨N,5,none⟩ b5).setCell ⟨N,6,none⟩ b6).setCell ⟨N,7,none⟩ b7).setCell ⟨N,8,none⟩ b8).setCell ⟨N,9,none⟩ b9).setCell ⟨N,10,none⟩ b10).heap[N]?=some (.cells #[b0,b1,b2,b3,b4,b5,b6,b7,b8,b9,b10] t (0,0)) ∧
   SL.Chg [N] W (((((((((((W.setCell ⟨N,0,none⟩ b0).setCell ⟨N,1,none⟩ b1).setCell ⟨N,2,none⟩ b2).setCell ⟨N,3,none⟩ b3).setCell ⟨N,4,none⟩ b4).setCell ⟨N,5,none⟩ b5).setCell ⟨N,6,none⟩ b6).setCell ⟨N,7,none⟩ b7).setCell ⟨N,8,none⟩ b8).setCell ⟨N,9,none⟩ b9).setCell ⟨N,10,none⟩ b10):=by
 have k:=SL.heap_set (SL.heap_set (SL.heap_set (SL.heap_set (SL.heap_set (SL.heap_set (SL.heap_set (SL.heap_set (SL.heap_set (SL.heap_set (SL.heap_set h b0 (i:=0)) b1 (i:=1)) b2 (i:=2)) b3 (i:=3)) b4 (i:=4)) b5 (i:=5)) b6 (i:=6)) b7 (i:=7)) b8 (i:=8)) b9 (i:=9)) b10 (i:=10)
 exact ⟨by simpa using k,((((((((((SL.Chg.setCell _ (by simp) b0).trans (.setCell _ (by simp) b1)).trans (.setCell _ (by simp) b2)).trans (.setCell _ (by simp) b3)).trans (.setCell _ (by simp) b4)).trans (.setCell _ (by simp) b5)).trans (.setCell _ (by simp) b6)).trans (.setCell _ (by simp) b7)).trans (.setCell _ (by simp) b8)).trans (.setCell _ (by simp) b9)).trans (.setCell _ (by simp) b10)⟩
theorem cell11 {W:World} {N:Nat} {a0 a1 a2 a3 a4 a5 a6 a7 a8 a9 a10:Value} {t:TypeId} (h:W.heap[N]?=some (.cells #[a0,a1,a2,a3,a4,a5,a6,a7,a8,a9,a10] t (0,0))) :
 W.cell? ⟨N,0,none⟩=some a0∧W.cell? ⟨N,1,none⟩=some a1∧W.cell? ⟨N,2,none⟩=some a2∧W.cell? ⟨N,3,none⟩=some a3∧W.cell? ⟨N,4,none⟩=some a4∧W.cell? ⟨N,5,none⟩=some a5∧W.cell? ⟨N,6,none⟩=some a6∧W.cell? ⟨N,7,none⟩=some a7∧W.cell? ⟨N,8,none⟩=some a8∧W.cell? ⟨N,9,none⟩=some a9∧W.cell? ⟨N,10,none⟩=some a10∧(∀ i,W.frozen? ⟨N,i,none⟩=false)∧N<W.heap.size:=by
 have k:=(SL.cells_of h).1
 exact ⟨k 0,k 1,k 2,k 3,k 4,k 5,k 6,k 7,k 8,k 9,k 10,(SL.cells_of h).2,(Array.getElem?_eq_some_iff.1 h).1⟩
def valV (y:Shd) (c:Spn) (u:List UInt8):Array Value:=#[.int .i64 y.id,.string y.wa,.int .i64 y.pit,.int .i64 y.ly,.int .i64 y.co,.bool y.ft,.int .i64 c.lo,.int .i64 c.hi,.int .i64 c.lob,.int .i64 c.hib,.string ⟨u.toArray⟩]
theorem svalues_any (a:Option Addr) (n cap:Nat) (s:List Itm) (y:Shd) (w:World) (hs:ItmsAt w a n cap s) (hl:s.length≤10000) :
 Calls Tryz.prog 191 #[.slice a n cap,y.v] w fun e w'=>e=.returned (.agg (valV y (valC s y.id) (valU s y.id)))∧Below w.heap.size w w':=by
 have hB0:=(one_alloc w (Obj.cells #[.int .i64 y.id,.string y.wa,.int .i64 y.pit,.int .i64 y.ly,.int .i64 y.co,.bool y.ft] 72)).ch2 (one_alloc _ (Obj.cells #[.int .i64 0,.string ⟨#[]⟩,.int .i64 0,.int .i64 0,.int .i64 0,.bool false,.int .i64 0,.int .i64 0,.int .i64 0,.int .i64 0,.string ⟨#[]⟩] 203))
 have hY0:=alKeep (o':=Obj.cells #[.int .i64 0,.string ⟨#[]⟩,.int .i64 0,.int .i64 0,.int .i64 0,.bool false,.int .i64 0,.int .i64 0,.int .i64 0,.int .i64 0,.string ⟨#[]⟩] 203) (World.alloc_heap_new w (Obj.cells #[.int .i64 y.id,.string y.wa,.int .i64 y.pit,.int .i64 y.ly,.int .i64 y.co,.bool y.ft] 72))
 have hZ0:=World.alloc_heap_new (w.alloc (Obj.cells #[.int .i64 y.id,.string y.wa,.int .i64 y.pit,.int .i64 y.ly,.int .i64 y.co,.bool y.ft] 72)) (Obj.cells #[.int .i64 0,.string ⟨#[]⟩,.int .i64 0,.int .i64 0,.int .i64 0,.bool false,.int .i64 0,.int .i64 0,.int .i64 0,.int .i64 0,.string ⟨#[]⟩] 203)
 rw [World.size_alloc] at hZ0
 have hCo:=fun W (hi:ItmsAt W a n cap s)=>scolour_any a n cap s y.id W hi hl
 have hSe:=fun W (hi:ItmsAt W a n cap s)=>ssets_any a n cap s y.id W hi hl
 unfold RowPost at hSe
 have hlk:(keptL s 5 y.id).length≤10000:=Nat.le_trans (List.length_filter_le _ _) hl
 have hCm:=fun W base xa xc (ho:W.ownsRow base 9 1 (.slice xa (keptL s 5 y.id).length xc) (keptL s 5 y.id).length (strL (keptL s 5 y.id)))=>scomS xa _ xc (keptL s 5 y.id) W base hlk rfl ho
 have hP:∀ w' V,V=valV y (valC s y.id) (valU s y.id)→Below w.heap.size w w'→(fun e w'=>e=Ending.returned (.agg (valV y (valC s y.id) (valU s y.id)))∧Below w.heap.size w w':Ending→World→Prop) (.returned (.agg V)) w':=fun w' V h1 h2=>⟨by rw [h1],h2⟩
 have HP:=Lib.hid hP
 clear hP
 generalize (fun e w'=>e=Ending.returned (.agg (valV y (valC s y.id) (valU s y.id)))∧Below w.heap.size w w':Ending→World→Prop)=Post at *
 unfold valC valU at HP
 generalize keptL s 5 y.id=K5 at *
 generalize colL (keptL s 4 y.id)=c at *
 have HU:=Lib.hid (rfl:comC (setsL K5)=comC (setsL K5))
 clear HU
 generalize comC (setsL K5)=U at *
 simp only [Spn.v,Spn.cs] at hCo
 have hz0:((w.alloc (Obj.cells #[.int .i64 y.id,.string y.wa,.int .i64 y.pit,.int .i64 y.ly,.int .i64 y.co,.bool y.ft] 72)).alloc (Obj.cells #[.int .i64 0,.string ⟨#[]⟩,.int .i64 0,.int .i64 0,.int .i64 0,.bool false,.int .i64 0,.int .i64 0,.int .i64 0,.int .i64 0,.string ⟨#[]⟩] 203)).heap.size=w.heap.size +1 +1:=by simp
 have hs0:=hs.below hB0
 simp only [Shd.v,Shd.cs]
 clear hs
 go_enter Tryz.func191,Tryz.ntmps191
 go_wp2_with fail
 generalize (w.alloc (Obj.cells #[.int .i64 y.id,.string y.wa,.int .i64 y.pit,.int .i64 y.ly,.int .i64 y.co,.bool y.ft] 72)).alloc (Obj.cells #[.int .i64 0,.string ⟨#[]⟩,.int .i64 0,.int .i64 0,.int .i64 0,.bool false,.int .i64 0,.int .i64 0,.int .i64 0,.int .i64 0,.string ⟨#[]⟩] 203)=w3 at *
 have zY:=(Array.getElem?_eq_some_iff.1 hY0).1
 have HY:=Lib.hid hY0
 obtain ⟨p0,p1,p2,p3,p4,p5,pf⟩:=cell6 hY0
 clear hY0
 apply SLG.rule0 ?hm [] [6,7,8,9,10,11,12,13,14,15,16,5] [SLF.pq 6 [] _,SLF.pq 7 [] _,SLF.pq 8 [] _,SLF.pq 9 [2] _,SL.pu 10 [1,3] (.agg #[.int .i64 c.lo,.int .i64 c.hi,.int .i64 c.lob,.int .i64 c.hib]),SLF.pq 11 [] _,SLF.pq 12 [] _,SLF.pq 13 [6] _,SL.row 14 [5,7] [] w3.heap.size 9 1 K5.length (strL K5),SL.pu 15 [8] (.string ⟨U.toArray⟩),SLF.pq 16 [0,4,9] _,SL.box 5 [] [] w3.heap.size 203 #[.int .i64 0,.string ⟨#[]⟩,.int .i64 0,.int .i64 0,.int .i64 0,.bool false,.int .i64 0,.int .i64 0,.int .i64 0,.int .i64 0,.string ⟨#[]⟩],SL.box 5 [10,11] [11] w3.heap.size 203 #[.int .i64 y.id,.string y.wa,.int .i64 y.pit,.int .i64 y.ly,.int .i64 y.co,.bool y.ft,.int .i64 c.lo,.int .i64 c.hi,.int .i64 c.lob,.int .i64 c.hib,.string ⟨U.toArray⟩]] [12] ?hck ?hkp (fun _=>[]) ?hin ?hdj ?hfr ?ob ?en1
 case hm=>kernel_rfl
 case hin=>exact SL.none_held rfl
 case hdj=>simp
 case hfr=>intro us;simp only [SL.frame,SL.put'];simp;exact rfl
 case ob =>
  refine ⟨?_,?_,?_,?_,?_,?_,?_,?_,?_,?_,?_,?_,?_,trivial⟩
  all_goals first
   | (exact Z7x)
   | skip
  ·refine SLG.ob_sp rfl rfl rfl fun us w' Fe hG hu hd Kx hK=>?_
   try dsimp only
   simp [SL.O] at hu
   have hB5:Below w3.heap.size w3 w':=hG.below'
   obtain ⟨hc5,hf5⟩:=bcell hB5
   have hs5:=hB5.size
   refine SLF.wpo_do (SLF.wanted_free rfl) ?hd ?_
   case hd=>intro c h;cases h
   have hc:=hCo w' (hs0.below hB5)
   clear hc5 hf5
   exact Z9p
  ·refine SLG.ob_sp rfl rfl rfl fun us w' Fe hG hu hd Kx hK=>?_
   try dsimp only
   simp [SL.O] at hu
   have hB5:Below w3.heap.size w3 w':=hG.below'
   obtain ⟨hc5,hf5⟩:=bcell hB5
   have hs5:=hB5.size
   refine SLF.wpo_do (SLF.wanted_free rfl) ?hd ?_
   case hd=>intro c h;cases h
   have hc:=hSe w' (hs0.below hB5)
   clear hc5 hf5
   go_step
   refine hc.mono ?_
   rintro e w6 ⟨v6,rfl,hb6,ho6⟩
   exact hK _ v6 w6 _ Zh (.of_below hb6) ⟨SL.row_base ho6 hs5,rfl⟩ (fun k hk=>.inr (SL.row_bounds ho6 k hk))
  ·refine SLG.ob_sp rfl rfl rfl fun us w' Fe hG hu hd Kx hK=>?_
   try dsimp only
   simp [SL.O] at hu
   have hB5:Below w3.heap.size w3 w':=hG.below'
   obtain ⟨hc5,hf5⟩:=bcell hB5
   have hs5:=hB5.size
   refine SLF.wpo_do (SLF.wanted_free rfl) ?hd ?_
   case hd=>intro c h;cases h
   obtain ⟨ho,_⟩:=hu
   obtain ⟨xa,xc,hv,_⟩:=owns_slice ho
   rw [hv] at ho
   have hc:=hCm w' _ xa xc ho
   clear ho hc5 hf5
   exact Z9p
  ·refine SLG.ob_sp rfl rfl rfl fun us w' Fe hG hu hd Kx hK=>?_
   try dsimp only
   simp [SL.O] at hu
   have hB5:Below w3.heap.size w3 w':=hG.below'
   exact Z7m
  ·refine SLG.ob_no rfl rfl rfl fun us w' Fe hG hu hd Kx hK=>?_
   try dsimp only
   simp [SL.O] at hu
   have hB5:Below w3.heap.size w3 w':=hG.below'
   obtain ⟨hc5,hf5⟩:=bcell hB5
   have hs5:=hB5.size
   refine SLF.wpo_do (SLF.wanted_free rfl) ?hd ?_
   case hd=>intro c h;cases h
   obtain ⟨⟨e10,_⟩,M,e5,hbM,hhM,eF⟩:=hu
   obtain ⟨y0,y1,y2,y3,y4,y5,y6,y7,y8,y9,y10,yf,yl⟩:=cell11 hhM
   have HS:=Lib.hid (eleven hhM (.int .i64 y.id) (.string y.wa) (.int .i64 y.pit) (.int .i64 y.ly) (.int .i64 y.co) (.bool y.ft) (.int .i64 c.lo) (.int .i64 c.hi) (.int .i64 c.lob) (.int .i64 c.hib) (.string ⟨U.toArray⟩))
   clear hc5 hf5 hhM
   go_step
   exact hK _ [M] (by simpa [SL.box,eF] using HS.out.2) ⟨M,e5,hbM,HS.out.1,rfl⟩ (fun k hk=>.inl (by simpa [SL.box,eF] using hk))
 case hck=>kernel_rfl
 case hkp=>kernel_rfl
 intro us7 w7 Fs7 hG hu hbd hd
 simp [SL.Used,SL.box] at hu
 obtain ⟨M,e5,hbM,hhM,_⟩:=hu
 have hb7:Below w3.heap.size w3 w7:=hG.below'
 have hB7:=hB0.ch2 hb7
 have hZ7:=(hb7.block _ (Array.getElem?_eq_some_iff.1 hZ0).1).trans hZ0
 have zZ:=(Array.getElem?_eq_some_iff.1 hZ0).1
 rw [e5]
 obtain ⟨y0,y1,y2,y3,y4,y5,y6,y7,y8,y9,y10,yf,yl⟩:=cell11 hhM
 have HM:=Lib.hid hhM
 have HZ7:=Lib.hid hZ7
 have HB7:=Lib.hid hB7
 have hne:M≠w.heap.size +1:=by omega
 have hne2:w.heap.size +1≠M:=by omega
 obtain ⟨z0,z1,z2,z3,z4,z5,z6,z7,z8,z9,z10,zf,zl⟩:=cell11 hZ7
 clear hG hbd hd hZ0 hb7 hZ7 hB7 hB0 e5 hhM hCo hSe hCm hs0 HY p0 p1 p2 p3 p4 p5 pf zY
 by_cases hlt:c.hi<c.lo
 ·have d1:decide (c.hi<c.lo)=true:=by simpa using hlt
  rw [if_pos hlt] at HP
  clear hlt
  go_wp2_with fail
  have c4:SL.Chg [M] w7 ((((w7.setCell ⟨M,6,none⟩ (.int .i64 (-1))).setCell ⟨M,7,none⟩ (.int .i64 0)).setCell ⟨M,8,none⟩ (.int .i64 0)).setCell ⟨M,9,none⟩ (.int .i64 0)):=(((SL.Chg.setCell _ (by simp) _).trans (.setCell _ (by simp) _)).trans (.setCell _ (by simp) _)).trans (.setCell _ (by simp) _)
  have hZ8:=(c4.block (w.heap.size +1) zl Zj).trans HZ7.out
  obtain ⟨e1,e2⟩:=eleven hZ8 (.int .i64 y.id) (.string y.wa) (.int .i64 y.pit) (.int .i64 y.ly) (.int .i64 y.co) (.bool y.ft) (.int .i64 (-1)) (.int .i64 0) (.int .i64 0) (.int .i64 0) (.string ⟨U.toArray⟩)
  have hb8:=HB7.out.trans (c4.belowE_w HB7.out.size Zj)
  have hBe:=hb8.trans (e2.belowE_w hb8.size (by simp))
  refine (fun W9 h1 h2=>?_:∀ W9:World,W9.heap[w.heap.size +1]?=some (.cells #[.int .i64 y.id,.string y.wa,.int .i64 y.pit,.int .i64 y.ly,.int .i64 y.co,.bool y.ft,.int .i64 (-1),.int .i64 0,.int .i64 0,.int .i64 0,.string ⟨U.toArray⟩] 203 (0,0))→Below w.heap.size w W9→bodyPost Tryz.prog Tryz.f191 Post Exit.ret _ W9) _ e1 hBe
  obtain ⟨q0,q1,q2,q3,q4,q5,q6,q7,q8,q9,q10,qf,ql⟩:=cell11 h1
  clear HM HZ7 z0 z1 z2 z3 z4 z5 z6 z7 z8 z9 z10 zf zl y0 y1 y2 y3 y4 y5 y6 y7 y8 y9 y10 yf yl e1 hBe
  exact bodyPost_ret (v:=.agg #[.int .i64 y.id,.string y.wa,.int .i64 y.pit,.int .i64 y.ly,.int .i64 y.co,.bool y.ft,.int .i64 (-1),.int .i64 0,.int .i64 0,.int .i64 0,.string ⟨U.toArray⟩]) Z9w rfl (HP.out _ _ rfl h2)
 ·have d1:decide (c.hi<c.lo)=false:=by simpa using hlt
  rw [if_neg hlt] at HP
  clear hlt
  go_wp2_with fail
  obtain ⟨e1,e2⟩:=eleven HZ7.out (.int .i64 y.id) (.string y.wa) (.int .i64 y.pit) (.int .i64 y.ly) (.int .i64 y.co) (.bool y.ft) (.int .i64 c.lo) (.int .i64 c.hi) (.int .i64 c.lob) (.int .i64 c.hib) (.string ⟨U.toArray⟩)
  have hBe:=HB7.out.trans (e2.belowE_w HB7.out.size (by simp))
  refine (fun W9 h1 h2=>?_:∀ W9:World,W9.heap[w.heap.size +1]?=some (.cells #[.int .i64 y.id,.string y.wa,.int .i64 y.pit,.int .i64 y.ly,.int .i64 y.co,.bool y.ft,.int .i64 c.lo,.int .i64 c.hi,.int .i64 c.lob,.int .i64 c.hib,.string ⟨U.toArray⟩] 203 (0,0))→Below w.heap.size w W9→bodyPost Tryz.prog Tryz.f191 Post Exit.ret _ W9) _ e1 hBe
  obtain ⟨q0,q1,q2,q3,q4,q5,q6,q7,q8,q9,q10,qf,ql⟩:=cell11 h1
  clear HM HZ7 z0 z1 z2 z3 z4 z5 z6 z7 z8 z9 z10 zf zl y0 y1 y2 y3 y4 y5 y6 y7 y8 y9 y10 yf yl e1 hBe
  exact bodyPost_ret (v:=.agg #[.int .i64 y.id,.string y.wa,.int .i64 y.pit,.int .i64 y.ly,.int .i64 y.co,.bool y.ft,.int .i64 c.lo,.int .i64 c.hi,.int .i64 c.lob,.int .i64 c.hib,.string ⟨U.toArray⟩]) Z9w rfl (HP.out _ _ rfl h2)
open Go Go.RowKit Go.Shelf
set_option maxHeartbeats 4000000
set_option maxRecDepth 100000
theorem eqV_all {x y:Shd} {c d:Spn} {u v:List UInt8}:(x.id=y.id∧x.wa.toList=y.wa.toList∧x.pit=y.pit∧x.ly=y.ly∧x.co=y.co∧x.ft=y.ft∧c.lo=d.lo∧c.hi=d.hi∧c.lob=d.lob∧c.hib=d.hib∧u=v) ↔ (eqS x y && (eqP c d && (u == v)))=true:=by
 unfold eqS eqP
 simp only [Bool.and_eq_true,beq_iff_eq,ByteArray.toList_eq,and_assoc]
theorem neqV_run (x y:Shd) (c d:Spn) (u v:List UInt8) (w:World):(binOp .neq 203 (.agg (valV x c u)) (.agg (valV y d v))).run Tryz.prog w=.ok (.bool (!(eqS x y && (eqP c d && (u == v))))) w:=by
 have h:=eqV_all (x:=x) (y:=y) (c:=c) (d:=d) (u:=u) (v:=v)
 generalize (eqS x y && (eqP c d && (u == v)))=B at *
 unfold valV
 rw [run_neq_struct,run_equalIn_agg _ _ _ _ _ Zk Zk]
 simp [go_sem,Tryz.underlying203]
 exact Z9x
def encB (x:Bd):List Value:=Bd.cs x
theorem neqBd_run (x y:Bd) (w:World):(binOp .neq 69 (.agg (encB x).toArray) (.agg (encB y).toArray)).run Tryz.prog w=.ok (.bool (!(eqB x y))) w:=by
 have h:(x.frm=y.frm∧x.tow=y.tow∧x.most=y.most∧x.bid=y.bid) ↔ eqB x y=true:=by unfold eqB;simp only [Bool.and_eq_true,beq_iff_eq]
 generalize eqB x y=B at *
 unfold encB
 simp only [Bd.cs]
 rw [run_neq_struct,run_equalIn_agg _ _ _ _ _ Zk Zk]
 simp [go_sem,Tryz.underlying69]
 exact Z9x
theorem allEq_eqBs:∀ (l m:List Bd),Lib.allEq eqB l m=eqBs l m
 | [],[]=>rfl
 | [],_::_=>rfl
 | _::_,[]=>rfl
 | x::l,y::m=>by simp only [Lib.allEq,eqBs,allEq_eqBs l m]
theorem bds_enc {w:World} {b o n c:Nat} {xs:List Bd} (h:BdsAt w (some ⟨b,o,none⟩) n c xs):∀ j,j<xs.length→∀ i v,(encB xs[j]!)[i]?=some v→w.cell? ⟨b,o +j * 4 +i,none⟩=some v:=by
 intro j hj i v hv
 obtain ⟨_,_,h3⟩:=h.at_ _ rfl
 obtain ⟨k0,k1,k2,k3⟩:=h3 j hj
 simp only at k0 k1 k2 k3
 have e:xs[j]! =xs.getD j ⟨0,0,0,0⟩:=by rw [getElem!_pos xs j hj,List.getD_eq_getElem?_getD,List.getElem?_eq_getElem hj];rfl
 have e2:xs.getD j ⟨0,0,0,0⟩=xs.getD j default:=by rw [List.getD_eq_getElem?_getD,List.getD_eq_getElem?_getD,List.getElem?_eq_getElem hj];rfl
 rw [e,e2] at hv
 unfold encB at hv
 simp only [Bd.cs] at hv
 match i,hv with
 | 0,hv=>rw [← hv];exact k0
 | 1,hv=>rw [← hv];exact k1
 | 2,hv=>rw [← hv];exact k2
 | 3,hv=>rw [← hv];exact k3
 | i +4,hv=>simp at hv
theorem equalBd (a1 a2:Option Addr) (n1 n2 c1 c2:Nat) (xs ys:List Bd) (w:World) (hx:BdsAt w a1 n1 c1 xs) (hy:BdsAt w a2 n2 c2 ys) (hx0:xs≠[]) (hy0:ys≠[]) :
 Calls Tryz.prog 192 #[.slice a1 n1 c1,.slice a2 n2 c2] w fun e w'=>e=.returned (.bool (eqBs xs ys))∧Below w.heap.size w w':=by
 have hsx:=hx.small
 have hsy:=hy.small
 obtain rfl:=hx.len
 obtain rfl:=hy.len
 match a1,hx with
 | none,hx=>exact absurd (hx.nil rfl).1 hx0
 | some ⟨b1,o1,s1⟩,hx =>
   match a2,hy with
   | none,hy=>exact absurd (hy.nil rfl).1 hy0
   | some ⟨b2,o2,s2⟩,hy =>
     obtain rfl:s1=none:=(hx.at_ _ rfl).1
     obtain rfl:s2=none:=(hy.at_ _ rfl).1
     refine (AnyQ.slices_Equal Tryz.equalBA 4 ?_ ?_ encB (fun _=>rfl) eqB ⟨neqBd_run,.agg _ Zk⟩ b1 o1 xs.length c1 b2 o2 ys.length c2 xs ys w (Nat.le_refl _) (Nat.le_refl _) (by omega) (by omega) (bds_enc hx) (bds_enc hy)).mono ?_
     ·intro w;kernel_rfl
     ·intro w;kernel_rfl
     ·rintro e w' ⟨rfl,q,rfl⟩
      rw [List.take_length,List.take_length,allEq_eqBs]
      exact ⟨rfl,belowN (Below.refl _ _)⟩
open Go.RowKit Go.Shelf
set_option maxHeartbeats 8000000
set_option maxRecDepth 100000
theorem DfI.app {w wI W W':World} {L1:Nat} {r r':Value} {ds:List Int} {x:Int} (h:DfI w wI W L1 r ds) (hw:w.heap.size≤wI.heap.size) (hr:W'.ownsRow w.heap.size 3 1 r' (ds.length +1) (ds.map (.int .i64) ++[.int .i64 x])) (hg:W.grownBy W' r.ownBlock) (hat:r'.ownBlock=r.ownBlock∨r'.ownBlock=some W.heap.size):DfI w wI W' L1 r' (ds ++[x]):=by
 have hz:=h.low.size
 have hb:=SL.row_bounds h.row
 have hc:SL.Chg r.ownBlock.toList W W':=.of_own hg (fun k hk=>by simp [hk])
 refine ⟨by simpa using hr,fun k hk=>?_,h.low.trans (hc.belowE_w (by omega) (fun k hk=>(hb k hk).1)),fun k h1 h2=>(hc.block k (by omega) (fun hk=>?_)).trans (h.mid k h1 h2)⟩
 ·rcases hat with e | e
  ·rw [e] at hk;exact h.own k hk
  ·rw [e] at hk;simp at hk;subst hk;right;omega
 ·rcases h.own k hk with h3 | h3 <;> omega
/-- A sherd of a row. -/
theorem srow {w:World} {base:Nat} {t:TypeId} {n G cap:Nat} {l:List Shd} (h:w.ownsRow base t 6 (.slice (some ⟨G,0,none⟩) n cap) n (scs l)) {i:Nat} (hi:i<l.length) :
 w.cell? ⟨G,i * 6,none⟩=some (.int .i64 (l.getD i default).id)∧w.cell? ⟨G,i * 6 +1,none⟩=some (.string (l.getD i default).wa)∧w.cell? ⟨G,i * 6 +2,none⟩=some (.int .i64 (l.getD i default).pit) ∧
  w.cell? ⟨G,i * 6 +3,none⟩=some (.int .i64 (l.getD i default).ly)∧w.cell? ⟨G,i * 6 +4,none⟩=some (.int .i64 (l.getD i default).co)∧w.cell? ⟨G,i * 6 +5,none⟩=some (.bool (l.getD i default).ft)∧G<w.heap.size:=by
 have g:=fun j hj=>flatS_get (f:=Shd.cs) (k:=6) (fun _=>rfl) l i j hi hj
 have hl:=h.1
 rw [scs_length] at hl
 have k:=fun (j:Nat) (hj:j<6) (u:Value) (hu:(Shd.cs (l.getD i default))[j]?=some u)=>(show w.cell? ⟨G,i * 6 +j,none⟩=some u by
  rw [h.cellAt (i * 6 +j) (by omega)]
  exact (g j hj).trans hu)
 exact ⟨k 0 (by omega) _ rfl,k 1 (by omega) _ rfl,k 2 (by omega) _ rfl,k 3 (by omega) _ rfl,k 4 (by omega) _ rfl,k 5 (by omega) _ rfl,(SL.row_bounds h G (by simp [Value.ownBlock])).2⟩
/-- The first of the sherds, as far as they are others. -/
def difK (s t:List Itm) (j:Nat):List Int:=(((sherdsL s).take j).filter (otherB s t)).map (·.id)
theorem difK_succ {s t:List Itm} {j:Nat} (hj:j<(sherdsL s).length):difK s t (j +1)=difK s t j ++(if otherB s t ((sherdsL s).getD j default)=true then [((sherdsL s).getD j default).id] else []):=by
 unfold difK
 rw [List.take_succ_eq_append_getElem hj,List.filter_append,List.map_append,List.getD_eq_getElem?_getD,List.getElem?_eq_getElem hj]
 congr 1
 simp only [Option.getD_some]
 by_cases h:otherB s t (sherdsL s)[j]=true <;> simp [h]
theorem own_at {w:World} {base:Nat} {e:TypeId} {size n cap:Nat} {a:Option Addr} {xs:List Value} (h:w.ownsRow base e size (.slice a n cap) n xs) (hn:0<n):∃ G,a=some ⟨G,0,none⟩:=by
 obtain ⟨_,⟨hv,h0⟩ | ⟨g,c,cur,hv,_⟩⟩:=h
 ·omega
 ·injection hv with h1 _ _
  exact ⟨g,h1⟩
theorem sto3_g {Fe:Nat→List Nat} {p q:Nat} {w':World} {M base n1 n2:Nat} {a b c co v1 v2 x:Value} {b1 b2:List Value} {t t2:TypeId} {K:World→Prop} (hx:x=.pointer (some ⟨M,0,none⟩)) (hM:base≤M) (hh:w'.heap[M]?=some (.cells #[a,b,c] t (0,0))) (r1:w'.ownsRow base t2 4 v1 n1 b1) (r2:w'.ownsRow base t2 4 v2 n2 b2)
 (e5:Fe p=v1.ownBlock.toList ++v2.ownBlock.toList) (e6:Fe q=[M]) (hd:∀ k ∈ Fe p,k ∉ Fe q)
 (hK:∀ (w1:World) (F:List Nat),SL.Chg (List.flatMap Fe [p,q]) w' w1→(∃ M',∃ u1,∃ u2,∃ F1 F2,(x=.pointer (some ⟨M',0,none⟩)∧F1=[])∧(∃ F3 F4,(base≤M'∧w1.heap[M']?=some (.cells #[co,u1,u2] t (0,0))∧F3=[M'])∧(∃ F5 F6,(w1.ownsRow base t2 4 u1 n1 b1∧F5=u1.ownBlock.toList)∧(w1.ownsRow base t2 4 u2 n2 b2∧F6=u2.ownBlock.toList)∧F4=F5 ++F6)∧F2=F3 ++F4)∧F=F1 ++F2)→(∀ k ∈ F,k ∈ List.flatMap Fe [p,q]∨w'.heap.size≤k∧k<w1.heap.size)→K w1) :
 K (((w'.setCell ⟨M,0,none⟩ co).setCell ⟨M,1,none⟩ v1).setCell ⟨M,2,none⟩ v2):=by
 obtain ⟨k1,k2⟩:=set3 hh co v1 v2
 have e:List.flatMap Fe [p,q]=v1.ownBlock.toList ++v2.ownBlock.toList ++[M]:=by simp [e5,e6]
 have m1:M ∉ v1.ownBlock.toList:=fun h=>hd M (by rw [e5];exact List.mem_append.2 (.inl h)) (by rw [e6];simp)
 have m2:M ∉ v2.ownBlock.toList:=fun h=>hd M (by rw [e5];exact List.mem_append.2 (.inr h)) (by rw [e6];simp)
 refine hK _ ([] ++([M] ++(v1.ownBlock.toList ++v2.ownBlock.toList))) (k2.monoW fun k hk=>by rw [e];simp at hk;subst hk;simp) ⟨M,v1,v2,_,_,⟨hx,rfl⟩,⟨_,_,⟨hM,k1,rfl⟩,⟨_,_,⟨SL.row_stab r1 fun k hk=>k2.block k (SL.row_bounds r1 k hk).2 (by simp;rintro rfl;exact m1 hk),rfl⟩,⟨SL.row_stab r2 fun k hk=>k2.block k (SL.row_bounds r2 k hk).2 (by simp;rintro rfl;exact m2 hk),rfl⟩,rfl⟩,rfl⟩,rfl⟩ ?_
 intro k hk
 left
 rw [e]
 simp at hk ⊢
 rcases hk with h | h | h
 ·exact .inr (.inr h)
 ·exact .inl h
 ·exact .inr (.inl h)
theorem sherds_len (s:List Itm):(sherdsL s).length≤s.length:=by
 exact Z9v
theorem difK_len (s t:List Itm) (j:Nat):(difK s t j).length≤s.length:=by
 unfold difK
 rw [List.length_map]
 exact Nat.le_trans (List.length_filter_le _ _) (Nat.le_trans (by rw [List.length_take];omega) (sherds_len s))
theorem ways_ne {co:Int} {ms:List Itm} (h:3≤co):waysB co ms≠[]:=by
 intro e
 have:=congrArg List.length e
 unfold waysB at this
 rw [List.length_append,sidesL_len] at this
 simp at this
 omega
theorem turns_ne {co:Int} {ms:List Itm} (h:3≤co):turnsB co ms≠[]:=by
 intro e
 have:=congrArg List.length e
 unfold turnsB at this
 rw [List.length_append,bendsL_len] at this
 simp at this
 omega
theorem bds_len {s:List Itm} {y:Shd} (h:s.length≤300) (hc:y.co≤16):(waysB y.co (keptL s 2 y.id)).length≤1000∧(turnsB y.co (keptL s 3 y.id)).length≤1000:=by
 have h2:(keptL s 2 y.id).length≤s.length:=List.length_filter_le _ _
 have h3:(keptL s 3 y.id).length≤s.length:=List.length_filter_le _ _
 unfold waysB turnsB
 rw [List.length_append,List.length_append,sidesL_len,bendsL_len,msB_len,msB_len]
 omega
/-- The Ids after so many of the two passes. -/
def difD (s t:List Itm) (q:Nat):List Int:=if q=0 then [] else if q=1 then difK s t (sherdsL s).length else difK s t (sherdsL s).length ++difK t s (sherdsL t).length
theorem difD_all (s t:List Itm):differL s t=ascOf (difD s t 2):=by
 unfold differL difD difK
 simp
theorem sdiffer_any (a:Option Addr) (n cap:Nat) (s:List Itm) (b:Option Addr) (m d:Nat) (t:List Itm) (w:World) (hs:ItmsAt w a n cap s) (ht:ItmsAt w b m d t) (hS:DifOk s) (hT:DifOk t) :
 Calls Tryz.prog 133 #[.slice a n cap,.slice b m d] w (RowPost w 3 1 (differL s t).length ((differL s t).map (.int .i64))):=by
 have hP1:=World.alloc_heap_new w (Obj.cells #[.slice a n cap,.slice b m d,.slice b m d,.slice a n cap] 200)
 have hB1:=one_alloc w (Obj.cells #[.slice a n cap,.slice b m d,.slice b m d,.slice a n cap] 200)
 have HP:=Lib.hid (show ∀ v w',Below w.heap.size w w'→w'.ownsRow w.heap.size 3 1 v (differL s t).length ((differL s t).map (.int .i64))→RowPost w 3 1 (differL s t).length ((differL s t).map (.int .i64)) (.returned v) w' from fun v w' h1 h2=>⟨v,rfl,h1,h2⟩)
 generalize RowPost w 3 1 (differL s t).length ((differL s t).map (.int .i64))=Post at *
 have hs1:=hs.below hB1
 have ht1:=ht.below hB1
 have Hs:=Lib.hid hS
 have Ht:=Lib.hid hT
 have zP:=(Array.getElem?_eq_some_iff.1 hP1).1
 clear hs ht hS hT
 go_enter Tryz.func133,Tryz.ntmps133
 go_wp2_with fail
 generalize w.alloc (Obj.cells #[.slice a n cap,.slice b m d,.slice b m d,.slice a n cap] 200)=W1 at *
 go_loopw [5,22] (fun r i wr=>∃ q:Nat,q≤2∧i=.int .i64 q∧wr.ownsRow W1.heap.size 3 1 r (difD s t q).length ((difD s t q).map (.int .i64))∧Below W1.heap.size W1 wr) (fun _ i _=>2 - (RowKit.intOf i).toNat)
 case atStart=>exact ⟨0,by omega,rfl,World.ownsRow_nil _ _ _ _,Below.refl _ _⟩
 case round =>
 obtain ⟨q,hq,hqi,hro,hB⟩:=hrel
 have hq3:q=0∨q=1∨q=2:=by omega
 have hs:=hs1
 have ht:=ht1
 rcases hq3 with rfl | rfl | rfl
 ·have hqv:_=Value.int .i64 0:=hqi
  subst hqv
  clear hqi hq
  have HD0:(difD s t 0).length≤1000:=by simp [difD]
  have c0:=(SL.cells_of ((hB.block w.heap.size zP).trans hP1)).1 0
  have c1:=(SL.cells_of ((hB.block w.heap.size zP).trans hP1)).1 1
  have c2:=(SL.cells_of ((hB.block w.heap.size zP).trans hP1)).1 2
  have c3:=(SL.cells_of ((hB.block w.heap.size zP).trans hP1)).1 3
  simp at c0 c1 c2 c3
  have zPw:=Nat.lt_of_lt_of_le zP hB.size
  have hbx:=World.alloc_heap_new wr (Obj.cells #[.slice a n cap,.slice b m d] 200)
  have hal:=one_alloc wr (Obj.cells #[.slice a n cap,.slice b m d] 200)
  have hSh:=ssherds_any a n cap s _ (hs.below (hB.ch2 hal)) Hs.out.len Hs.out.ids Hs.out.rng
  unfold RowPost at hSh
  have HR:=Lib.hid hro
  clear hro
  go_wp2_with (go_at_call 131;(with_reducible refine hSh.mono ?_);rintro e wI ⟨xv,rfl,hbI,hoX⟩;obtain ⟨xa,xc,rfl,_⟩:=owns_slice hoX)
  have HDn:=Lib.hid (show difD s t 1=difD s t 0 ++difK s t (sherdsL s).length by simp [difD])
  generalize difD s t 0=D0 at *
  have hBI:=(hB.ch2 hal).ch2 hbI
  have hbxI:=(hbI.block wr.heap.size (by simp)).trans hbx
  have hrI:=(HR.out.up hal (Nat.le_refl _)).up hbI (Nat.le_refl _)
  have hrB:=SL.row_bounds HR.out
  have hzI:=hbI.size
  rw [World.size_alloc] at hzI hoX
  have hzB:=hB.size
  have hlX:=Nat.le_trans (sherds_len s) Hs.out.len
  clear hbI hbx hal hSh HR c0 c1 c2 c3
  generalize wr.heap.size=L1 at *
  go_loopw [5,30] (fun r i wr=>∃ j:Nat,j≤(sherdsL s).length∧i=.int .i64 j∧DfI W1 wI wr L1 r (D0 ++difK s t j)) (fun _ i _=>(sherdsL s).length - (RowKit.intOf i).toNat)
  case atStart=>exact ⟨0,Nat.zero_le _,rfl,⟨by simpa [difK] using hrI,fun k hk=>.inl (hrB k hk).2,Below.refl _ _,fun _ _ _=>rfl⟩⟩
  case round =>
  clear hrI hrB
  obtain ⟨j,hj,rfl,hD⟩:=hrel
  have hnn:(0:Int)≤j:=by omega
  have hBw:=hBI.trans hD.low
  have hzw:=hD.low.size
  by_cases hlt:j<(sherdsL s).length
  ·have i1:(j:Int)<((sherdsL s).length:Int):=by omega
   obtain ⟨XG,rfl⟩:=own_at hoX (by omega)
   have hbX:=SL.row_bounds hoX
   have hoXw:=SL.row_stab hoX (fun k hk=>hD.mid k (by have:=(hbX k hk).1;omega) (hbX k hk).2)
   obtain ⟨x0,x1,x2,x3,x4,x5,xG⟩:=srow hoXw hlt
   have hbxw:=(hD.mid L1 (Nat.le_refl _) (by omega)).trans hbxI
   have HsS:=Hs.out.sh (x:=(sherdsL s).getD j default) Z9t
   have Hsu:=Lib.hid (difK_succ (t:=t) hlt)
   have hdl:=difK_len s t j
   have hD0:D0.length≤1000:=HD0
   generalize (sherdsL s).getD j default=x at *
   have b0:=(SL.cells_of hbxw).1 0
   have b1:=(SL.cells_of hbxw).1 1
   simp at b0 b1
   have hal:=one_alloc wr (Obj.cells #[.int .i64 x.id,.string x.wa,.int .i64 x.pit,.int .i64 x.ly,.int .i64 x.co,.bool x.ft] 72)
   have hX:=World.alloc_heap_new wr (Obj.cells #[.int .i64 x.id,.string x.wa,.int .i64 x.pit,.int .i64 x.ly,.int .i64 x.co,.bool x.ft] 72)
   have hSd:=ssherd_any b m d t x.id _ (ht.below (hBw.ch2 hal))
   unfold ShdPost at hSd
   have HbX:=Lib.hid hbxw
   have HX:=Lib.hid hX
   have HD:=Lib.hid hD
   have zb:=(Array.getElem?_eq_some_iff.1 hbxw).1
   have zb2:=Nat.lt_of_lt_of_le zb hal.size
   obtain ⟨q0,q1,q2,q3,q4,q5,qf,ql⟩:=cell6 hX
   have bb0:=(hal.block L1 zb)
   have hbx2:=(hal.block L1 zb).trans hbxw
   have b2:=(SL.cells_of hbx2).1 0
   have b3:=(SL.cells_of hbx2).1 1
   simp at b2 b3
   clear hbxw hX hD hoXw bb0 hbX
   cases hO:sherdO t x.id with
   | none =>
     rw [hO] at hSd
     simp only [Option.getD_none,Option.isSome_none,Shd.v,Shd.cs,Shd.zero] at hSd
     have HO:=Lib.hid (show otherB s t x=true by unfold otherB;rw [hO])
     clear hO
     go_wp2_with (go_at_call 150;(with_reducible refine hSd.mono ?_);rintro e w2 ⟨rfl,hb2⟩)
     have hal2:=one_alloc w2 (Obj.cells #[.int .i64 0,.string ⟨#[]⟩,.int .i64 0,.int .i64 0,.int .i64 0,.bool false] 72)
     have hX3:=alKeep (o':=Obj.cells #[.int .i64 0,.string ⟨#[]⟩,.int .i64 0,.int .i64 0,.int .i64 0,.bool false] 72) ((hb2.block wr.heap.size (by simp)).trans HX.out)
     have hD3:=((HD.out.up hBI.size hal).up hBI.size hb2).up hBI.size hal2
     have hzX:=(Array.getElem?_eq_some_iff.1 hX3).1
     have hDn:=fun q=>hD3.up hBI.size (belowN (n:=q) (Below.refl _ _))
     have hXn:=fun q=>((belowN (n:=q) (Below.refl _ _):Below (w2.alloc (Obj.cells #[.int .i64 0,.string ⟨#[]⟩,.int .i64 0,.int .i64 0,.int .i64 0,.bool false] 72)).heap.size _ _).block _ hzX).trans hX3
     clear q0 q1 q2 q3 q4 q5 qf ql b2 b3
     go_quiet (fail)
     have hD4:=hDn nq
     have hX4:=hXn nq
     clear hDn hXn hD3 hX3 hzX
     generalize (w2.alloc (Obj.cells #[.int .i64 0,.string ⟨#[]⟩,.int .i64 0,.int .i64 0,.int .i64 0,.bool false] 72)).drewN nq=w4 at *
     exact Za1
   | some z =>
     rw [hO] at hSd
     simp only [Option.getD_some,Option.isSome_some,Shd.v,Shd.cs] at hSd
     have Hz:=Lib.hid (Ht.out.shd x.id z hO)
     have Hx:=Lib.hid (Hs.out.shd x.id x HsS)
     have HO:=Lib.hid (show otherB s t x=(!(eqS x z && (eqP (valC s x.id) (valC t z.id) && (valU s x.id == valU t z.id))) || !(eqBs (waysB x.co (keptL s 2 x.id)) (waysB z.co (keptL t 2 z.id)) && eqBs (turnsB x.co (keptL s 3 x.id)) (turnsB z.co (keptL t 3 z.id)))) by unfold otherB;rw [hO])
     clear hO
     have hV1:=fun W (hb:Below W1.heap.size W1 W)=>svalues_any a n cap s x W (hs.below hb) (by have:=Hs.out.len;omega)
     have hV2:=fun W (hb:Below W1.heap.size W1 W)=>svalues_any b m d t z W (ht.below hb) (by have:=Ht.out.len;omega)
     have hne:=fun W=>neqV_run x z (valC s x.id) (valC t z.id) (valU s x.id) (valU t z.id) W
     generalize (eqS x z && (eqP (valC s x.id) (valC t z.id) && (valU s x.id == valU t z.id)))=B1 at *
     generalize valV x (valC s x.id) (valU s x.id)=V1 at *
     generalize valV z (valC t z.id) (valU t z.id)=V2 at *
     simp only [Shd.v,Shd.cs] at hV1 hV2
     go_wp2_with (go_at_call 150;(with_reducible refine hSd.mono ?_);rintro e w2 ⟨rfl,hb2⟩)
     have hal2:=one_alloc w2 (Obj.cells #[.int .i64 z.id,.string z.wa,.int .i64 z.pit,.int .i64 z.ly,.int .i64 z.co,.bool z.ft] 72)
     have hX3:=alKeep (o':=Obj.cells #[.int .i64 z.id,.string z.wa,.int .i64 z.pit,.int .i64 z.ly,.int .i64 z.co,.bool z.ft] 72) ((hb2.block wr.heap.size (by simp)).trans HX.out)
     have hZ3:=World.alloc_heap_new w2 (Obj.cells #[.int .i64 z.id,.string z.wa,.int .i64 z.pit,.int .i64 z.ly,.int .i64 z.co,.bool z.ft] 72)
     have hP3:=alKeep (o':=Obj.cells #[.int .i64 z.id,.string z.wa,.int .i64 z.pit,.int .i64 z.ly,.int .i64 z.co,.bool z.ft] 72) ((hb2.block L1 zb2).trans hbx2)
     have HD3:=Lib.hid (((HD.out.up hBI.size hal).up hBI.size hb2).up hBI.size hal2)
     have hB3:=((hBw.ch2 hal).ch2 hb2).ch2 hal2
     clear q0 q1 q2 q3 q4 q5 qf ql b0 b1 b2 b3 hSd hal hb2 hal2 hbx2 zb zb2 HD HX HbX
     generalize w2.alloc (Obj.cells #[.int .i64 z.id,.string z.wa,.int .i64 z.pit,.int .i64 z.ly,.int .i64 z.co,.bool z.ft] 72)=w3 at *
     generalize w2.heap.size=ZB at *
     generalize wr.heap.size=XB at *
     obtain ⟨q0,q1,q2,q3,q4,q5,qf,ql⟩:=cell6 hX3
     obtain ⟨r0,r1,r2,r3,r4,r5,rf,rl⟩:=cell6 hZ3
     have b0:=(SL.cells_of hP3).1 0
     have b1:=(SL.cells_of hP3).1 1
     simp at b0 b1
     have zb:=(Array.getElem?_eq_some_iff.1 hP3).1
     apply SLG.rule0 ?hm [] [42,43,44,45,46,47,48,49,50,51,52,53,54] [SLF.pq 42 [] _,SLF.pq 43 [0] _,SLF.pq 44 [1] _,SLF.pq 45 [2] _,SLF.pq 46 [2,3] _,SLF.pq 47 [2] _,SL.pu 48 [2,4,5] (.agg V1),SLF.pq 49 [2] _,SLF.pq 50 [2,7] _,SLF.pq 51 [2] _,SL.pu 52 [2,8,9] (.agg V2),SLF.pq 53 [2,6,10] _,SLF.pq 54 [2,11] _] [12] ?hck ?hkp (fun _=>[]) ?hin ?hdj ?hfr ?ob ?en2
     case hm=>kernel_rfl
     case hin=>exact SL.none_held rfl
     case hdj=>simp
     case hfr=>intro us;simp only [SL.frame,SL.put'];simp;exact rfl
     case ob =>
      exact Z9o
     case hck=>kernel_rfl
     case hkp=>kernel_rfl
     intro us w7 Fs hG hu hbd hd
     simp [SL.Used,SLF.pq] at hu
     obtain ⟨h12,_⟩:=hu
     rw [h12]
     have hb7:=(hG.below':Below w3.heap.size w3 w7)
     have hX7:=(hb7.block XB ql).trans hX3
     have hZ7:=(hb7.block ZB rl).trans hZ3
     have hP7:=(hb7.block L1 zb).trans hP3
     have HD7:=Lib.hid (HD3.out.up hBI.size hb7)
     have hB7:=hB3.ch2 hb7
     clear hG hbd hd h12 hV1 hV2 hne b0 b1 zb q0 q1 q2 q3 q4 q5 qf ql r0 r1 r2 r3 r4 r5 rf rl hX3 hZ3 hP3 HD3 hB3 hb7
     cases B1 with
     | false =>
       have HO:=Lib.hid (show otherB s t x=true by rw [HO.out];rfl)
       obtain ⟨w4,rfl⟩:∃ w4,w4=w7:=⟨w7,rfl⟩
       have hX4:=hX7
       have hD4:=HD7.out
       clear hX7 hZ7 hP7 HD7
       exact Za1
     | true =>
       have HO:=Lib.hid (HO.out.trans (Bool.false_or _))
       have hO1:=fun W (hb:Below W1.heap.size W1 W)=>soutline a n cap s x W (hs.below hb) Hs.out.len Hx.out.2.1 Hx.out.2.2
       have hO2:=fun W (hb:Below W1.heap.size W1 W)=>soutline b m d t z W (ht.below hb) Ht.out.len Hz.out.2.1 Hz.out.2.2
       have hWa:=ways_ne (ms:=keptL s 2 x.id) Hx.out.2.1.1
       have hTa:=turns_ne (ms:=keptL s 3 x.id) Hx.out.2.1.1
       have hWb:=ways_ne (ms:=keptL t 2 z.id) Hz.out.2.1.1
       have hTb:=turns_ne (ms:=keptL t 3 z.id) Hz.out.2.1.1
       have hla:=bds_len (s:=s) (y:=x) Hs.out.len Hx.out.2.1.2
       have hlb:=bds_len (s:=t) (y:=z) Ht.out.len Hz.out.2.1.2
       unfold OutPost at hO1 hO2
       generalize waysB x.co (keptL s 2 x.id)=WA at *
       generalize turnsB x.co (keptL s 3 x.id)=TA at *
       generalize waysB z.co (keptL t 2 z.id)=WB at *
       generalize turnsB z.co (keptL t 3 z.id)=TB at *
       simp only [Shd.v,Shd.cs] at hO1 hO2
       obtain ⟨q0,q1,q2,q3,q4,q5,qf,ql⟩:=cell6 hX7
       obtain ⟨r0,r1,r2,r3,r4,r5,rf,rl⟩:=cell6 hZ7
       have b0:=(SL.cells_of hP7).1 0
       have b1:=(SL.cells_of hP7).1 1
       simp at b0 b1
       have zb:=(Array.getElem?_eq_some_iff.1 hP7).1
       go_wp2_with fail
       apply SLG.rule0 ?hm [] [60,61,62,63,64,65,66,67,12,13] [SLF.pq 60 [] _,SLF.pq 61 [0] _,SLF.pq 62 [] _,SL.aw 63 [1,2] [] (fun p=>.ex fun v1:Value=>.ex fun v2:Value=>.sep (.pure (p=.agg #[.int .i64 x.co,v1,v2])) (.sep (.row w7.heap.size 69 4 v1 WA.length (bcs WA)) (.row w7.heap.size 69 4 v2 TA.length (bcs TA)))),SLF.pq 64 [] _,SLF.pq 65 [4] _,SLF.pq 66 [] _,SL.aw 67 [5,6] [] (fun p=>.ex fun v1:Value=>.ex fun v2:Value=>.sep (.pure (p=.agg #[.int .i64 z.co,v1,v2])) (.sep (.row w7.heap.size 69 4 v1 WB.length (bcs WB)) (.row w7.heap.size 69 4 v2 TB.length (bcs TB)))),SL.box 12 [] [] w7.heap.size 52 #[.int .i64 0,.slice none 0 0,.slice none 0 0],SL.box 13 [] [] w7.heap.size 52 #[.int .i64 0,.slice none 0 0,.slice none 0 0],SL.aw 12 [3,8] [3,8] (fun p=>.ex fun M:Nat=>.ex fun v1:Value=>.ex fun v2:Value=>.sep (.pure (p=.pointer (some ⟨M,0,none⟩))) (.sep (.blk w7.heap.size M 52 #[.int .i64 x.co,v1,v2]) (.sep (.row w7.heap.size 69 4 v1 WA.length (bcs WA)) (.row w7.heap.size 69 4 v2 TA.length (bcs TA))))),SL.aw 13 [7,9] [7,9] (fun p=>.ex fun M:Nat=>.ex fun v1:Value=>.ex fun v2:Value=>.sep (.pure (p=.pointer (some ⟨M,0,none⟩))) (.sep (.blk w7.heap.size M 52 #[.int .i64 z.co,v1,v2]) (.sep (.row w7.heap.size 69 4 v1 WB.length (bcs WB)) (.row w7.heap.size 69 4 v2 TB.length (bcs TB)))))] [10,11] ?hck ?hkp (fun _=>[]) ?hin ?hdj ?hfr ?ob ?en3
       case hm=>kernel_rfl
       case hin=>exact SL.none_held rfl
       case hdj=>simp
       case hfr=>intro us;simp only [SL.frame,SL.put'];simp;exact rfl
       case ob =>
        exact Z9m
       case hck=>kernel_rfl
       case hkp=>kernel_rfl
       intro us2 w8 Fs2 hG hu hbd hd
       simp [SL.Used,SL.aw_sub] at hu
       obtain ⟨hu1,hu2⟩:=hu
       obtain ⟨M1,v1,v2,F1,F2,⟨e12,rfl⟩,⟨F3,F4,⟨_,hM1,rfl⟩,⟨F5,F6,⟨ra1,rfl⟩,⟨ra2,rfl⟩,rfl⟩,rfl⟩,_⟩:=SL.aw_out hu1
       obtain ⟨M2,v3,v4,G1,G2,⟨e13,rfl⟩,⟨G3,G4,⟨_,hM2,rfl⟩,⟨G5,G6,⟨rb1,rfl⟩,⟨rb2,rfl⟩,rfl⟩,rfl⟩,_⟩:=SL.aw_out hu2
       obtain ⟨wa1,wc1,rfl,_⟩:=owns_slice ra1
       obtain ⟨ta1,tc1,rfl,_⟩:=owns_slice ra2
       obtain ⟨wa2,wc2,rfl,_⟩:=owns_slice rb1
       obtain ⟨ta2,tc2,rfl,_⟩:=owns_slice rb2
       have hb8:Below w7.heap.size w7 w8:=hG.below'
       have hX8:=(hb8.block XB ql).trans hX7
       have HD8:=Lib.hid (HD7.out.up hBI.size hb8)
       rw [e12,e13]
       have kE1:=BdsAt.of_owns ra1 (by omega)
       have kE2:=BdsAt.of_owns ra2 (by omega)
       have kE3:=BdsAt.of_owns rb1 (by omega)
       have kE4:=BdsAt.of_owns rb2 (by omega)
       have hE1:=fun W (hb:Below w8.heap.size w8 W)=>equalBd _ _ _ _ _ _ WA WB W (kE1.below hb) (kE3.below hb) hWa hWb
       have hE2:=fun W (hb:Below w8.heap.size w8 W)=>equalBd _ _ _ _ _ _ TA TB W (kE2.below hb) (kE4.below hb) hTa hTb
       have hE0:=Below.refl w8.heap.size w8
       obtain ⟨m0,m1,m2,mf,ml⟩:=cell3s hM1
       obtain ⟨n0,n1,n2,nf,nl⟩:=cell3s hM2
       have HM1:=Lib.hid hM1
       have HM2:=Lib.hid hM2
       generalize eqBs WA WB=Q1 at *
       generalize eqBs TA TB=Q2 at *
       clear hG hbd hd hu1 hu2 e12 e13 ra1 ra2 rb1 rb2 hO1 hO2 hM1 hM2 b0 b1 zb q0 q1 q2 q3 q4 q5 qf ql r0 r1 r2 r3 r4 r5 rf rl hX7 hZ7 hP7 HD7 hb8 hWa hTa hWb hTb kE1 kE2 kE3 kE4
       cases Q1 with
       | false =>
         have HO:=Lib.hid (show otherB s t x=true by rw [HO.out];rfl)
         go_upto_region 13 with (go_at_call 192;(with_reducible refine (hE1 _ hE0).mono ?_);rintro e w4 ⟨rfl,hb9⟩)
         have hX4:=(hb9.block XB (Array.getElem?_eq_some_iff.1 hX8).1).trans hX8
         have hD4:=HD8.out.up hBI.size hb9
         clear hX8 HD8 hb9 hE0 hE1 hE2 m0 m1 m2 mf ml n0 n1 n2 nf nl
         exact Za1
       | true =>
         cases Q2 with
         | false =>
           have HO:=Lib.hid (show otherB s t x=true by rw [HO.out];rfl)
           go_upto_region 13 with (first
            | (go_at_call 192;(with_reducible refine (hE1 _ hE0).mono ?_);rintro e w9 ⟨rfl,hb9⟩;obtain ⟨g0,g1,g2,gf,gl⟩:=cell3s ((hb9.block _ ml).trans HM1.out);obtain ⟨k0,k1,k2,kf,kl⟩:=cell3s ((hb9.block _ nl).trans HM2.out))
            | (go_at_call 192;(with_reducible refine (hE2 _ hb9).mono ?_);rintro e w4 ⟨rfl,hb10⟩;have hc9:=hb9.ch2 hb10))
           have hX4:=(hc9.block XB (Array.getElem?_eq_some_iff.1 hX8).1).trans hX8
           have hD4:=HD8.out.up hBI.size hc9
           clear hX8 HD8 hc9 hb9 hE0 hE1 hE2 m0 m1 m2 mf ml n0 n1 n2 nf nl g0 g1 g2 gf gl k0 k1 k2 kf kl
           exact Za1
         | true =>
           have HO:=Lib.hid (show otherB s t x=false by rw [HO.out];rfl)
           exact Z9q
  ·have hje:j=(sherdsL s).length:=by omega
   have i1:¬ (j:Int)<((sherdsL s).length:Int):=by omega
   have HQ:=Lib.hid (And.intro (show wr.ownsRow W1.heap.size 3 1 _ (difD s t 1).length ((difD s t 1).map (.int .i64)) by rw [HDn.out,← hje];exact hD.row) hBw)
   clear hje hlt hj hD hoX hbxI hBI hBw
   go_wp2_with fail
   go_roundw
   case rel=>exact ⟨1,by omega,by go_num,HQ.out.1,HQ.out.2⟩
   case measure=>simp [RowKit.intOf]
 ·have hqv:_=Value.int .i64 1:=hqi
  subst hqv
  clear hqi hq
  have HD0:(difD s t 1).length≤1000:=by
   have:=difK_len s t (sherdsL s).length
   have:=Hs.out.len
   simp [difD]
   omega
  have c0:=(SL.cells_of ((hB.block w.heap.size zP).trans hP1)).1 0
  have c1:=(SL.cells_of ((hB.block w.heap.size zP).trans hP1)).1 1
  have c2:=(SL.cells_of ((hB.block w.heap.size zP).trans hP1)).1 2
  have c3:=(SL.cells_of ((hB.block w.heap.size zP).trans hP1)).1 3
  simp at c0 c1 c2 c3
  have zPw:=Nat.lt_of_lt_of_le zP hB.size
  have hbx:=World.alloc_heap_new wr (Obj.cells #[.slice b m d,.slice a n cap] 200)
  have hal:=one_alloc wr (Obj.cells #[.slice b m d,.slice a n cap] 200)
  have hSh:=ssherds_any b m d t _ (ht.below (hB.ch2 hal)) Ht.out.len Ht.out.ids Ht.out.rng
  unfold RowPost at hSh
  have HR:=Lib.hid hro
  clear hro
  go_wp2_with (go_at_call 131;(with_reducible refine hSh.mono ?_);rintro e wI ⟨xv,rfl,hbI,hoX⟩;obtain ⟨xa,xc,rfl,_⟩:=owns_slice hoX)
  have HDn:=Lib.hid (show difD s t 2=difD s t 1 ++difK t s (sherdsL t).length by simp [difD])
  generalize difD s t 1=D0 at *
  have hBI:=(hB.ch2 hal).ch2 hbI
  have hbxI:=(hbI.block wr.heap.size (by simp)).trans hbx
  have hrI:=(HR.out.up hal (Nat.le_refl _)).up hbI (Nat.le_refl _)
  have hrB:=SL.row_bounds HR.out
  have hzI:=hbI.size
  rw [World.size_alloc] at hzI hoX
  have hzB:=hB.size
  have hlX:=Nat.le_trans (sherds_len t) Ht.out.len
  clear hbI hbx hal hSh HR c0 c1 c2 c3
  generalize wr.heap.size=L1 at *
  go_loopw [5,30] (fun r i wr=>∃ j:Nat,j≤(sherdsL t).length∧i=.int .i64 j∧DfI W1 wI wr L1 r (D0 ++difK t s j)) (fun _ i _=>(sherdsL t).length - (RowKit.intOf i).toNat)
  case atStart=>exact ⟨0,Nat.zero_le _,rfl,⟨by simpa [difK] using hrI,fun k hk=>.inl (hrB k hk).2,Below.refl _ _,fun _ _ _=>rfl⟩⟩
  case round =>
  clear hrI hrB
  obtain ⟨j,hj,rfl,hD⟩:=hrel
  have hnn:(0:Int)≤j:=by omega
  have hBw:=hBI.trans hD.low
  have hzw:=hD.low.size
  by_cases hlt:j<(sherdsL t).length
  ·have i1:(j:Int)<((sherdsL t).length:Int):=by omega
   obtain ⟨XG,rfl⟩:=own_at hoX (by omega)
   have hbX:=SL.row_bounds hoX
   have hoXw:=SL.row_stab hoX (fun k hk=>hD.mid k (by have:=(hbX k hk).1;omega) (hbX k hk).2)
   obtain ⟨x0,x1,x2,x3,x4,x5,xG⟩:=srow hoXw hlt
   have hbxw:=(hD.mid L1 (Nat.le_refl _) (by omega)).trans hbxI
   have HsS:=Ht.out.sh (x:=(sherdsL t).getD j default) Z9t
   have Hsu:=Lib.hid (difK_succ (t:=s) hlt)
   have hdl:=difK_len t s j
   have hD0:D0.length≤1000:=HD0
   generalize (sherdsL t).getD j default=x at *
   have b0:=(SL.cells_of hbxw).1 0
   have b1:=(SL.cells_of hbxw).1 1
   simp at b0 b1
   have hal:=one_alloc wr (Obj.cells #[.int .i64 x.id,.string x.wa,.int .i64 x.pit,.int .i64 x.ly,.int .i64 x.co,.bool x.ft] 72)
   have hX:=World.alloc_heap_new wr (Obj.cells #[.int .i64 x.id,.string x.wa,.int .i64 x.pit,.int .i64 x.ly,.int .i64 x.co,.bool x.ft] 72)
   have hSd:=ssherd_any a n cap s x.id _ (hs.below (hBw.ch2 hal))
   unfold ShdPost at hSd
   have HbX:=Lib.hid hbxw
   have HX:=Lib.hid hX
   have HD:=Lib.hid hD
   have zb:=(Array.getElem?_eq_some_iff.1 hbxw).1
   have zb2:=Nat.lt_of_lt_of_le zb hal.size
   obtain ⟨q0,q1,q2,q3,q4,q5,qf,ql⟩:=cell6 hX
   have bb0:=(hal.block L1 zb)
   have hbx2:=(hal.block L1 zb).trans hbxw
   have b2:=(SL.cells_of hbx2).1 0
   have b3:=(SL.cells_of hbx2).1 1
   simp at b2 b3
   clear hbxw hX hD hoXw bb0 hbX
   cases hO:sherdO s x.id with
   | none =>
     rw [hO] at hSd
     simp only [Option.getD_none,Option.isSome_none,Shd.v,Shd.cs,Shd.zero] at hSd
     have HO:=Lib.hid (show otherB t s x=true by unfold otherB;rw [hO])
     clear hO
     go_wp2_with (go_at_call 150;(with_reducible refine hSd.mono ?_);rintro e w2 ⟨rfl,hb2⟩)
     have hal2:=one_alloc w2 (Obj.cells #[.int .i64 0,.string ⟨#[]⟩,.int .i64 0,.int .i64 0,.int .i64 0,.bool false] 72)
     have hX3:=alKeep (o':=Obj.cells #[.int .i64 0,.string ⟨#[]⟩,.int .i64 0,.int .i64 0,.int .i64 0,.bool false] 72) ((hb2.block wr.heap.size (by simp)).trans HX.out)
     have hD3:=((HD.out.up hBI.size hal).up hBI.size hb2).up hBI.size hal2
     have hzX:=(Array.getElem?_eq_some_iff.1 hX3).1
     have hDn:=fun q=>hD3.up hBI.size (belowN (n:=q) (Below.refl _ _))
     have hXn:=fun q=>((belowN (n:=q) (Below.refl _ _):Below (w2.alloc (Obj.cells #[.int .i64 0,.string ⟨#[]⟩,.int .i64 0,.int .i64 0,.int .i64 0,.bool false] 72)).heap.size _ _).block _ hzX).trans hX3
     clear q0 q1 q2 q3 q4 q5 qf ql b2 b3
     go_quiet (fail)
     have hD4:=hDn nq
     have hX4:=hXn nq
     clear hDn hXn hD3 hX3 hzX
     generalize (w2.alloc (Obj.cells #[.int .i64 0,.string ⟨#[]⟩,.int .i64 0,.int .i64 0,.int .i64 0,.bool false] 72)).drewN nq=w4 at *
     exact Za0
   | some z =>
     rw [hO] at hSd
     simp only [Option.getD_some,Option.isSome_some,Shd.v,Shd.cs] at hSd
     have Hz:=Lib.hid (Hs.out.shd x.id z hO)
     have Hx:=Lib.hid (Ht.out.shd x.id x HsS)
     have HO:=Lib.hid (show otherB t s x=(!(eqS x z && (eqP (valC t x.id) (valC s z.id) && (valU t x.id == valU s z.id))) || !(eqBs (waysB x.co (keptL t 2 x.id)) (waysB z.co (keptL s 2 z.id)) && eqBs (turnsB x.co (keptL t 3 x.id)) (turnsB z.co (keptL s 3 z.id)))) by unfold otherB;rw [hO])
     clear hO
     have hV1:=fun W (hb:Below W1.heap.size W1 W)=>svalues_any b m d t x W (ht.below hb) (by have:=Ht.out.len;omega)
     have hV2:=fun W (hb:Below W1.heap.size W1 W)=>svalues_any a n cap s z W (hs.below hb) (by have:=Hs.out.len;omega)
     have hne:=fun W=>neqV_run x z (valC t x.id) (valC s z.id) (valU t x.id) (valU s z.id) W
     generalize (eqS x z && (eqP (valC t x.id) (valC s z.id) && (valU t x.id == valU s z.id)))=B1 at *
     generalize valV x (valC t x.id) (valU t x.id)=V1 at *
     generalize valV z (valC s z.id) (valU s z.id)=V2 at *
     simp only [Shd.v,Shd.cs] at hV1 hV2
     go_wp2_with (go_at_call 150;(with_reducible refine hSd.mono ?_);rintro e w2 ⟨rfl,hb2⟩)
     have hal2:=one_alloc w2 (Obj.cells #[.int .i64 z.id,.string z.wa,.int .i64 z.pit,.int .i64 z.ly,.int .i64 z.co,.bool z.ft] 72)
     have hX3:=alKeep (o':=Obj.cells #[.int .i64 z.id,.string z.wa,.int .i64 z.pit,.int .i64 z.ly,.int .i64 z.co,.bool z.ft] 72) ((hb2.block wr.heap.size (by simp)).trans HX.out)
     have hZ3:=World.alloc_heap_new w2 (Obj.cells #[.int .i64 z.id,.string z.wa,.int .i64 z.pit,.int .i64 z.ly,.int .i64 z.co,.bool z.ft] 72)
     have hP3:=alKeep (o':=Obj.cells #[.int .i64 z.id,.string z.wa,.int .i64 z.pit,.int .i64 z.ly,.int .i64 z.co,.bool z.ft] 72) ((hb2.block L1 zb2).trans hbx2)
     have HD3:=Lib.hid (((HD.out.up hBI.size hal).up hBI.size hb2).up hBI.size hal2)
     have hB3:=((hBw.ch2 hal).ch2 hb2).ch2 hal2
     clear q0 q1 q2 q3 q4 q5 qf ql b0 b1 b2 b3 hSd hal hb2 hal2 hbx2 zb zb2 HD HX HbX
     generalize w2.alloc (Obj.cells #[.int .i64 z.id,.string z.wa,.int .i64 z.pit,.int .i64 z.ly,.int .i64 z.co,.bool z.ft] 72)=w3 at *
     generalize w2.heap.size=ZB at *
     generalize wr.heap.size=XB at *
     obtain ⟨q0,q1,q2,q3,q4,q5,qf,ql⟩:=cell6 hX3
     obtain ⟨r0,r1,r2,r3,r4,r5,rf,rl⟩:=cell6 hZ3
     have b0:=(SL.cells_of hP3).1 0
     have b1:=(SL.cells_of hP3).1 1
     simp at b0 b1
     have zb:=(Array.getElem?_eq_some_iff.1 hP3).1
     apply SLG.rule0 ?hm [] [42,43,44,45,46,47,48,49,50,51,52,53,54] [SLF.pq 42 [] _,SLF.pq 43 [0] _,SLF.pq 44 [1] _,SLF.pq 45 [2] _,SLF.pq 46 [2,3] _,SLF.pq 47 [2] _,SL.pu 48 [2,4,5] (.agg V1),SLF.pq 49 [2] _,SLF.pq 50 [2,7] _,SLF.pq 51 [2] _,SL.pu 52 [2,8,9] (.agg V2),SLF.pq 53 [2,6,10] _,SLF.pq 54 [2,11] _] [12] ?hck ?hkp (fun _=>[]) ?hin ?hdj ?hfr ?ob ?en4
     case hm=>kernel_rfl
     case hin=>exact SL.none_held rfl
     case hdj=>simp
     case hfr=>intro us;simp only [SL.frame,SL.put'];simp;exact rfl
     case ob =>
      exact Z9o
     case hck=>kernel_rfl
     case hkp=>kernel_rfl
     intro us w7 Fs hG hu hbd hd
     simp [SL.Used,SLF.pq] at hu
     obtain ⟨h12,_⟩:=hu
     rw [h12]
     have hb7:=(hG.below':Below w3.heap.size w3 w7)
     have hX7:=(hb7.block XB ql).trans hX3
     have hZ7:=(hb7.block ZB rl).trans hZ3
     have hP7:=(hb7.block L1 zb).trans hP3
     have HD7:=Lib.hid (HD3.out.up hBI.size hb7)
     have hB7:=hB3.ch2 hb7
     clear hG hbd hd h12 hV1 hV2 hne b0 b1 zb q0 q1 q2 q3 q4 q5 qf ql r0 r1 r2 r3 r4 r5 rf rl hX3 hZ3 hP3 HD3 hB3 hb7
     cases B1 with
     | false =>
       have HO:=Lib.hid (show otherB t s x=true by rw [HO.out];rfl)
       obtain ⟨w4,rfl⟩:∃ w4,w4=w7:=⟨w7,rfl⟩
       have hX4:=hX7
       have hD4:=HD7.out
       clear hX7 hZ7 hP7 HD7
       exact Za0
     | true =>
       have HO:=Lib.hid (HO.out.trans (Bool.false_or _))
       have hO1:=fun W (hb:Below W1.heap.size W1 W)=>soutline b m d t x W (ht.below hb) Ht.out.len Hx.out.2.1 Hx.out.2.2
       have hO2:=fun W (hb:Below W1.heap.size W1 W)=>soutline a n cap s z W (hs.below hb) Hs.out.len Hz.out.2.1 Hz.out.2.2
       have hWa:=ways_ne (ms:=keptL t 2 x.id) Hx.out.2.1.1
       have hTa:=turns_ne (ms:=keptL t 3 x.id) Hx.out.2.1.1
       have hWb:=ways_ne (ms:=keptL s 2 z.id) Hz.out.2.1.1
       have hTb:=turns_ne (ms:=keptL s 3 z.id) Hz.out.2.1.1
       have hla:=bds_len (s:=t) (y:=x) Ht.out.len Hx.out.2.1.2
       have hlb:=bds_len (s:=s) (y:=z) Hs.out.len Hz.out.2.1.2
       unfold OutPost at hO1 hO2
       generalize waysB x.co (keptL t 2 x.id)=WA at *
       generalize turnsB x.co (keptL t 3 x.id)=TA at *
       generalize waysB z.co (keptL s 2 z.id)=WB at *
       generalize turnsB z.co (keptL s 3 z.id)=TB at *
       simp only [Shd.v,Shd.cs] at hO1 hO2
       obtain ⟨q0,q1,q2,q3,q4,q5,qf,ql⟩:=cell6 hX7
       obtain ⟨r0,r1,r2,r3,r4,r5,rf,rl⟩:=cell6 hZ7
       have b0:=(SL.cells_of hP7).1 0
       have b1:=(SL.cells_of hP7).1 1
       simp at b0 b1
       have zb:=(Array.getElem?_eq_some_iff.1 hP7).1
       go_wp2_with fail
       apply SLG.rule0 ?hm [] [60,61,62,63,64,65,66,67,12,13] [SLF.pq 60 [] _,SLF.pq 61 [0] _,SLF.pq 62 [] _,SL.aw 63 [1,2] [] (fun p=>.ex fun v1:Value=>.ex fun v2:Value=>.sep (.pure (p=.agg #[.int .i64 x.co,v1,v2])) (.sep (.row w7.heap.size 69 4 v1 WA.length (bcs WA)) (.row w7.heap.size 69 4 v2 TA.length (bcs TA)))),SLF.pq 64 [] _,SLF.pq 65 [4] _,SLF.pq 66 [] _,SL.aw 67 [5,6] [] (fun p=>.ex fun v1:Value=>.ex fun v2:Value=>.sep (.pure (p=.agg #[.int .i64 z.co,v1,v2])) (.sep (.row w7.heap.size 69 4 v1 WB.length (bcs WB)) (.row w7.heap.size 69 4 v2 TB.length (bcs TB)))),SL.box 12 [] [] w7.heap.size 52 #[.int .i64 0,.slice none 0 0,.slice none 0 0],SL.box 13 [] [] w7.heap.size 52 #[.int .i64 0,.slice none 0 0,.slice none 0 0],SL.aw 12 [3,8] [3,8] (fun p=>.ex fun M:Nat=>.ex fun v1:Value=>.ex fun v2:Value=>.sep (.pure (p=.pointer (some ⟨M,0,none⟩))) (.sep (.blk w7.heap.size M 52 #[.int .i64 x.co,v1,v2]) (.sep (.row w7.heap.size 69 4 v1 WA.length (bcs WA)) (.row w7.heap.size 69 4 v2 TA.length (bcs TA))))),SL.aw 13 [7,9] [7,9] (fun p=>.ex fun M:Nat=>.ex fun v1:Value=>.ex fun v2:Value=>.sep (.pure (p=.pointer (some ⟨M,0,none⟩))) (.sep (.blk w7.heap.size M 52 #[.int .i64 z.co,v1,v2]) (.sep (.row w7.heap.size 69 4 v1 WB.length (bcs WB)) (.row w7.heap.size 69 4 v2 TB.length (bcs TB)))))] [10,11] ?hck ?hkp (fun _=>[]) ?hin ?hdj ?hfr ?ob ?en5
       case hm=>kernel_rfl
       case hin=>exact SL.none_held rfl
       case hdj=>simp
       case hfr=>intro us;simp only [SL.frame,SL.put'];simp;exact rfl
       case ob =>
        exact Z9m
       case hck=>kernel_rfl
       case hkp=>kernel_rfl
       intro us2 w8 Fs2 hG hu hbd hd
       simp [SL.Used,SL.aw_sub] at hu
       obtain ⟨hu1,hu2⟩:=hu
       obtain ⟨M1,v1,v2,F1,F2,⟨e12,rfl⟩,⟨F3,F4,⟨_,hM1,rfl⟩,⟨F5,F6,⟨ra1,rfl⟩,⟨ra2,rfl⟩,rfl⟩,rfl⟩,_⟩:=SL.aw_out hu1
       obtain ⟨M2,v3,v4,G1,G2,⟨e13,rfl⟩,⟨G3,G4,⟨_,hM2,rfl⟩,⟨G5,G6,⟨rb1,rfl⟩,⟨rb2,rfl⟩,rfl⟩,rfl⟩,_⟩:=SL.aw_out hu2
       obtain ⟨wa1,wc1,rfl,_⟩:=owns_slice ra1
       obtain ⟨ta1,tc1,rfl,_⟩:=owns_slice ra2
       obtain ⟨wa2,wc2,rfl,_⟩:=owns_slice rb1
       obtain ⟨ta2,tc2,rfl,_⟩:=owns_slice rb2
       have hb8:Below w7.heap.size w7 w8:=hG.below'
       have hX8:=(hb8.block XB ql).trans hX7
       have HD8:=Lib.hid (HD7.out.up hBI.size hb8)
       rw [e12,e13]
       have kE1:=BdsAt.of_owns ra1 (by omega)
       have kE2:=BdsAt.of_owns ra2 (by omega)
       have kE3:=BdsAt.of_owns rb1 (by omega)
       have kE4:=BdsAt.of_owns rb2 (by omega)
       have hE1:=fun W (hb:Below w8.heap.size w8 W)=>equalBd _ _ _ _ _ _ WA WB W (kE1.below hb) (kE3.below hb) hWa hWb
       have hE2:=fun W (hb:Below w8.heap.size w8 W)=>equalBd _ _ _ _ _ _ TA TB W (kE2.below hb) (kE4.below hb) hTa hTb
       have hE0:=Below.refl w8.heap.size w8
       obtain ⟨m0,m1,m2,mf,ml⟩:=cell3s hM1
       obtain ⟨n0,n1,n2,nf,nl⟩:=cell3s hM2
       have HM1:=Lib.hid hM1
       have HM2:=Lib.hid hM2
       generalize eqBs WA WB=Q1 at *
       generalize eqBs TA TB=Q2 at *
       clear hG hbd hd hu1 hu2 e12 e13 ra1 ra2 rb1 rb2 hO1 hO2 hM1 hM2 b0 b1 zb q0 q1 q2 q3 q4 q5 qf ql r0 r1 r2 r3 r4 r5 rf rl hX7 hZ7 hP7 HD7 hb8 hWa hTa hWb hTb kE1 kE2 kE3 kE4
       cases Q1 with
       | false =>
         have HO:=Lib.hid (show otherB t s x=true by rw [HO.out];rfl)
         go_upto_region 13 with (go_at_call 192;(with_reducible refine (hE1 _ hE0).mono ?_);rintro e w4 ⟨rfl,hb9⟩)
         have hX4:=(hb9.block XB (Array.getElem?_eq_some_iff.1 hX8).1).trans hX8
         have hD4:=HD8.out.up hBI.size hb9
         clear hX8 HD8 hb9 hE0 hE1 hE2 m0 m1 m2 mf ml n0 n1 n2 nf nl
         exact Za0
       | true =>
         cases Q2 with
         | false =>
           have HO:=Lib.hid (show otherB t s x=true by rw [HO.out];rfl)
           go_upto_region 13 with (first
            | (go_at_call 192;(with_reducible refine (hE1 _ hE0).mono ?_);rintro e w9 ⟨rfl,hb9⟩;obtain ⟨g0,g1,g2,gf,gl⟩:=cell3s ((hb9.block _ ml).trans HM1.out);obtain ⟨k0,k1,k2,kf,kl⟩:=cell3s ((hb9.block _ nl).trans HM2.out))
            | (go_at_call 192;(with_reducible refine (hE2 _ hb9).mono ?_);rintro e w4 ⟨rfl,hb10⟩;have hc9:=hb9.ch2 hb10))
           have hX4:=(hc9.block XB (Array.getElem?_eq_some_iff.1 hX8).1).trans hX8
           have hD4:=HD8.out.up hBI.size hc9
           clear hX8 HD8 hc9 hb9 hE0 hE1 hE2 m0 m1 m2 mf ml n0 n1 n2 nf nl g0 g1 g2 gf gl k0 k1 k2 kf kl
           exact Za0
         | true =>
           have HO:=Lib.hid (show otherB t s x=false by rw [HO.out];rfl)
           exact Z9q
  ·have hje:j=(sherdsL t).length:=by omega
   have i1:¬ (j:Int)<((sherdsL t).length:Int):=by omega
   have HQ:=Lib.hid (And.intro (show wr.ownsRow W1.heap.size 3 1 _ (difD s t 2).length ((difD s t 2).map (.int .i64)) by rw [HDn.out,← hje];exact hD.row) hBw)
   clear hje hlt hj hD hoX hbxI hBI hBw
   go_wp2_with fail
   go_roundw
   case rel=>exact ⟨2,by omega,by go_num,HQ.out.1,HQ.out.2⟩
   case measure=>simp [RowKit.intOf]
 ·have hqv:_=Value.int .i64 2:=hqi
  subst hqv
  clear hqi hq
  have hl2:(difD s t 2).length≤100000:=by
   have:=difK_len s t (sherdsL s).length
   have:=difK_len t s (sherdsL t).length
   have:=Hs.out.len
   have:=Ht.out.len
   simp [difD]
   omega
  rw [difD_all s t] at HP
  generalize difD s t 2=D2 at *
  obtain ⟨ra,rc,rfl,_⟩:=owns_slice hro
  have hU:=sunique_any ra _ rc D2 wr (IntsAt.of_owns hro (by omega)) hl2
  unfold RowPost at hU
  have hz1:=hB1.size
  have hz2:=hB.size
  have HB:=Lib.hid (hB1.ch2 hB)
  clear hro hB
  go_wp2_with (go_at_call 107;(with_reducible refine hU.mono ?_);rintro e w4 ⟨v4,rfl,hb4,ho4⟩)
  exact HP.out _ _ (HB.out.ch2 hb4) (SL.row_base ho4 (by omega))
open Go.RowKit Go.Shelf
set_option maxHeartbeats 8000000
set_option maxRecDepth 100000
theorem dif_ok {l:List Itm} (h:CatOk l) (day:Int):DifOk (countL l day) where
 len:=Nat.le_trans (countL_len l day) h.few
 ids:=countL_ids h.ids day
 rng:=fun x hx=>by
  have:=itemB_id (h.item x (mem_count.1 hx).1)
  omega
 shd:=fun id y hy=>by
  obtain ⟨k1,k2,k3,k4⟩:=kept_ok h hy
  refine ⟨k2,k1,fun x hx hk hs=>?_⟩
  rw [k2] at hs
  rcases hk with hk | hk
  ·exact (k3 x (kept_mem.2 ⟨hx,hk,hs⟩)).lo
  ·exact (k4 x (kept_mem.2 ⟨hx,hk,hs⟩)).lo
theorem sChanged_any (a:Option Addr) (n cap:Nat) (l:List Itm) (fr tw:Int) (w:World) (h:ItmsAt w a n cap l) (hcap:l.length≤cap) :
 Calls Tryz.prog 67 #[.slice a n cap,.int .i64 fr,.int .i64 tw] w (IntE w (chkI l).2 (changedL l fr tw)):=by
 have hO1:=fun W hi=>sopened_any a n cap l fr W hi hcap
 have hO2:=fun W hi=>sopened_any a n cap l tw W hi hcap
 unfold RowE at hO1 hO2
 have hw:=h.wide
 by_cases h0:(chkI l).2=0
 ·have hc:=chk_ok.1 h0
  have h1:=dif_ok hc fr
  have h2:=dif_ok hc tw
  have e1:cntL l fr=countL l fr:=by unfold cntL;rw [if_pos h0]
  have e2:cntL l tw=countL l tw:=by unfold cntL;rw [if_pos h0]
  have e3:changedL l fr tw=differL (countL l fr) (countL l tw):=by unfold changedL;rw [if_pos h0]
  have hw1:=wides hw (fun x (hx:x ∈ countL l fr)=>(countL_sub hx).1)
  have hw2:=wides hw (fun x (hx:x ∈ countL l tw)=>(countL_sub hx).1)
  rw [h0,e1] at hO1
  rw [h0,e2] at hO2
  rw [e3,h0]
  have hl1:=h1.len
  have hl2:=h2.len
  generalize countL l fr=S at *
  generalize countL l tw=T at *
  have hD:=fun W a b c d (hi:ItmsAt W a S.length b S) (hj:ItmsAt W c T.length d T)=>sdiffer_any a _ b S c _ d T W hi hj h1 h2
  unfold RowPost at hD
  have HP:=Lib.hid (show ∀ v w',Below w.heap.size w w'→w'.ownsRow w.heap.size 3 1 v (differL S T).length ((differL S T).map (.int .i64))→IntE w 0 (differL S T) (.returned (.tuple #[v,.int .i64 0])) w' from fun v w' k1 k2=>⟨v,rfl,k1,k2⟩)
  generalize IntE w 0 (differL S T)=Post at *
  generalize differL S T=D at *
  clear h1 h2 e1 e2 e3 hc h0 hw
  go_enter Tryz.func67,Tryz.ntmps67
  have tok1:True:=trivial
  go_wp2_with (first
   | (go_at_call 130;clear tok1;(with_reducible refine (hO1 _ h).mono ?_);rintro e w2 ⟨v2,rfl,hb2,ho2⟩;obtain ⟨a2,c2,rfl,_⟩:=owns_slice ho2;have hi2:=ItmsAt.of_owns ho2 (by omega) hw1;have h3:=h.below hb2)
   | (go_at_call 130;(with_reducible refine (hO2 _ h3).mono ?_);rintro e w3 ⟨v3,rfl,hb3,ho3⟩;obtain ⟨a3,c3,rfl,_⟩:=owns_slice ho3;have hi3:=ItmsAt.of_owns ho3 (by omega) hw2;have hi4:=hi2.below hb3)
   | (go_at_call 133;(with_reducible refine (hD _ _ _ _ _ hi4 hi3).mono ?_);rintro e w4 ⟨v4,rfl,hb4,ho4⟩))
  have hB:=hb2.ch2 hb3
  exact Z9y
 ·have e3:changedL l fr tw=[]:=by unfold changedL;rw [if_neg h0]
  rw [e3]
  have HP:=Lib.hid (show ∀ w',Below w.heap.size w w'→IntE w (chkI l).2 [] (.returned (.tuple #[.slice none 0 0,.int .i64 (chkI l).2])) w' from fun w' k1=>⟨_,rfl,k1,World.ownsRow_nil _ _ _ _⟩)
  generalize IntE w (chkI l).2 []=Post at *
  generalize (chkI l).2=E at *
  have e2:(E != 0)=true:=by simpa using h0
  clear h0 e3
  go_enter Tryz.func67,Tryz.ntmps67
  go_wp2_with (go_at_call 130;(with_reducible refine (hO1 _ h).mono ?_);rintro e w2 ⟨v2,rfl,hb2,ho2⟩;obtain ⟨a2,c2,rfl,_⟩:=owns_slice ho2)
  exact HP.out _ hb2
open Go.RowKit Go.Shelf
set_option maxHeartbeats 8000000
set_option maxRecDepth 100000
theorem r2Append_any (x:Itm) (a:Option Addr) (n cap:Nat) (l:List Itm) (w:World) (h:ItmsAt w a n cap l) (hcap:l.length≤cap) (hx:x.Wide) :
 Calls Tryz.prog 24 #[.slice a n cap,x.v] w (RowE w (apE l x) (apL l x)):=by
 have hsm:=h.small
 have hCh:=fun w1 (h1:ItmsAt w1 a n cap l)=>r2Check_any a n cap l w1 h1 hcap
 have hFo:=fun w1 (h1:ItmsAt w1 a n cap l) (hc:CatOk l)=>r2refused_any x a n cap l w1 h1 hx hc.item
 have hR0:refE l x=0→l.length<300:=fun h0=>(refE_zero h0).1
 have hE:apE l x=if (chkI l).2=0 then refE l x else (chkI l).2:=rfl
 have hL:apL l x=if apE l x=0 then l ++[x] else []:=rfl
 have HP:=Lib.hid (show (apE l x≠0→∀ w',Below w.heap.size w w'→RowE w (apE l x) (apL l x) (.returned (.tuple #[.slice none 0 0,.int .i64 (apE l x)])) w')∧(apE l x=0→∀ w' v,Below w.heap.size w w'→w'.ownsRow w.heap.size 24 16 v (l.length +1) (ics l ++x.cs)→RowE w (apE l x) (apL l x) (.returned (.tuple #[v,.int .i64 (apE l x)])) w') from
  ⟨fun h0 w' hb=>by rw [hL,if_neg h0];exact RowE.nil _ _ _ hb,fun h0 w' v hb ho=>by rw [hL,if_pos h0];exact ⟨v,rfl,hb,by rw [List.length_append,ics_append,ics_one1];exact ho⟩⟩)
 have hCk:(chkI l).2=0→CatOk l:=fun h=>chk_ok.1 h
 generalize RowE w (apE l x) (apL l x)=Post at *
 generalize apE l x=AE at *
 unfold PairI at hCh
 unfold EPost at hFo
 clear hL
 generalize (chkI l).1=C1 at *
 generalize (chkI l).2=C2 at *
 generalize refE l x=R at *
 have hB0:=one_alloc w (Obj.cells #[.int .i64 x.id,.int .i64 x.kn,.int .u8 x.kd,.string x.wa,.int .i64 x.pit,.int .i64 x.ly,.int .i64 x.co,.bool x.ft,.int .i64 x.sh,.int .i64 x.fr,.int .i64 x.tw,.int .i64 x.lo,.int .i64 x.hi,.string x.st,.int .i64 x.li,.int .i64 x.vo] 24)
 have hA0:=World.alloc_heap_new w (Obj.cells #[.int .i64 x.id,.int .i64 x.kn,.int .u8 x.kd,.string x.wa,.int .i64 x.pit,.int .i64 x.ly,.int .i64 x.co,.bool x.ft,.int .i64 x.sh,.int .i64 x.fr,.int .i64 x.tw,.int .i64 x.lo,.int .i64 x.hi,.string x.st,.int .i64 x.li,.int .i64 x.vo] 24)
 simp only [Itm.v,Itm.cs] at hFo ⊢
 by_cases h1:C2=0
 ·subst h1
  rw [if_pos rfl] at hE
  subst hE
  have hFo:=fun w1 h1=>hFo w1 h1 (hCk rfl)
  clear hCk
  by_cases h2:AE=0
  ·subst h2
   have hP:=Lib.hid (HP.out.2 rfl)
   have hl:=hR0 rfl
   clear HP hR0
   go_enter Tryz.func24,Tryz.ntmps24
   go_wp2_with (first
    | (go_at_call 22;(with_reducible refine (hCh _ (h.below hB0)).mono ?_);rintro e w1 ⟨rfl,hb1⟩;obtain ⟨⟨y0,y1,y2,y3,y4,y5,y6,y7,y8,y9,y10,y11,y12,y13,y14,y15⟩,_,_⟩:=ItmCells.of_heap ((hb1.block w.heap.size (by simp)).trans hA0))
    | (go_at_call 74;(with_reducible refine (hFo _ ((h.below hB0).below hb1)).mono ?_);rintro e w2 ⟨rfl,hb2⟩))
   have hB2:=(hB0.ch2 hb1).ch2 hb2
   have hX2:=(hb2.block w.heap.size (lt_size hb1 (by simp))).trans ((hb1.block w.heap.size (by simp)).trans hA0)
   have h2:=h.below hB2
   have zX:=(Array.getElem?_eq_some_iff.1 hX2).1
   have HX:=Lib.hid hX2
   have H2:=Lib.hid h2
   obtain rfl:=h.len
   clear hb1 hb2 hX2 hA0 hCh hFo h y0 y1 y2 y3 y4 y5 y6 y7 y8 y9 y10 y11 y12 y13 y14 y15 h2
   apply SLG.rule0 ?hm [] [21,22,23,24,25,26,4,5] [SL.row 21 [] [] w2.heap.size 24 16 0 [],SLF.pq 22 [] _,SL.row 23 [0,1] [0] w2.heap.size 24 16 l.length (ics l),SL.pu 24 [] (.agg #[.int .i64 x.id,.int .i64 x.kn,.int .u8 x.kd,.string x.wa,.int .i64 x.pit,.int .i64 x.ly,.int .i64 x.co,.bool x.ft,.int .i64 x.sh,.int .i64 x.fr,.int .i64 x.tw,.int .i64 x.lo,.int .i64 x.hi,.string x.st,.int .i64 x.li,.int .i64 x.vo]),SL.aw 25 [3] [] (fun v=>.ex fun N:Nat=>.sep (.pure (v=.slice (some ⟨N,0,none⟩) 1 1)) (.blk w2.heap.size N 24 x.cs.toArray)),SL.row 26 [2,4] [2] w2.heap.size 24 16 (l.length +1) (ics l ++x.cs),SL.row 4 [5] [5] w2.heap.size 24 16 (l.length +1) (ics l ++x.cs),SLF.pq 5 [] _] [6,7] ?hck ?hkp (fun _=>[]) ?hin ?hdj ?hfr ?ob ?en6
   case hm=>kernel_rfl
   case hin=>exact SL.none_held rfl
   case hdj=>simp
   case hfr=>intro us;simp only [SL.frame,SL.put'];simp;exact rfl
   case ob =>
    refine ⟨?_,?_,?_,?_,?_,?_,?_,?_,trivial⟩
    all_goals first
     | (intro us w' Fe hG hu hd hv Kx hK
        try dsimp only
        simp [SL.O] at hu hK
        have hB5:Below w2.heap.size w2 w':=hG.below'
        exact Z7r)
     | skip
    ·refine SLG.ob_sp rfl rfl rfl fun us w' Fe hG hu hd Kx hK=>?_
     try dsimp only
     simp [SL.O] at hu
     have hB5:Below w2.heap.size w2 w':=hG.below'
     obtain ⟨hc5,hf5⟩:=bcell hB5
     have hs5:=hB5.size
     refine SLF.wpo_do (SLF.wanted_free rfl) ?hd ?_
     case hd=>intro c h;cases h
     clear hu hc5 hf5
     go_step
     exact hK _ (.slice (some ⟨w'.heap.size,0,none⟩) 0 0) _ _ Zh (.alloc _ _ _) ⟨World.ownsRow_lit w' #[] 0 hs5 (by decide) rfl,rfl⟩ (fun j hj=>.inr (by simp [Value.ownBlock] at hj;subst hj;simp))
    ·refine SLG.ob_sp rfl rfl rfl fun us w' Fe hG hu hd Kx hK=>?_
     try dsimp only
     simp [SL.O] at hu
     have hB5:Below w2.heap.size w2 w':=hG.below'
     obtain ⟨hc5,hf5⟩:=bcell hB5
     have hs5:=hB5.size
     refine SLF.wpo_do (SLF.wanted_free rfl) ?hd ?_
     case hd=>intro c h;cases h
     obtain ⟨⟨ho,e1⟩,e2,_⟩:=hu
     have hsr:=(H2.out.below hB5).row
     clear hc5 hf5
     refine wp_app elemT _ _ rfl ho rfl e2 hsr (ics_length l) (ics_one l) Z1s (by omega) (by omega) ?_
     intro v' w6 ho6 hg6 hb6 _ hat
     rw [Nat.zero_add,List.nil_append] at ho6
     exact Za5
    ·refine SLG.ob_sp rfl rfl rfl fun us w' Fe hG hu hd Kx hK=>?_
     try dsimp only
     simp [SL.O] at hu
     have hB5:Below w2.heap.size w2 w':=hG.below'
     obtain ⟨hc5,hf5⟩:=bcell hB5
     have hs5:=hB5.size
     refine SLF.wpo_do (SLF.wanted_free rfl) ?hd ?_
     case hd=>intro c h;cases h
     clear hu
     obtain ⟨⟨y0,y1,y2,y3,y4,y5,y6,y7,y8,y9,y10,y11,y12,y13,y14,y15⟩,yf,yl⟩:=ItmCells.of_heap ((hG.block _ zX (by simp)).trans HX.out)
     clear hc5 hf5
     go_step
     exact hK _ _ _ [] Zh (SL.Chg.refl _ _) ⟨rfl,rfl⟩ (fun j hj=>by cases hj)
    ·refine SLG.ob_sp rfl rfl rfl fun us w' Fe hG hu hd Kx hK=>?_
     try dsimp only
     simp [SL.O] at hu
     have hB5:Below w2.heap.size w2 w':=hG.below'
     obtain ⟨hc5,hf5⟩:=bcell hB5
     have hs5:=hB5.size
     refine SLF.wpo_do (SLF.wanted_free rfl) ?hd ?_
     case hd=>intro c h;cases h
     obtain ⟨e2,_⟩:=hu
     clear hc5 hf5
     exact Z6r
    ·refine SLG.ob_sp rfl rfl rfl fun us w' Fe hG hu hd Kx hK=>?_
     try dsimp only
     simp [SL.O] at hu
     have hB5:Below w2.heap.size w2 w':=hG.below'
     obtain ⟨hc5,hf5⟩:=bcell hB5
     have hs5:=hB5.size
     refine SLF.wpo_do (SLF.wanted_free rfl) ?hd ?_
     case hd=>intro c h;cases h
     obtain ⟨⟨ho,e1⟩,hu3⟩:=hu
     obtain ⟨N,F1,F2,⟨hx,rfl⟩,⟨hN,hbl,rfl⟩,hF⟩:=SL.aw_out hu3
     clear hc5 hf5
     refine wp_app elemT _ _ rfl ho rfl hx (RowAt.of_heap hbl) (by rfl) (fun u hu=>ics_one [x] u Z3w) Z1s (by omega) (by omega) ?_
     intro v' w6 ho6 hg6 hb6 _ hat
     exact Za5
    ·refine SLG.ob_sp rfl rfl rfl fun us w' Fe hG hu hd Kx hK=>?_
     try dsimp only
     simp [SL.O] at hu
     have hB5:Below w2.heap.size w2 w':=hG.below'
     obtain ⟨hc5,hf5⟩:=bcell hB5
     have hs5:=hB5.size
     refine SLF.wpo_do (SLF.wanted_free rfl) ?hd ?_
     case hd=>intro c h;cases h
     obtain ⟨ho,e4⟩:=hu
     clear hc5 hf5
     go_step
     exact hK _ _ _ _ Zh (SL.Chg.refl _ _) ⟨ho,rfl⟩ (fun k hk=>.inl (by simp [SL.row,e4] at hk ⊢;exact hk))
   case hck=>kernel_rfl
   case hkp=>kernel_rfl
   intro us w7 Fs hG hu hbd hd
   simp [SL.Used,SL.row,SLF.pq] at hu
   obtain ⟨⟨ho7,_⟩,h5,_⟩:=hu
   rw [h5]
   obtain ⟨va,vc,hv,_⟩:=owns_slice ho7
   have hB7:=hB2.ch2 (hG.below':Below w2.heap.size w2 w7)
   have HO:=Lib.hid (SL.row_base ho7 hB2.size)
   clear hG hbd hd ho7
   go_wp2_with fail
   exact hP.out _ _ hB7 HO.out
  ·have e2:(AE != 0)=true:=by simpa using h2
   have hP:=Lib.hid (HP.out.1 h2)
   clear h2 HP hR0
   go_enter Tryz.func24,Tryz.ntmps24
   go_wp2_with (first
    | (go_at_call 22;(with_reducible refine (hCh _ (h.below hB0)).mono ?_);rintro e w1 ⟨rfl,hb1⟩;obtain ⟨⟨y0,y1,y2,y3,y4,y5,y6,y7,y8,y9,y10,y11,y12,y13,y14,y15⟩,_,_⟩:=ItmCells.of_heap ((hb1.block w.heap.size (by simp)).trans hA0))
    | (go_at_call 74;(with_reducible refine (hFo _ ((h.below hB0).below hb1)).mono ?_);rintro e w2 ⟨rfl,hb2⟩))
   exact hP.out _ ((hB0.ch2 hb1).ch2 hb2)
 ·have e2:(C2 == 0)=false:=by simpa using h1
  have e3:(C2 != 0)=true:=by simpa using h1
  rw [if_neg h1] at hE
  subst hE
  have hP:=Lib.hid (HP.out.1 h1)
  clear HP hR0 hFo hCk h1
  go_enter Tryz.func24,Tryz.ntmps24
  go_wp2_with (go_at_call 22;(with_reducible refine (hCh _ (h.below hB0)).mono ?_);rintro e w1 ⟨rfl,hb1⟩)
  exact hP.out _ (hB0.ch2 hb1)
open Go.RowKit Go.Shelf
set_option maxHeartbeats 8000000
set_option maxRecDepth 100000
def reachL (l:List Itm) (x:Itm):List Int:=if apE l x=0 then differL (countL l x.kn) (countL (l ++[x]) x.kn) else []
theorem ap_ok {l:List Itm} {x:Itm} (h:apE l x=0):CatOk l∧CatOk (l ++[x]):=by
 unfold apE at h
 split at h
 ·rename_i h0
  exact ⟨chk_ok.1 h0,cat_snoc (chk_ok.1 h0) h⟩
 ·rename_i h0
  exact absurd h h0
theorem sReached_any (x:Itm) (a:Option Addr) (n cap:Nat) (l:List Itm) (w:World) (h:ItmsAt w a n cap l) (hcap:l.length≤cap) (hxw:x.Wide) :
 Calls Tryz.prog 68 #[.slice a n cap,x.v] w (IntE w (apE l x) (reachL l x)):=by
 have hB0:=one_alloc w (Obj.cells #[.int .i64 x.id,.int .i64 x.kn,.int .u8 x.kd,.string x.wa,.int .i64 x.pit,.int .i64 x.ly,.int .i64 x.co,.bool x.ft,.int .i64 x.sh,.int .i64 x.fr,.int .i64 x.tw,.int .i64 x.lo,.int .i64 x.hi,.string x.st,.int .i64 x.li,.int .i64 x.vo] 24)
 have hX0:=World.alloc_heap_new w (Obj.cells #[.int .i64 x.id,.int .i64 x.kn,.int .u8 x.kd,.string x.wa,.int .i64 x.pit,.int .i64 x.ly,.int .i64 x.co,.bool x.ft,.int .i64 x.sh,.int .i64 x.fr,.int .i64 x.tw,.int .i64 x.lo,.int .i64 x.hi,.string x.st,.int .i64 x.li,.int .i64 x.vo] 24)
 have hAp:=fun W hi=>sAppend_any x a n cap l W hi hcap (fun y hy w1=>sCheckItem_any y w1 (by
  rcases hy with hy | rfl
  ·exact h.wide y hy
  ·exact hxw))
 unfold RowE at hAp
 simp only [Itm.v,Itm.cs] at hAp
 have h1:=h.below hB0
 show Calls Tryz.prog _ #[_,.agg #[.int .i64 x.id,.int .i64 x.kn,.int .u8 x.kd,.string x.wa,.int .i64 x.pit,.int .i64 x.ly,.int .i64 x.co,.bool x.ft,.int .i64 x.sh,.int .i64 x.fr,.int .i64 x.tw,.int .i64 x.lo,.int .i64 x.hi,.string x.st,.int .i64 x.li,.int .i64 x.vo]] w _
 by_cases h0:apE l x=0
 ·obtain ⟨hc,hc2⟩:=ap_ok h0
  have e1:cntL l x.kn=countL l x.kn:=by unfold cntL;rw [if_pos (chk_ok.2 hc)]
  have e2:cntL (l ++[x]) x.kn=countL (l ++[x]) x.kn:=by unfold cntL;rw [if_pos (chk_ok.2 hc2)]
  have e3:apL l x=l ++[x]:=by unfold apL;rw [if_pos h0]
  have e4:reachL l x=differL (countL l x.kn) (countL (l ++[x]) x.kn):=by unfold reachL;rw [if_pos h0]
  have d1:=dif_ok hc x.kn
  have d2:=dif_ok hc2 x.kn
  have hmw:∀ y ∈ l ++[x],y.Wide:=fun y hy=>by
   rcases List.mem_append.1 hy with hy | hy
   ·exact h.wide y hy
   ·simp at hy;subst hy;exact hxw
  have hw1:=wides h.wide (fun y (hy:y ∈ countL l x.kn)=>(countL_sub hy).1)
  have hw2:=wides hmw (fun y (hy:y ∈ countL (l ++[x]) x.kn)=>(countL_sub hy).1)
  have hml:=hc2.few
  rw [h0,e3] at hAp
  rw [h0,e4]
  have hO1:=fun W hi=>sopened_any a n cap l x.kn W hi hcap
  have hO2:=fun W b c (hi:ItmsAt W b (l ++[x]).length c (l ++[x])) (hc:(l ++[x]).length≤c)=>sopened_any b _ c (l ++[x]) x.kn W hi hc
  rw [chk_ok.2 hc,e1] at hO1
  rw [chk_ok.2 hc2,e2] at hO2
  unfold RowE at hO1 hO2
  have hl1:=d1.len
  have hl2:=d2.len
  generalize countL l x.kn=S at *
  generalize countL (l ++[x]) x.kn=T at *
  have hD:=fun W a b c d (hi:ItmsAt W a S.length b S) (hj:ItmsAt W c T.length d T)=>sdiffer_any a _ b S c _ d T W hi hj d1 d2
  unfold RowPost at hD
  have HP:=Lib.hid (show ∀ v w',Below w.heap.size w w'→w'.ownsRow w.heap.size 3 1 v (differL S T).length ((differL S T).map (.int .i64))→IntE w 0 (differL S T) (.returned (.tuple #[v,.int .i64 0])) w' from fun v w' k1 k2=>⟨v,rfl,k1,k2⟩)
  generalize IntE w 0 (differL S T)=Post at *
  generalize differL S T=D at *
  generalize l ++[x]=m at *
  clear d1 d2 e1 e2 e3 e4 hc hc2 h0 h
  go_enter Tryz.func68,Tryz.ntmps68
  have tok1:True:=trivial
  go_wp2_with (first
   | (go_at_call 23;(with_reducible refine (hAp _ h1).mono ?_);rintro e w1 ⟨v1,rfl,hb1,ho1⟩;obtain ⟨a1,c1,rfl,_⟩:=owns_slice ho1;have hcm:=row_cap ho1;have hm1:=ItmsAt.of_owns ho1 (by omega) hmw;have hB1:=hB0.ch2 hb1;have h2:=h1.below hb1;have hX1:=(hb1.block w.heap.size (by simp)).trans hX0;obtain ⟨d0,d1,d2,d3,d4,d5,d6,d7,d8,d9,d10,d11,d12,d13,d14,d15⟩:=(ItmCells.of_heap hX1).1;have zX:=(Array.getElem?_eq_some_iff.1 hX1).1)
   | (go_at_call 130;clear tok1;(with_reducible refine (hO1 _ h2).mono ?_);rintro e w2 ⟨v2,rfl,hb2,ho2⟩;obtain ⟨a2,c2,rfl,_⟩:=owns_slice ho2;have hi2:=ItmsAt.of_owns ho2 (by omega) hw1;have hm2:=hm1.below hb2;have hX2:=(hb2.block w.heap.size zX).trans hX1;have k1:=(ItmCells.of_heap hX2).1.c1)
   | (go_at_call 130;(with_reducible refine (hO2 _ _ _ hm2 hcm).mono ?_);rintro e w3 ⟨v3,rfl,hb3,ho3⟩;obtain ⟨a3,c3,rfl,_⟩:=owns_slice ho3;have hi3:=ItmsAt.of_owns ho3 (by omega) hw2;have hi4:=hi2.below hb3)
   | (go_at_call 133;(with_reducible refine (hD _ _ _ _ _ hi4 hi3).mono ?_);rintro e w4 ⟨v4,rfl,hb4,ho4⟩))
  have hB:=(hB1.ch2 hb2).ch2 hb3
  exact Z9y
 ·have e3:apL l x=[]:=by unfold apL;rw [if_neg h0]
  have e4:reachL l x=[]:=by unfold reachL;rw [if_neg h0]
  rw [e3] at hAp
  rw [e4]
  have HP:=Lib.hid (show ∀ w',Below w.heap.size w w'→IntE w (apE l x) [] (.returned (.tuple #[.slice none 0 0,.int .i64 (apE l x)])) w' from fun w' k1=>⟨_,rfl,k1,World.ownsRow_nil _ _ _ _⟩)
  generalize IntE w (apE l x) []=Post at *
  generalize apE l x=E at *
  have e2:(E != 0)=true:=by simpa using h0
  clear h0 e3 e4 h
  go_enter Tryz.func68,Tryz.ntmps68
  go_wp2_with (go_at_call 23;(with_reducible refine (hAp _ h1).mono ?_);rintro e w1 ⟨v1,rfl,hb1,ho1⟩;obtain ⟨a1,c1,rfl,_⟩:=owns_slice ho1)
  exact HP.out _ (hB0.ch2 hb1)
open Go
/-- What counts in the one counts in the other, of one sherd. -/
structure NarI (l m:List Itm) (day id:Int):Prop where
 hl:LookOk l day id
 hm:LookOk m day id
 sub:(countL l day).Sublist (countL m day)
theorem NarI.s {l m:List Itm} {day id:Int} (h:NarI l m day id):lookS l day id=lookS m day id:=look_same h.hm h.hl fun _ hx=>h.sub.subset hx
theorem NarI.kept {l m:List Itm} {day id:Int} (h:NarI l m day id) (k:Int):(keptL (countL l day) k id).Sublist (keptL (countL m day) k id):=h.sub.filter _
theorem turns_sub {co:Int} {a b:List Itm} (h:a.Sublist b):Sub (turnsB co a) (turnsB co b):=by
 obtain ⟨h1,h2⟩:=sys_sub (k:=3) (co:=co) h
 have e:(3:Int)=2 ↔ False:=by decide
 simp only [sysB,e,if_false] at h1 h2
 exact ⟨h1,h2⟩
theorem com_mem {a b:List Itm} (hs:a.Sublist b) {c:UInt8} (h:c ∈ comC (setsL b)):c ∈ comC (setsL a):=by
 unfold comC at h ⊢
 rw [List.mem_filter] at h ⊢
 refine ⟨h.1,?_⟩
 have hb:=h.2
 exact Z9u
theorem NarI.cur {l m:List Itm} {day id:Int} (h:NarI l m day id) (he:curE m day id=0):curE l day id=0∧∀ c ∈ curR m day id,c ∈ curR l day id:=by
 have hm0:=he
 unfold curE at he
 rw [if_pos (lookE_of h.hm)] at he
 split at he
 ·omega
 ·rename_i h1
  have hl0:curE l day id=0:=by
   unfold curE
   rw [if_pos (lookE_of h.hl),if_neg (fun e=>h1 (com_sub (h.kept 5) e))]
  refine ⟨hl0,?_⟩
  unfold curR
  rw [if_pos hl0,if_pos hm0]
  exact fun c hc=>com_mem (h.kept 5) hc
theorem NarI.way {l m:List Itm} {day id fr tw:Int} (h:NarI l m day id) (he:wayE m day id fr tw=0):wayE l day id fr tw=0∧(wayK l day id fr tw=true→wayK m day id fr tw=true∧wayLo l day id fr tw≤wayLo m day id fr tw∧wayHi m day id fr tw≤wayHi l day id fr tw):=by
 have hW:=way_ok he
 have hs:=h.s
 have hsb:Sub (wayB l day id) (wayB m day id):=by unfold wayB;rw [hs];exact ways_sub (h.kept 2)
 have hP:wayP l day id=wayP m day id:=by unfold wayP;rw [hs]
 have hP2:wayP m day id=(lookS m day id).co +1:=rfl
 have hok:=okB_sub h.hm.ways hW.ok hsb.1 hsb.2
 have hWl:WayOk l day id fr tw:=⟨h.hl,hW.pf,hW.pl,by rw [hs];exact hW.pt,by rw [hP];exact hok⟩
 refine ⟨WayOk.e (lookE_of h.hl) hWl.pf hWl.pl hWl.pt hWl.ok,fun hk=>?_⟩
 have i1:=hW.pf
 have i2:=hW.pl
 have i3:=hW.pt
 have g1:=gD_sub hsb h.hm.ways hW.ok (x:=fr) (y:=tw) (by omega) (by omega) (by omega) (by omega)
 have g2:=gD_sub hsb h.hm.ways hW.ok (x:=tw) (y:=fr) (by omega) (by omega) (by omega) (by omega)
 have hf:=(wayK_iff.1 hk).2
 rw [hP] at hf
 have hkm:wayK m day id fr tw=true:=wayK_iff.2 ⟨hW,by omega⟩
 obtain ⟨v1,v2⟩:=way_vals hk
 obtain ⟨v3,v4⟩:=way_vals hkm
 rw [hP] at v1 v2
 exact ⟨hkm,by omega,by omega⟩
theorem NarI.turn {l m:List Itm} {day id fr tw:Int} (h:NarI l m day id) (he:turnE m day id fr tw=0):turnE l day id fr tw=0∧turnLo l day id fr tw≤turnLo m day id fr tw∧turnHi m day id fr tw≤turnHi l day id fr tw:=by
 have hW:=turn_ok he
 have hs:=h.s
 have hsb:Sub (turnB l day id) (turnB m day id):=by unfold turnB;rw [hs];exact turns_sub (h.kept 3)
 have hP:turnP l day id=turnP m day id:=by unfold turnP;rw [hs]
 have hP2:turnP m day id=(lookS m day id).co:=rfl
 have hok:=okB_sub h.hm.turns hW.ok hsb.1 hsb.2
 have hWl:TurnOk l day id fr tw:=⟨h.hl,hW.pf,hW.pl,by rw [hs];exact hW.pt,by rw [hP];exact hok⟩
 have hl0:=hWl.e
 have i1:=hW.pf
 have i2:=hW.pl
 have i3:=hW.pt
 have g1:=gD_sub hsb h.hm.turns hW.ok (x:=fr) (y:=tw) (by omega) (by omega) (by omega) (by omega)
 have g2:=gD_sub hsb h.hm.turns hW.ok (x:=tw) (y:=fr) (by omega) (by omega) (by omega) (by omega)
 obtain ⟨v1,v2⟩:=turn_vals hl0
 obtain ⟨v3,v4⟩:=turn_vals he
 rw [hP] at v1 v2
 exact ⟨hl0,by omega,by omega⟩
theorem col_pos (ms:List Itm):0≤(colL ms).lo:=(colL_go ms ⟨0,1000,0,0⟩).1.1
/-- What is told of a sherd is the same. -/
structure SameI (l:List Itm) (a:Int) (m:List Itm) (b id:Int):Prop where
 e:lookE l a id=lookE m b id
 ce:colE l a id=colE m b id
 cr:colR l a id=colR m b id
 ue:curE l a id=curE m b id
 ur:curR l a id=curR m b id
 wy:(if lookE l a id=0 then wayB l a id else [])=(if lookE m b id=0 then wayB m b id else [])
 tn:(if lookE l a id=0 then turnB l a id else [])=(if lookE m b id=0 then turnB m b id else [])
theorem look_some {l:List Itm} {day id:Int} (hl:CatOk l) {x:Shd} (h:sherdO (countL l day) id=some x):lookE l day id=0∧lookS l day id=x:=by
 refine ⟨by unfold lookE;rw [chk_ok.2 hl,h];rfl,by unfold lookS;rw [h];rfl⟩
theorem look_none {l:List Itm} {day id:Int} (hl:CatOk l) (h:sherdO (countL l day) id=none):lookE l day id=20:=by
 unfold lookE;rw [chk_ok.2 hl,h];rfl
theorem other_same {l m:List Itm} {a b:Int} (hl:CatOk l) (hm:CatOk m) (hs:∀ id x y,sherdO (countL l a) id=some x→sherdO (countL m b) id=some y→x=y) {id:Int} {x:Shd} (hx:sherdO (countL l a) id=some x) (hid:x.id=id) :
 otherB (countL l a) (countL m b) x=false ↔ SameI l a m b id:=by
 obtain ⟨l1,s1⟩:=look_some hl hx
 unfold otherB
 rw [hid]
 cases hy:sherdO (countL m b) id with
 | none =>
   have l2:=look_none hm hy
   simp only [Bool.true_eq_false,false_iff]
   intro h
   have:=h.e
   omega
 | some y =>
   obtain ⟨l2,s2⟩:=look_some hm hy
   obtain rfl:=hs id x y hx hy
   simp only [hid,Bool.or_eq_false_iff,Bool.not_eq_false',Bool.and_eq_true,beq_iff_eq,eqS_iff,eqP_iff,eqBs_iff,true_and]
   have hw1:wayB l a id=waysB x.co (keptL (countL l a) 2 id):=by unfold wayB;rw [s1]
   have hw2:wayB m b id=waysB x.co (keptL (countL m b) 2 id):=by unfold wayB;rw [s2]
   have ht1:turnB l a id=turnsB x.co (keptL (countL l a) 3 id):=by unfold turnB;rw [s1]
   have ht2:turnB m b id=turnsB x.co (keptL (countL m b) 3 id):=by unfold turnB;rw [s2]
   have p1:=col_pos (keptL (countL l a) 4 id)
   have p2:=col_pos (keptL (countL m b) 4 id)
   have hc:valC (countL l a) id=valC (countL m b) id ↔ colE l a id=colE m b id∧colR l a id=colR m b id:=by
    unfold valC colR colE
    rw [if_pos l1,if_pos l2]
    generalize colL (keptL (countL l a) 4 id)=A at *
    generalize colL (keptL (countL m b) 4 id)=B at *
    by_cases hA:A.hi<A.lo
    ·by_cases hB:B.hi<B.lo
     ·simp [hA,hB]
     ·simp only [hA,hB,if_true,if_false]
      constructor
      ·intro h
       rw [← h] at p2
       simp at p2
      ·rintro ⟨h,_⟩
       omega
    ·by_cases hB:B.hi<B.lo
     ·simp only [hA,hB,if_true,if_false]
      constructor
      ·intro h
       rw [h] at p1
       simp at p1
      ·rintro ⟨h,_⟩
       omega
     ·simp [hA,hB]
   have hu:valU (countL l a) id=valU (countL m b) id ↔ curE l a id=curE m b id∧curR l a id=curR m b id:=by
    unfold valU curR curE
    rw [if_pos l1,if_pos l2]
    generalize comC (setsL (keptL (countL l a) 5 id))=A at *
    generalize comC (setsL (keptL (countL m b) 5 id))=B at *
    by_cases hA:A=[]
    ·subst hA
     by_cases hB:B=[]
     ·subst hB;simp
     ·simp only [if_true,if_neg hB]
      constructor
      ·intro h;exact absurd h.symm hB
      ·rintro ⟨h,_⟩;omega
    ·by_cases hB:B=[]
     ·subst hB
      simp only [if_true,if_neg hA]
      constructor
      ·intro h;exact absurd h hA
      ·rintro ⟨h,_⟩;omega
     ·simp [hA,hB]
   rw [hc,hu]
   constructor
   ·rintro ⟨⟨⟨h1,h2⟩,h3,h4⟩,h5,h6⟩
    exact ⟨l1.trans l2.symm,h1,h2,h3,h4,by rw [if_pos l1,if_pos l2,hw1,hw2];exact h5,by rw [if_pos l1,if_pos l2,ht1,ht2];exact h6⟩
   ·intro h
    refine ⟨⟨⟨h.ce,h.cr⟩,h.ue,h.ur⟩,?_,?_⟩
    ·have:=h.wy;rwa [if_pos l1,if_pos l2,hw1,hw2] at this
    ·have:=h.tn;rwa [if_pos l1,if_pos l2,ht1,ht2] at this
theorem find_own {l:List Shd} (h:l.Pairwise fun a b=>a.id≠b.id) {x:Shd} (hx:x ∈ l):l.find? (fun y=>y.id == x.id)=some x:=by
 induction l with
 | nil=>cases hx
 | cons y l ih =>
   rw [List.pairwise_cons] at h
   rw [List.find?_cons]
   rcases List.mem_cons.1 hx with rfl | hx
   ·simp
   ·have:(y.id == x.id)=false:=by simpa using h.1 x hx
    rw [this]
    exact ih h.2 hx
theorem SameI.symm {l m:List Itm} {a b id:Int} (h:SameI l a m b id):SameI m b l a id:=⟨h.e.symm,h.ce.symm,h.cr.symm,h.ue.symm,h.ur.symm,h.wy.symm,h.tn.symm⟩
/-- The sherds that differ, put into a list as the reference does. -/
theorem differ_ref {l m:List Itm} {a b:Int} (hl:CatOk l) (hm:CatOk m) (hs:∀ id x y,sherdO (countL l a) id=some x→sherdO (countL m b) id=some y→x=y) (D:Int→Bool) (hD:∀ id,D id=false ↔ SameI l a m b id) :
 ascOf (((sherdsL (countL l a) ++sherdsL (countL m b)).filter fun x=>D x.id).map (·.id))=differL (countL l a) (countL m b):=by
 have n1:=countL_ids hl.ids a
 have n2:=countL_ids hm.ids b
 have m1:∀ x ∈ sherdsL (countL l a),sherdO (countL l a) x.id=some x:=fun x hx=>by
  rw [← sherdO_sorted n1]
  have hp:=(sortS_perm (shdsL (countL l a))).symm.pairwise (shdsL_ids n1) (fun h=>h.symm)
  exact find_own hp hx
 have m2:∀ x ∈ sherdsL (countL m b),sherdO (countL m b) x.id=some x:=fun x hx=>by
  rw [← sherdO_sorted n2]
  have hp:=(sortS_perm (shdsL (countL m b))).symm.pairwise (shdsL_ids n2) (fun h=>h.symm)
  exact find_own hp hx
 unfold differL
 refine asc_ext (ascOf_asc _) (ascOf_asc _) fun i=>?_
 rw [mem_ascOf,mem_ascOf,List.filter_append,List.map_append,List.mem_append,List.mem_append]
 have k1:(sherdsL (countL l a)).filter (fun x=>D x.id)=(sherdsL (countL l a)).filter (otherB (countL l a) (countL m b)):=List.filter_congr fun x hx=>by
  have h1:=other_same hl hm hs (m1 x hx) rfl
  have h2:=hD x.id
  rw [Bool.eq_iff_iff]
  cases e1:D x.id <;> cases e2:otherB (countL l a) (countL m b) x <;> simp_all
 have k2:(sherdsL (countL m b)).filter (fun x=>D x.id)=(sherdsL (countL m b)).filter (otherB (countL m b) (countL l a)):=List.filter_congr fun x hx=>by
  have h1:=other_same hm hl (fun id x y h1 h2=>(hs id y x h2 h1).symm) (m2 x hx) rfl
  have h2:=hD x.id
  have h3:SameI m b l a x.id ↔ SameI l a m b x.id:=⟨SameI.symm,SameI.symm⟩
  rw [Bool.eq_iff_iff]
  cases e1:D x.id <;> cases e2:otherB (countL m b) (countL l a) x <;> simp_all
 rw [k1,k2]
open Go.RowKit Go.Shelf
set_option maxHeartbeats 8000000
set_option maxRecDepth 100000
theorem neqS_gen (x y:Spn) (w:World):(binOp .neq 43 (.agg #[.int .i64 x.lo,.int .i64 x.hi,.int .i64 x.lob,.int .i64 x.hib]) (.agg #[.int .i64 y.lo,.int .i64 y.hi,.int .i64 y.lob,.int .i64 y.hib])).run Tryz.prog w=.ok (.bool (!(eqP x y))) w:=by
 have h:(x.lo=y.lo∧x.hi=y.hi∧x.lob=y.lob∧x.hib=y.hib) ↔ eqP x y=true:=by unfold eqP;simp only [Bool.and_eq_true,beq_iff_eq]
 generalize eqP x y=B at *
 rw [run_neq_struct,run_equalIn_agg _ _ _ _ _ Zk Zk]
 simp [go_sem,Tryz.underlying43]
 exact Z9x
theorem eqBs_no {xs ys:List Bd} {k:Nat} (h1:k<xs.length) (h2:k<ys.length) (h:eqB (xs.getD k default) (ys.getD k default)=false):eqBs xs ys=false:=by
 rw [Bool.eq_false_iff]
 intro e
 have:=eqBs_iff.1 e
 subst this
 rw [eqB_iff.2 rfl] at h
 cases h
theorem take_eq {xs ys:List Bd} {k:Nat} (h1:k<xs.length) (h2:k<ys.length) (h:eqB (xs.getD k default) (ys.getD k default)=true) (hk:xs.take k=ys.take k):xs.take (k +1)=ys.take (k +1):=by
 have e:=eqB_iff.1 h
 rw [List.getD_eq_getElem?_getD,List.getElem?_eq_getElem h1,List.getD_eq_getElem?_getD,List.getElem?_eq_getElem h2] at e
 rw [List.take_succ_eq_append_getElem h1,List.take_succ_eq_append_getElem h2,hk]
 simp only [Option.getD_some] at e
 rw [e]
theorem r2eqB (a1 a2:Option Addr) (n1 n2 c1 c2:Nat) (xs ys:List Bd) (w:World) (hx:BdsAt w a1 n1 c1 xs) (hy:BdsAt w a2 n2 c2 ys) :
 Calls Tryz.prog 43 #[.slice a1 n1 c1,.slice a2 n2 c2] w fun e w'=>e=.returned (.bool (eqBs xs ys))∧Below w.heap.size w w':=by
 have hlx:=hx.small
 have hly:=hy.small
 obtain rfl:=hx.len
 obtain rfl:=hy.len
 by_cases hl:xs.length=ys.length
 ·have hY:∀ W,Below w.heap.size w W→BdsAt W a2 xs.length c2 ys:=fun W hb=>by rw [hl];exact hy.below hb
  rw [← hl]
  have HL:=Lib.hid hl
  obtain ⟨N,hN⟩:∃ N,eqBs xs ys=N:=⟨_,rfl⟩
  rw [hN]
  have HN:=Lib.hid hN
  clear hl hy hN hly
  go_enter Tryz.func43,Tryz.ntmps43
  go_wp2_with fail
  go_loopw [5] (fun i wr=>∃ k:Nat,k≤xs.length∧i=.int .i64 k∧xs.take k=ys.take k∧Below w.heap.size w wr) (fun i _=>xs.length - (RowKit.intOf i).toNat)
  case atStart=>exact ⟨0,Nat.zero_le _,rfl,rfl,Below.refl _ _⟩
  case round =>
   obtain ⟨k,hk,rfl,hT,hB⟩:=hrel
   have HT:=Lib.hid hT
   clear hT
   have hnn:(0:Int)≤k:=by omega
   by_cases hlt:k<xs.length
   ·have hlt2:k<ys.length:=by rw [← HL.out];exact hlt
    obtain ⟨b1,o1,rfl,_,d0,d1,d2,d3⟩:=(hx.below hB).get hlt
    obtain ⟨b2,o2,rfl,_,g0,g1,g2,g3⟩:=(hY _ hB).get hlt2
    have i1:(k:Int)<(xs.length:Int):=by omega
    have Hno:=Lib.hid (eqBs_no hlt hlt2)
    have Hye:=Lib.hid (fun h=>take_eq hlt hlt2 h HT.out)
    generalize xs.getD k default=x at *
    generalize ys.getD k default=y at *
    have hne:=fun W=>neqBd_run x y W
    unfold encB at hne
    simp only [Bd.cs] at hne
    clear hlt2
    cases hE:eqB x y with
    | true =>
      rw [hE] at hne
      have HT2:=Lib.hid (Hye.out hE)
      clear hE Hno Hye
      go_wp2_with fail
      go_quiet (fail)
      go_wp2
      go_roundw
      case rel=>exact ⟨k +1,by omega,by go_num,HT2.out,belowN hB⟩
      case measure=>simp [RowKit.intOf] <;> omega
    | false =>
      rw [hE] at hne
      have HF:=Lib.hid (Hno.out hE)
      clear hE Hno Hye
      go_wp2_with fail
      go_quiet (fail)
      go_wp2
      go_ret
      exact ⟨ret_bool (by rw [← HN.out,HF.out]),belowN hB⟩
   ·have htk:eqBs xs ys=true:=eqBs_iff.2 (by
     have e:=HT.out
     rwa [List.take_of_length_le (by omega),List.take_of_length_le (by rw [← HL.out];omega)] at e)
    have HF:=Lib.hid htk
    clear htk
    go_wp2_with fail
    go_ret
    exact ⟨ret_bool (by rw [← HN.out,HF.out]),hB⟩
 ·have hF:eqBs xs ys=false:=by
   rw [Bool.eq_false_iff]
   intro e
   exact hl (congrArg List.length (eqBs_iff.1 e))
  have e1:((xs.length:Int) != (ys.length:Int))=true:=bne_iff_ne.2 (by omega)
  rw [hF]
  generalize xs.length=n1 at *
  generalize ys.length=n2 at *
  clear hl hF
  go_enter Tryz.func43,Tryz.ntmps43
  go_wp2_with fail
  go_ret
  exact ⟨rfl,Below.refl _ _⟩
def eqO (co:Int) (ws ts:List Bd) (co2:Int) (ws2 ts2:List Bd):Bool:=co == co2 && (eqBs ws ws2 && eqBs ts ts2)
theorem r2eqO (co co2:Int) (a1 a2 a3 a4:Option Addr) (n1 n2 n3 n4 c1 c2 c3 c4:Nat) (ws ts ws2 ts2:List Bd) (w:World) (h1:BdsAt w a1 n1 c1 ws) (h2:BdsAt w a2 n2 c2 ts) (h3:BdsAt w a3 n3 c3 ws2) (h4:BdsAt w a4 n4 c4 ts2) :
 Calls Tryz.prog 38 #[.agg #[.int .i64 co,.slice a1 n1 c1,.slice a2 n2 c2],.agg #[.int .i64 co2,.slice a3 n3 c3,.slice a4 n4 c4]] w fun e w'=>e=.returned (.bool (eqO co ws ts co2 ws2 ts2))∧Below w.heap.size w w':=by
 have hB:=(one_alloc w (Obj.cells #[.int .i64 co,.slice a1 n1 c1,.slice a2 n2 c2] 52)).ch2 (one_alloc _ (Obj.cells #[.int .i64 co2,.slice a3 n3 c3,.slice a4 n4 c4] 52))
 have k1:=alKeep (o':=Obj.cells #[.int .i64 co2,.slice a3 n3 c3,.slice a4 n4 c4] 52) (World.alloc_heap_new w (Obj.cells #[.int .i64 co,.slice a1 n1 c1,.slice a2 n2 c2] 52))
 have k2:=World.alloc_heap_new (w.alloc (Obj.cells #[.int .i64 co,.slice a1 n1 c1,.slice a2 n2 c2] 52)) (Obj.cells #[.int .i64 co2,.slice a3 n3 c3,.slice a4 n4 c4] 52)
 rw [World.size_alloc] at k2
 have hS1:=fun W (hb:Below w.heap.size w W)=>r2eqB a1 a3 n1 n3 c1 c3 ws ws2 W (h1.below hb) (h3.below hb)
 have hS2:=fun W (hb:Below w.heap.size w W)=>r2eqB a2 a4 n2 n4 c2 c4 ts ts2 W (h2.below hb) (h4.below hb)
 unfold eqO
 obtain ⟨B1,hB1⟩:∃ B,(co == co2)=B:=⟨_,rfl⟩
 rw [hB1]
 generalize eqBs ws ws2=B2 at *
 generalize eqBs ts ts2=B3 at *
 obtain ⟨x0,x1,x2,xf,xl⟩:=cell3s k1
 obtain ⟨y0,y1,y2,yf,yl⟩:=cell3s k2
 have K1:=Lib.hid k1
 have K2:=Lib.hid k2
 have tok1:True:=trivial
 clear k1 k2 h1 h2 h3 h4
 cases B1 <;> cases B2 <;>
 ·go_enter Tryz.func38,Tryz.ntmps38
  go_wp2_with (first
   | (go_at_call 43;clear tok1;(with_reducible refine (hS1 _ hB).mono ?_);rintro e w2 ⟨rfl,hb2⟩;have hB2:=hB.ch2 hb2;obtain ⟨z0,z1,z2,zf,zl⟩:=cell3s ((hb2.block _ xl).trans K1.out);obtain ⟨u0,u1,u2,uf,ul⟩:=cell3s ((hb2.block _ yl).trans K2.out))
   | (go_at_call 43;(with_reducible refine (hS2 _ hB2).mono ?_);rintro e w3 ⟨rfl,hb3⟩;have hB3:=hB2.ch2 hb3))
  go_ret
  first
   | exact ⟨rfl,hB3⟩
   | exact ⟨rfl,hB2⟩
   | exact ⟨rfl,hB⟩
theorem first5t (a b c d e:Bool):a=true∨(a=false∧b=true)∨(a=false∧b=false∧c=true)∨(a=false∧b=false∧c=false∧d=true)∨(a=false∧b=false∧c=false∧d=false∧e=true)∨(a=false∧b=false∧c=false∧d=false∧e=false):=by
 cases a <;> cases b <;> cases c <;> cases d <;> cases e <;> simp
def difR (l:List Itm) (a:Int) (m:List Itm) (b id:Int):Bool :=
 (lookE l a id != lookE m b id) || ((colE l a id != colE m b id) || ((curE l a id != curE m b id) || (!(eqP (colR l a id) (colR m b id)) || (!((⟨(curR l a id).toArray⟩:ByteArray).toList == (⟨(curR m b id).toArray⟩:ByteArray).toList) || !(eqO (outC l a id) (outW l a id) (outT l a id) (outC m b id) (outW m b id) (outT m b id))))))
theorem r2differs_any (a1 a2:Option Addr) (n1 n2 c1 c2:Nat) (l m:List Itm) (da db id:Int) (w:World) (h1:ItmsAt w a1 n1 c1 l) (h2:ItmsAt w a2 n2 c2 m) (k1:l.length≤c1) (k2:m.length≤c2) (s1:l.length≤1000) (s2:m.length≤1000) :
 Calls Tryz.prog 193 #[.slice a1 n1 c1,.int .i64 da,.slice a2 n2 c2,.int .i64 db,.int .i64 id] w fun e w'=>e=.returned (.bool (difR l da m db id))∧Below w.heap.size w w':=by
 have hO1:=fun W hi=>r2Outline_any a1 n1 c1 l da id W hi k1 s1
 have hO2:=fun W hi=>r2Outline_any a2 n2 c2 m db id W hi k2 s2
 have hC1:=fun W hi=>r2Colour_any a1 n1 c1 l da id W hi k1 s1
 have hC2:=fun W hi=>r2Colour_any a2 n2 c2 m db id W hi k2 s2
 have hV1:=fun W hi=>r2Curves_any a1 n1 c1 l da id W hi k1 s1
 have hV2:=fun W hi=>r2Curves_any a2 n2 c2 m db id W hi k2 s2
 unfold OutE at hO1 hO2
 simp only [Spn.v,Spn.cs] at hC1 hC2
 have q1:=outW_len l da id
 have q2:=outT_len l da id
 have q3:=outW_len m db id
 have q4:=outT_len m db id
 unfold difR
 have hne:=fun W=>neqS_gen (colR l da id) (colR m db id) W
 generalize outC l da id=co1 at *
 generalize outW l da id=W1 at *
 generalize outT l da id=T1 at *
 generalize outC m db id=co2 at *
 generalize outW m db id=W2 at *
 generalize outT m db id=T2 at *
 generalize colR l da id=A at *
 generalize colR m db id=B at *
 generalize (⟨(curR l da id).toArray⟩:ByteArray)=U at *
 generalize (⟨(curR m db id).toArray⟩:ByteArray)=V at *
 generalize lookE l da id=E1 at *
 generalize lookE m db id=F1 at *
 generalize colE l da id=E2 at *
 generalize colE m db id=F2 at *
 generalize curE l da id=E3 at *
 generalize curE m db id=F3 at *
 generalize eqP A B=P4 at *
 obtain ⟨P1,hP1⟩:∃ P,(E1 != F1)=P:=⟨_,rfl⟩
 obtain ⟨P2,hP2⟩:∃ P,(E2 != F2)=P:=⟨_,rfl⟩
 obtain ⟨P3,hP3⟩:∃ P,(E3 != F3)=P:=⟨_,rfl⟩
 obtain ⟨Q4,hQ4⟩:∃ P,(!P4)=P:=⟨_,rfl⟩
 obtain ⟨P5,hP5⟩:∃ P,(U.toList == V.toList)=P:=⟨_,rfl⟩
 obtain ⟨Q5,hQ5⟩:∃ P,(!P5)=P:=⟨_,rfl⟩
 rw [hP1,hP2,hP3,hQ4,hP5,hQ5]
 rw [hQ4] at hne
 obtain rfl:P5=!Q5:=by rw [← hQ5,Bool.not_not]
 clear hQ5 hQ4
 generalize hT:eqO co1 W1 T1 co2 W2 T2=T at *
 have HT:=Lib.hid hT
 have tokA:True:=trivial
 have tokB:True:=trivial
 have tokC:True:=trivial
 clear hT
 rcases first5t P1 P2 P3 Q4 Q5 with rfl | ⟨rfl,rfl⟩ | ⟨rfl,rfl,rfl⟩ | ⟨rfl,rfl,rfl,rfl⟩ | ⟨rfl,rfl,rfl,rfl,rfl⟩ | ⟨rfl,rfl,rfl,rfl,rfl⟩ <;>
 ·go_enter Tryz.func193,Tryz.ntmps193
  go_wp2_with (first
   | (go_at_call 37;clear tokA;(with_reducible refine (hO1 _ h1).mono ?_);rintro e w2 ⟨v1,v2,rfl,hb2,p1,p2⟩;obtain ⟨o1,u1,rfl,_⟩:=owns_slice p1;obtain ⟨o2,u2,rfl,_⟩:=owns_slice p2;have al2:=one_alloc w2 (Obj.cells #[.int .i64 co1,.slice o1 W1.length u1,.slice o2 T1.length u2] 52);have hA2:=World.alloc_heap_new w2 (Obj.cells #[.int .i64 co1,.slice o1 W1.length u1,.slice o2 T1.length u2] 52);have r1:=(BdsAt.of_owns p1 (by omega)).below al2;have r2:=(BdsAt.of_owns p2 (by omega)).below al2;have hB2:=hb2.ch2 al2)
   | (go_at_call 37;(with_reducible refine (hO2 _ (h2.below hB2)).mono ?_);rintro e w3 ⟨v3,v4,rfl,hb3,p3,p4⟩;obtain ⟨o3,u3,rfl,_⟩:=owns_slice p3;obtain ⟨o4,u4,rfl,_⟩:=owns_slice p4;have al3:=one_alloc w3 (Obj.cells #[.int .i64 co2,.slice o3 W2.length u3,.slice o4 T2.length u4] 52);have hA3:=alKeep (o':=(Obj.cells #[.int .i64 co2,.slice o3 W2.length u3,.slice o4 T2.length u4] 52)) ((hb3.block w2.heap.size (by simp)).trans hA2);have hP3:=World.alloc_heap_new w3 (Obj.cells #[.int .i64 co2,.slice o3 W2.length u3,.slice o4 T2.length u4] 52);have r5:=(r1.below hb3).below al3;have r6:=(r2.below hb3).below al3;have r3:=(BdsAt.of_owns p3 (by omega)).below al3;have r4:=(BdsAt.of_owns p4 (by omega)).below al3;have hB3:=(hB2.ch2 hb3).ch2 al3)
   | (go_at_call 33;clear tokB;(with_reducible refine (hC1 _ (h1.below hB3)).mono ?_);rintro e w4 ⟨rfl,hb4⟩;have al4:=one_alloc w4 (Obj.cells #[.int .i64 A.lo,.int .i64 A.hi,.int .i64 A.lob,.int .i64 A.hib] 43);have hc4:=World.alloc_heap_new w4 (Obj.cells #[.int .i64 A.lo,.int .i64 A.hi,.int .i64 A.lob,.int .i64 A.hib] 43);have hY4:=hb4.ch2 al4;have hB4:=hB3.ch2 hY4)
   | (go_at_call 33;(with_reducible refine (hC2 _ (h2.below hB4)).mono ?_);rintro e w5 ⟨rfl,hb5⟩;have al5:=one_alloc w5 (Obj.cells #[.int .i64 B.lo,.int .i64 B.hi,.int .i64 B.lob,.int .i64 B.hib] 43);have hc5:=alKeep (o':=(Obj.cells #[.int .i64 B.lo,.int .i64 B.hi,.int .i64 B.lob,.int .i64 B.hib] 43)) ((hb5.block w4.heap.size (by simp)).trans hc4);have hd5:=World.alloc_heap_new w5 (Obj.cells #[.int .i64 B.lo,.int .i64 B.hi,.int .i64 B.lob,.int .i64 B.hib] 43);have hY5:=(hY4.ch2 hb5).ch2 al5;have hB5:=(hB4.ch2 hb5).ch2 al5)
   | (go_at_call 35;clear tokC;(with_reducible refine (hV1 _ (h1.below hB5)).mono ?_);rintro e w6 ⟨rfl,hb6⟩;have hB6:=hB5.ch2 hb6)
   | (go_at_call 35;(with_reducible refine (hV2 _ (h2.below hB6)).mono ?_);rintro e w7 ⟨rfl,hb7⟩;have hB7:=hB6.ch2 hb7;have hZ7:=hb6.ch2 hb7;have hY7:=hY5.ch2 hZ7;obtain ⟨x0,x1,x2,xf,xl⟩:=cell3s ((hY7.block w2.heap.size (Array.getElem?_eq_some_iff.1 hA3).1).trans hA3);obtain ⟨y0,y1,y2,yf,yl⟩:=cell3s ((hY7.block w3.heap.size (Array.getElem?_eq_some_iff.1 hP3).1).trans hP3);obtain ⟨s0,s1,s2,s3,sf,sl⟩:=cell4s ((hZ7.block w4.heap.size (Array.getElem?_eq_some_iff.1 hc5).1).trans hc5);obtain ⟨t0,t1,t2,t3,tf,tl⟩:=cell4s ((hZ7.block w5.heap.size (Array.getElem?_eq_some_iff.1 hd5).1).trans hd5))
   | (go_at_call 38;(with_reducible refine (r2eqO co1 co2 o1 o2 o3 o4 _ _ _ _ u1 u2 u3 u4 W1 T1 W2 T2 _ (r5.below hY7) (r6.below hY7) (r3.below hY7) (r4.below hY7)).mono ?_);rw [HT.out];rintro e w8 ⟨rfl,hb8⟩;have hB8:=hB7.ch2 hb8))
  go_ret
  first
   | exact ⟨rfl,hB8⟩
   | exact ⟨rfl,hB7⟩
theorem bytes_eq (u v:List UInt8):((⟨u.toArray⟩:ByteArray).toList == (⟨v.toArray⟩:ByteArray).toList)=(u == v):=by
 rw [Lib.toList_data,Lib.toList_data]
theorem difR_same {l m:List Itm} {a b id:Int}:difR l a m b id=false ↔ SameI l a m b id∧outC l a id=outC m b id:=by
 unfold difR eqO
 rw [bytes_eq]
 simp only [Bool.or_eq_false_iff,bne_eq_false_iff_eq,Bool.not_eq_false',Bool.and_eq_true,beq_iff_eq,eqP_iff,eqBs_iff]
 constructor
 ·rintro ⟨h1,h2,h3,h4,h5,h6,h7,h8⟩
  exact ⟨⟨h1,h2,h4,h3,h5,h7,h8⟩,h6⟩
 ·rintro ⟨h,h6⟩
  exact ⟨h.e,h.ce,h.ue,h.cr,h.ur,h6,h.wy,h.tn⟩
set_option maxHeartbeats 16000000
/-- The sherds of two lists that differ, as the reference puts them down. -/
def eiN (N:List Shd) (D:Int→Bool) (k:Nat):List Int:=ascOf (((N.take k).filter fun x=>D x.id).map (·.id))
theorem eiN_len (N:List Shd) (D:Int→Bool) (k:Nat):(eiN N D k).length≤N.length:=by
 unfold eiN
 refine Nat.le_trans (ascOf_len _) ?_
 rw [List.length_map]
 refine Nat.le_trans (List.length_filter_le _ _) ?_
 rw [List.length_take]
 omega
theorem eiN_succ {N:List Shd} {D:Int→Bool} {k:Nat} (hk:k<N.length):eiN N D (k +1)=if D (N.getD k default).id then ascOf (eiN N D k ++[(N.getD k default).id]) else eiN N D k:=by
 unfold eiN
 rw [List.take_succ_eq_append_getElem hk,List.filter_append,List.map_append,List.getD_eq_getElem?_getD,List.getElem?_eq_getElem hk]
 simp only [Option.getD_some,List.filter_cons,List.filter_nil]
 split
 ·refine asc_ext (ascOf_asc _) (ascOf_asc _) fun x=>?_
  rw [mem_ascOf,mem_ascOf,List.mem_append,List.mem_append,mem_ascOf]
  rfl
 ·rw [List.map_nil,List.append_nil]
theorem eiN_has {N:List Shd} {D:Int→Bool} {k:Nat} (hk:k<N.length) (h:(eiN N D k).any (· == (N.getD k default).id)=true):eiN N D (k +1)=eiN N D k:=by
 rw [eiN_succ hk]
 obtain ⟨y,hy,e⟩:=List.any_eq_true.1 h
 have e:y=(N.getD k default).id:=by simpa using e
 rw [e] at hy
 split
 ·refine asc_ext (ascOf_asc _) (by unfold eiN;exact ascOf_asc _) fun x=>?_
  rw [mem_ascOf,List.mem_append,List.mem_singleton]
  constructor
  ·rintro (h | rfl)
   ·exact h
   ·exact hy
  ·exact .inl
 ·rfl
theorem shd_wide0 (l:List Itm):(sherdsL l).length≤l.length:=by
 exact Z9v
theorem r2either_any (a1 a2:Option Addr) (n1 n2 c1 c2:Nat) (l m:List Itm) (da db:Int) (w:World) (h1:ItmsAt w a1 n1 c1 l) (h2:ItmsAt w a2 n2 c2 m) (k1:l.length≤c1) (k2:m.length≤c2) (s1:l.length≤1000) (s2:m.length≤1000) (D:Int→Bool) (hDD:∀ i,difR l da m db i=D i) :
 Calls Tryz.prog 134 #[.slice a1 n1 c1,.int .i64 da,.slice a2 n2 c2,.int .i64 db] w (RowPost w 3 1 (eiN (sherdsL (cntL l da) ++sherdsL (cntL m db)) D (sherdsL (cntL l da) ++sherdsL (cntL m db)).length).length ((eiN (sherdsL (cntL l da) ++sherdsL (cntL m db)) D (sherdsL (cntL l da) ++sherdsL (cntL m db)).length).map (.int .i64))):=by
 have hS1:=fun W hi=>r2Sherds_any a1 n1 c1 l da W hi k1 s1
 have hS2:=fun W hi=>r2Sherds_any a2 n2 c2 m db W hi k2 s2
 have hD:=fun W i hi hj=>r2differs_any a1 a2 n1 n2 c1 c2 l m da db i W hi hj k1 k2 s1 s2
 have q1:(sherdsL (cntL l da)).length≤1000:=by
  refine Nat.le_trans (shd_wide0 _) ?_
  unfold cntL
  split
  ·exact Nat.le_trans (countL_len l da) s1
  ·simp
 have q2:(sherdsL (cntL m db)).length≤1000:=by
  refine Nat.le_trans (shd_wide0 _) ?_
  unfold cntL
  split
  ·exact Nat.le_trans (countL_len m db) s2
  ·simp
 generalize sherdsL (cntL l da)=S at *
 generalize sherdsL (cntL m db)=T at *
 simp only [hDD] at hD
 clear hDD
 obtain ⟨N,hN⟩:∃ N,S ++T=N:=⟨_,rfl⟩
 have hNl:N.length=S.length +T.length:=by rw [← hN,List.length_append]
 rw [hN]
 have HP:=Lib.hid (show ∀ v w',Below w.heap.size w w'→w'.ownsRow w.heap.size 3 1 v (eiN N D N.length).length ((eiN N D N.length).map (.int .i64))→RowPost w 3 1 (eiN N D N.length).length ((eiN N D N.length).map (.int .i64)) (.returned v) w' from fun v w' h1 h2=>⟨v,rfl,h1,h2⟩)
 generalize RowPost w 3 1 (eiN N D N.length).length ((eiN N D N.length).map (.int .i64))=Post at *
 have HN:=Lib.hid hN
 have HNl:=Lib.hid hNl
 clear hN
 have tokA:True:=trivial
 have tokB:True:=trivial
 go_enter Tryz.func134,Tryz.ntmps134
 go_wp2_with (first
  | (go_at_call 59;clear tokA;(with_reducible refine (hS1 _ h1).mono ?_);rintro e w2 ⟨v2,rfl,hb2,ho2⟩;obtain ⟨a3,c3,rfl,_⟩:=owns_slice ho2;have hB2:=hb2)
  | (go_at_call 59;(with_reducible refine (hS2 _ (h2.below hB2)).mono ?_);rintro e w3 ⟨v3,rfl,hb3,ho3⟩;obtain ⟨a4,c4,rfl,_⟩:=owns_slice ho3;have hlit:=World.ownsRow_lit (base:=w3.heap.size) (e:=72) (size:=6) w3 #[] 0 (Nat.le_refl _) (by decide) rfl;have hal:=one_alloc w3 (Obj.cells #[] 72);have hr3:=((RowAt.of_owns ho2).below hb3).below hal;have hr4:=(RowAt.of_owns ho3).below hal)
  | (at_builtin;clear tokB;refine wpList_app elemH rfl _ _ rfl hlit rfl rfl hr3 (scs_length S) (scs_one _) Z1s (by omega) (by simp) ?_;intro v5 w5 hr5 hg5 hb5 _ _;replace hr5:w5.ownsRow w3.heap.size 72 6 v5 S.length (scs S):=(by simpa using hr5);obtain ⟨a5,c5,rfl,_⟩:=owns_slice hr5;have hC5:=hal.trans hb5;have hr6:=((RowAt.of_owns ho3).below hC5))
  | (at_builtin;refine wpList_app elemH rfl _ _ rfl hr5 rfl rfl hr6 (scs_length T) (scs_one _) Z1s (by omega) hC5.size ?_;intro v7 w7 hr7 hg7 hb7 _ _;obtain ⟨a7,c7,rfl,_⟩:=owns_slice hr7;have hC7:=hC5.trans hb7))
 have hrow:RowAt w7 a7 c7 (scs N):=by
  have:=RowAt.of_owns hr7
  rw [← scs_append,HN.out] at this
  exact this
 have HB7:=Lib.hid ((hB2.ch2 hb3).ch2 hC7)
 have hi1:=h1.below HB7.out
 have hi2:=h2.below HB7.out
 have hln:S.length +T.length=N.length:=by rw [HNl.out]
 rw [hln]
 clear hS1 hS2 hB2 hb2 hb3 ho2 ho3 hlit hal hr3 hr4 hr5 hg5 hb5 hC5 hr6 hr7 hg7 hb7 hC7 h1 h2 hln hNl
 have hN2:N.length≤2000:=by rw [HNl.out];omega
 go_loopw [9,15] (fun r i wr=>∃ k:Nat,k≤N.length∧i=.int .i64 k∧wr.ownsRow w7.heap.size 3 1 r (eiN N D k).length ((eiN N D k).map (.int .i64))∧Below w7.heap.size w7 wr) (fun _ i _=>N.length - (RowKit.intOf i).toNat)
 case atStart=>exact ⟨0,Nat.zero_le _,rfl,World.ownsRow_nil _ _ _ _,Below.refl _ _⟩
 case round =>
  obtain ⟨k,hk,rfl,hro,hB⟩:=hrel
  have hnn:(0:Int)≤k:=by omega
  obtain ⟨ua,uc,rfl,_⟩:=owns_slice hro
  by_cases hlt:k<N.length
  ·have i1:(k:Int)<(N.length:Int):=by omega
   obtain ⟨b,o,rfl,hbz,d0,_,_,_,_,_⟩:=shd_get6 (hrow.below hB) hlt
   have Hst:=Lib.hid (eiN_succ (D:=D) hlt)
   have Hsh:=Lib.hid (eiN_has (D:=D) hlt)
   have hAs:Asc (eiN N D k):=by unfold eiN;exact ascOf_asc _
   have hln:=eiN_len N D k
   obtain ⟨x,hx⟩:∃ x,(N.getD k default).id=x:=⟨_,rfl⟩
   rw [hx] at d0 Hst Hsh
   clear hx
   generalize eiN N D k=A at *
   have hm:=IntsAt.of_owns hro (by omega)
   have hHas:=r2has_any ua _ uc A x wr hm
   have hca:=row_cap hro
   have hcd:=hD wr x (hi1.below hB) (hi2.below hB)
   have HR:=Lib.hid hro
   have HB:=Lib.hid hB
   clear hro hB
   cases hA:A.any (· == x) with
   | true =>
     rw [hA] at hHas
     have HS:=Lib.hid (Hsh.out hA)
     clear hA Hsh Hst hAs hcd hm
     go_wp2_with (go_at_call 51;(with_reducible refine hHas.mono ?_);rintro e w8 ⟨rfl,rfl⟩)
     go_roundw
     case rel=>exact ⟨k +1,by omega,by go_num,by rw [HS.out];exact HR.out,HB.out⟩
     case measure=>simp [RowKit.intOf] <;> omega
   | false =>
     rw [hA] at hHas
     have hnot:x ∉ A:=fun hm=>by
      rw [List.any_eq_false] at hA
      exact hA x hm (by simp)
     cases hDx:D x with
     | false =>
       rw [hDx] at hcd Hst
       clear hA Hsh hAs hm hnot hDx
       go_wp2_with (first
        | (go_at_call 51;(with_reducible refine hHas.mono ?_);rintro e w8 ⟨rfl,rfl⟩)
        | (go_at_call 193;(with_reducible refine hcd.mono ?_);rintro e w9 ⟨rfl,hb9⟩))
       go_roundw
       case rel=>exact ⟨k +1,by omega,by go_num,by rw [Hst.out];exact HR.out.up hb9 (Nat.le_refl _),HB.out.ch2 hb9⟩
       case measure=>simp [RowKit.intOf] <;> omega
     | true =>
       rw [hDx] at hcd Hst
       have hpt:=fun W hi=>r2put_any ua A.length uc A x W hi hca hAs hnot (by omega)
       unfold RowPost at hpt
       clear hA Hsh hAs hnot hDx
       go_wp2_with (first
        | (go_at_call 51;(with_reducible refine hHas.mono ?_);rintro e w8 ⟨rfl,rfl⟩)
        | (go_at_call 193;(with_reducible refine hcd.mono ?_);rintro e w9 ⟨rfl,hb9⟩;have d1:=((bcell hb9).1 _ _ hbz).trans d0)
        | (go_at_call 105;(with_reducible refine (hpt _ (hm.below hb9)).mono ?_);rintro e w10 ⟨v10,rfl,hb10,ho10⟩))
       go_roundw
       case rel=>exact ⟨k +1,by omega,by go_num,by rw [Hst.out];exact SL.row_base ho10 (HB.out.ch2 hb9).size,(HB.out.ch2 hb9).ch2 hb10⟩
       case measure=>simp [RowKit.intOf] <;> omega
  ·have hk2:k=N.length:=by omega
   have i1:¬ (k:Int)<(N.length:Int):=by omega
   subst hk2
   have HF:=Lib.hid (HP.out (.slice ua (eiN N D N.length).length uc) wr (HB7.out.ch2 hB) (SL.row_base hro HB7.out.size))
   clear hro hB
   exact Z4t
/-- Sherds of one Id in two catalogues of one list. -/
theorem one_sherd {M l m:List Itm} {a b:Int} (hM:M.Pairwise fun x y=>x.id≠y.id) (h1:∀ x ∈ countL l a,x ∈ M) (h2:∀ x ∈ countL m b,x ∈ M):∀ id x y,sherdO (countL l a) id=some x→sherdO (countL m b) id=some y→x=y:=by
 intro id x y hx hy
 obtain ⟨z,hz,e1,e2,e3⟩:=sherdO_some hx
 obtain ⟨u,hu,f1,f2,f3⟩:=sherdO_some hy
 have:z=u:=ids_inj hM (h1 z hz) (h2 u hu) (e1.trans f1.symm)
 subst this
 exact e3.trans f3.symm
theorem difR_iff {l m:List Itm} {a b:Int} (hl:CatOk l) (hm:CatOk m) (hs:∀ id x y,sherdO (countL l a) id=some x→sherdO (countL m b) id=some y→x=y) (id:Int):difR l a m b id=false ↔ SameI l a m b id:=by
 rw [difR_same]
 constructor
 ·exact fun h=>h.1
 ·intro h
  refine ⟨h,?_⟩
  unfold outC
  rw [h.e]
  by_cases h0:lookE m b id=0
  ·rw [if_pos h0,if_pos h0]
   have s1:=(look_ok (h.e.trans h0)).some
   have s2:=(look_ok h0).some
   rw [hs id _ _ s1 s2]
  ·rw [if_neg h0,if_neg h0]
theorem eiN_all {l m:List Itm} {a b:Int} (hl:CatOk l) (hm:CatOk m) (hs:∀ id x y,sherdO (countL l a) id=some x→sherdO (countL m b) id=some y→x=y):eiN (sherdsL (countL l a) ++sherdsL (countL m b)) (fun i=>difR l a m b i) (sherdsL (countL l a) ++sherdsL (countL m b)).length=differL (countL l a) (countL m b):=by
 unfold eiN
 rw [List.take_length]
 exact differ_ref hl hm hs (fun i=>difR l a m b i) (fun id=>difR_iff hl hm hs id)
set_option maxHeartbeats 8000000
theorem r2Changed_any (a:Option Addr) (n cap:Nat) (l:List Itm) (fr tw:Int) (w:World) (h:ItmsAt w a n cap l) (hcap:l.length≤cap) (hs:l.length≤1000) :
 Calls Tryz.prog 70 #[.slice a n cap,.int .i64 fr,.int .i64 tw] w (IntE w (chkI l).2 (changedL l fr tw)):=by
 have hC:=r2Check_any a n cap l w h hcap
 have HP:=Lib.hid (show ∀ w' v E A,(chkI l).2=E→changedL l fr tw=A→Below w.heap.size w w'→w'.ownsRow w.heap.size 3 1 v A.length (A.map (.int .i64))→IntE w (chkI l).2 (changedL l fr tw) (.returned (.tuple #[v,.int .i64 E])) w' from fun w' v E A h0 h1 h2 h3=>⟨v,by rw [h0],h2,by rw [h1];exact h3⟩)
 generalize IntE w (chkI l).2 (changedL l fr tw)=Post at *
 unfold PairI at hC
 by_cases h0:(chkI l).2=0
 ·have hc:=chk_ok.1 h0
  have e1:∀ d,cntL l d=countL l d:=fun d=>by unfold cntL;rw [if_pos h0]
  have e2:changedL l fr tw=differL (countL l fr) (countL l tw):=by unfold changedL;rw [if_pos h0]
  have hE:=fun W (hi:ItmsAt W a n cap l)=>r2either_any a a n n cap cap l l fr tw W hi hi hcap hcap hs hs (fun i=>difR l fr l tw i) (fun _=>rfl)
  rw [e1,e1,eiN_all hc hc (one_sherd hc.ids (fun x hx=>(countL_sub hx).1) (fun x hx=>(countL_sub hx).1)),← e2] at hE
  unfold RowPost at hE
  have HPf:=Lib.hid (fun w' v=>HP.out w' v 0 _ h0 rfl)
  rw [h0] at hC
  clear HP hc e1 e2 h0
  generalize changedL l fr tw=A at *
  generalize (chkI l).1=C1 at *
  go_enter Tryz.func70,Tryz.ntmps70
  go_wp2_with (first
   | (go_at_call 22;(with_reducible refine hC.mono ?_);rintro e w1 ⟨rfl,hb1⟩)
   | (go_at_call 134;(with_reducible refine (hE _ (h.below hb1)).mono ?_);rintro e w2 ⟨v2,rfl,hb2,ho2⟩))
  exact HPf.out _ _ (hb1.ch2 hb2) (SL.row_base ho2 hb1.size)
 ·have e2:changedL l fr tw=[]:=by unfold changedL;rw [if_neg h0]
  have HPf:=Lib.hid (fun w'=>HP.out w' (.slice none 0 0) _ [] rfl e2)
  generalize (chkI l).2=E at *
  generalize (chkI l).1=C1 at *
  have e3:(E != 0)=true:=by simpa using h0
  clear HP h0 e2
  go_enter Tryz.func70,Tryz.ntmps70
  go_wp2_with (go_at_call 22;(with_reducible refine hC.mono ?_);rintro e w1 ⟨rfl,hb1⟩)
  exact HPf.out _ hb1 (World.ownsRow_nil _ _ _ _)
theorem r2Reached_any (x:Itm) (a:Option Addr) (n cap:Nat) (l:List Itm) (w:World) (h:ItmsAt w a n cap l) (hcap:l.length≤cap) (hx:x.Wide) (hs:l.length≤900) :
 Calls Tryz.prog 71 #[.slice a n cap,x.v] w (IntE w (apE l x) (reachL l x)):=by
 have hB0:=one_alloc w (Obj.cells #[.int .i64 x.id,.int .i64 x.kn,.int .u8 x.kd,.string x.wa,.int .i64 x.pit,.int .i64 x.ly,.int .i64 x.co,.bool x.ft,.int .i64 x.sh,.int .i64 x.fr,.int .i64 x.tw,.int .i64 x.lo,.int .i64 x.hi,.string x.st,.int .i64 x.li,.int .i64 x.vo] 24)
 have hX0:=World.alloc_heap_new w (Obj.cells #[.int .i64 x.id,.int .i64 x.kn,.int .u8 x.kd,.string x.wa,.int .i64 x.pit,.int .i64 x.ly,.int .i64 x.co,.bool x.ft,.int .i64 x.sh,.int .i64 x.fr,.int .i64 x.tw,.int .i64 x.lo,.int .i64 x.hi,.string x.st,.int .i64 x.li,.int .i64 x.vo] 24)
 have hA:=r2Append_any x a n cap l _ (h.below hB0) hcap hx
 have HP:=Lib.hid (show ∀ w' v E A,apE l x=E→reachL l x=A→Below w.heap.size w w'→w'.ownsRow w.heap.size 3 1 v A.length (A.map (.int .i64))→IntE w (apE l x) (reachL l x) (.returned (.tuple #[v,.int .i64 E])) w' from fun w' v E A h0 h1 h2 h3=>⟨v,by rw [h0],h2,by rw [h1];exact h3⟩)
 generalize IntE w (apE l x) (reachL l x)=Post at *
 unfold RowE at hA
 simp only [Itm.v,Itm.cs] at hA ⊢
 by_cases h0:apE l x=0
 ·obtain ⟨hc,hc2⟩:=ap_ok h0
  have e3:apL l x=l ++[x]:=by unfold apL;rw [if_pos h0]
  have e4:reachL l x=differL (countL l x.kn) (countL (l ++[x]) x.kn):=by unfold reachL;rw [if_pos h0]
  have e5:∀ d,cntL l d=countL l d:=fun d=>by unfold cntL;rw [if_pos (chk_ok.2 hc)]
  have e6:∀ d,cntL (l ++[x]) d=countL (l ++[x]) d:=fun d=>by unfold cntL;rw [if_pos (chk_ok.2 hc2)]
  have hlm:(l ++[x]).length≤1000:=by simp;omega
  have hE:=fun W b c (hi:ItmsAt W a n cap l) (hj:ItmsAt W b (l ++[x]).length c (l ++[x])) (hcc:(l ++[x]).length≤c)=>r2either_any a b n _ cap c l (l ++[x]) x.kn x.kn W hi hj hcap hcc (by omega) hlm (fun i=>difR l x.kn (l ++[x]) x.kn i) (fun _=>rfl)
  rw [e5,e6,eiN_all hc hc2 (one_sherd hc2.ids (fun y hy=>List.mem_append_left _ (countL_sub hy).1) (fun y hy=>(countL_sub hy).1)),← e4] at hE
  unfold RowPost at hE
  have hmw:∀ y ∈ l ++[x],y.Wide:=fun y hy=>by
   rcases List.mem_append.1 hy with hy | hy
   ·exact h.wide y hy
   ·simp at hy;subst hy;exact hx
  have HPf:=Lib.hid (fun w' v=>HP.out w' v 0 _ h0 rfl)
  rw [h0,e3] at hA
  clear HP hc hc2 e3 e4 e5 e6 h0
  generalize reachL l x=A at *
  obtain ⟨M,hM⟩:∃ M,l ++[x]=M:=⟨_,rfl⟩
  simp only [hM] at hA hE hmw hlm
  clear hM
  go_enter Tryz.func71,Tryz.ntmps71
  go_wp2_with (first
   | (go_at_call 24;(with_reducible refine hA.mono ?_);rintro e w1 ⟨v1,rfl,hb1,ho1⟩;obtain ⟨ma,mc,rfl,_⟩:=owns_slice ho1;have hi1:=h.below (hB0.ch2 hb1);have hm1:=ItmsAt.of_owns ho1 (by omega) hmw;have hmc:=row_cap ho1;have hdc:=(ItmCells.of_heap ((hb1.block w.heap.size (by simp)).trans hX0)).1;have g1:=hdc.c1)
   | (go_at_call 134;(with_reducible refine (hE _ _ _ hi1 hm1 hmc).mono ?_);rintro e w2 ⟨v2,rfl,hb2,ho2⟩))
  exact HPf.out _ _ ((hB0.ch2 hb1).ch2 hb2) (SL.row_base ho2 (hB0.ch2 hb1).size)
 ·have e4:reachL l x=[]:=by unfold reachL;rw [if_neg h0]
  have e3:apL l x=[]:=by unfold apL;rw [if_neg h0]
  rw [e3] at hA
  have HPf:=Lib.hid (fun w'=>HP.out w' (.slice none 0 0) _ [] rfl e4)
  generalize apE l x=E at *
  have e2:(E != 0)=true:=by simpa using h0
  clear HP h0 e3 e4
  go_enter Tryz.func71,Tryz.ntmps71
  go_wp2_with (go_at_call 24;(with_reducible refine hA.mono ?_);rintro e w1 ⟨v1,rfl,hb1,ho1⟩;obtain ⟨ma,mc,rfl,_⟩:=owns_slice ho1)
  exact HPf.out _ (hB0.ch2 hb1) (World.ownsRow_nil _ _ _ _)
theorem dif_len (s t:List Itm):(differL s t).length≤s.length +t.length:=by
 unfold differL
 refine Nat.le_trans (ascOf_len _) ?_
 have h3:=shd_wide0 s
 have h4:=shd_wide0 t
 have h5:=List.length_filter_le (otherB s t) (sherdsL s)
 have h6:=List.length_filter_le (otherB t s) (sherdsL t)
 simp only [List.length_append,List.length_map]
 omega
theorem lchanges (a:Option Addr) (n cap:Nat) (l:List Itm) (fr tw:Int) (x:Itm) (w:World) (h:ItmsAt w a n cap l) (hcap:l.length≤cap) (hxw:x.Wide) :
 Calls Tryz.prog 17 #[.slice a n cap,.int .i64 fr,.int .i64 tw,x.v] w fun e w'=>e=.returned (.bool true)∧Below w.heap.size w w':=by
 have hSh:=fun W=>lshelved W
 have hB0:=one_alloc w (Obj.cells #[.int .i64 x.id,.int .i64 x.kn,.int .u8 x.kd,.string x.wa,.int .i64 x.pit,.int .i64 x.ly,.int .i64 x.co,.bool x.ft,.int .i64 x.sh,.int .i64 x.fr,.int .i64 x.tw,.int .i64 x.lo,.int .i64 x.hi,.string x.st,.int .i64 x.li,.int .i64 x.vo] 24)
 have hX0:=World.alloc_heap_new w (Obj.cells #[.int .i64 x.id,.int .i64 x.kn,.int .u8 x.kd,.string x.wa,.int .i64 x.pit,.int .i64 x.ly,.int .i64 x.co,.bool x.ft,.int .i64 x.sh,.int .i64 x.fr,.int .i64 x.tw,.int .i64 x.lo,.int .i64 x.hi,.string x.st,.int .i64 x.li,.int .i64 x.vo] 24)
 have hFe:=fun W (hb:Below w.heap.size w W)=>lfew 25 a n cap l W (h.below hb) (by omega)
 have hOn:=fun W=>lone x W
 have h25:((25:Nat):Int)=25:=rfl
 rw [h25] at hFe
 have hlen:=fun (hF:fewB l 25=true)=>fewB_len hF
 generalize fewB l 25=F at *
 generalize shortB x=O at *
 simp only [Itm.v,Itm.cs] at hOn
 show Calls Tryz.prog _ #[_,_,_,.agg #[.int .i64 x.id,.int .i64 x.kn,.int .u8 x.kd,.string x.wa,.int .i64 x.pit,.int .i64 x.ly,.int .i64 x.co,.bool x.ft,.int .i64 x.sh,.int .i64 x.fr,.int .i64 x.tw,.int .i64 x.lo,.int .i64 x.hi,.string x.st,.int .i64 x.li,.int .i64 x.vo]] w _
 cases F with
 | false =>
   exact Z9r
 | true =>
   cases O with
   | false =>
     exact Z9r
   | true =>
     have hl25:=hlen rfl
     clear hlen
     have hC1:=fun W hi=>sChanged_any a n cap l fr tw W hi hcap
     have hC2:=fun W hi=>r2Changed_any a n cap l fr tw W hi hcap (by omega)
     have hR1:=fun W hi=>sReached_any x a n cap l W hi hcap hxw
     have hR2:=fun W hi=>r2Reached_any x a n cap l W hi hcap hxw (by omega)
     unfold IntE at hC1 hC2 hR1 hR2
     have hn1:(changedL l fr tw).length≤100:=by
      unfold changedL
      split
      ·have:=dif_len (countL l fr) (countL l tw)
       have:=countL_len l fr
       have:=countL_len l tw
       omega
      ·simp
     have hn2:(reachL l x).length≤100:=by
      unfold reachL
      split
      ·have:=dif_len (countL l x.kn) (countL (l ++[x]) x.kn)
       have:=countL_len l x.kn
       have h9:=countL_len (l ++[x]) x.kn
       simp only [List.length_append,List.length_cons,List.length_nil] at h9
       omega
      ·simp
     have Hl:=Lib.hid h.len
     generalize changedL l fr tw=A at *
     generalize reachL l x=B at *
     generalize (chkI l).2=E1 at *
     generalize apE l x=E2 at *
     have tokA:True:=trivial
     go_enter Tryz.func17,Tryz.ntmps17
     go_wp2_with (first
      | (refine wpList_loadI rfl _ rfl rfl hdc ?_)
      | (go_at_call 18;(with_reducible refine (hFe _ hB0).mono ?_);rintro e w1 ⟨rfl,hb1⟩;have hB1:=hB0.ch2 hb1;have hX1:=(hb1.block w.heap.size (by simp)).trans hX0;have zX:=(Array.getElem?_eq_some_iff.1 hX1).1;obtain ⟨⟨d0,d1,d2,d3,d4,d5,d6,d7,d8,d9,d10,d11,d12,d13,d14,d15⟩,_,_⟩:=ItmCells.of_heap hX1)
      | (go_at_call 19;(with_reducible refine (hOn _).mono ?_);rintro e w2 ⟨rfl,hb2⟩;clear d0 d1 d2 d3 d4 d5 d6 d7 d8 d9 d10 d11 d12 d13 d14 d15;have hB2:=hB1.ch2 hb2)
      | (go_at_call 67;(with_reducible refine (hC1 _ (h.below hB2)).mono ?_);rintro e w3 ⟨v3,rfl,hb3,ho3⟩;obtain ⟨a3,c3,rfl,_⟩:=owns_slice ho3;have m3:=IntsAt.of_owns ho3 (by omega);have hB3:=hB2.ch2 hb3)
      | (go_at_call 70;(with_reducible refine (hC2 _ (h.below hB3)).mono ?_);rintro e w4 ⟨v4,rfl,hb4,ho4⟩;obtain ⟨a4,c4,rfl,_⟩:=owns_slice ho4;have m4:=IntsAt.of_owns ho4 (by omega);have hB4:=hB3.ch2 hb4;have hZ4:=(hb2.ch2 hb3).ch2 hb4;have hX4:=(hZ4.block _ zX).trans hX1;have hdc:=(ItmCells.of_heap hX4).1)
      | (go_at_call 68;(with_reducible refine (hR1 _ (h.below hB4)).mono ?_);rintro e w5 ⟨v5,rfl,hb5,ho5⟩;obtain ⟨a5,c5,rfl,_⟩:=owns_slice ho5;have m5:=IntsAt.of_owns ho5 (by omega);have hB5:=hB4.ch2 hb5;clear hdc;have hX5:=((hZ4.ch2 hb5).block _ zX).trans hX1;have hdc:=(ItmCells.of_heap hX5).1)
      | (go_at_call 71;(with_reducible refine (hR2 _ (h.below hB5)).mono ?_);rintro e w6 ⟨v6,rfl,hb6,ho6⟩;obtain ⟨a6,c6,rfl,_⟩:=owns_slice ho6;have m6:=IntsAt.of_owns ho6 (by omega);have hB6:=hB5.ch2 hb6)
      | (go_at_call 20;(with_reducible refine (hSh _).mono ?_);rintro e w7 ⟨rfl,hb7⟩;have q3:=(((m3.below hb4).below hb5).below hb6).below hb7;have q4:=((m4.below hb5).below hb6).below hb7;have q5:=(m5.below hb6).below hb7;have q6:=m6.below hb7;have hB7:=hB6.ch2 hb7)
      | (go_at_call 48;clear tokA;(with_reducible refine (r2sameInts a3 a4 _ _ c3 c4 A _ q3 q4).mono ?_);rintro e w8 ⟨rfl,hb8⟩)
      | (go_at_call 48;(with_reducible refine (r2sameInts a5 a6 _ _ c5 c6 B _ (q5.below hb8) (q6.below hb8)).mono ?_);rintro e w9 ⟨rfl,hb9⟩))
     go_ret
     exact ⟨rfl,(hB7.ch2 hb8).ch2 hb9⟩
open Go.ChangeShapes Go.WideShapes Go.ChangeAt Go.RowKit Go.Joins Go.Deep
set_option maxRecDepth 100000 in
theorem sherdChanges_lifted (os:Os) (started:os.Started) (H:Type) (enc:TypeId × Value→H) :
 ReturnsInHanded {} Tryz.checked os 17 .any (Rows.sherdChangesSpec.pre6 enc Tryz.prog Tryz.f17 Rows.sherdChangesRow.domain false) (Rows.sherdChangesSpec.post enc Tryz.prog Tryz.f17 false true false false):=by
 refine returnsInHanded_of_change_sized (C:=Tryz.checked) Tryz.own started Zk Tryz.func17
  (ChangeSpec.witness6 (enc:=enc) (C:=Tryz.checked) false ⟨#[],#[.slice none 0 0,.int .i64 0,.int .i64 0,.agg #[.int .i64 0,.int .i64 0,.int .u8 0,.string ⟨#[]⟩,.int .i64 0,.int .i64 0,.int .i64 0,.bool false,.int .i64 0,.int .i64 0,.int .i64 0,.int .i64 0,.int .i64 0,.string ⟨#[]⟩,.int .i64 0,.int .i64 0]],[]⟩ 8 Zk Zk Zk Zk) ?_
 intro W base args ds gs before hval0 hW _ hsz0 _
 have hsz:(DataW.weightsEach Tryz.prog (Tryz.f17.params.toList ++Rows.sherdChangesSpec.plain.varTypes Tryz.prog) (ds ++gs)).all (·≤reachBytes)=true:=hsz0
 clear hsz0
 have hval:∀ (j:Nat) t v,Tryz.f17.params[j]?=some t→args[j]?=some v→Value.okWide Tryz.prog W .any base t v:=hval0
 have hW':=hW
 obtain ⟨p,q,hA0,hV,rfl,_,_⟩:=hW
 have hA:DataW.TrodAll enc Tryz.prog W 0 (fun _=>true) true Tryz.f17.params.toList args.toList ds p:=hA0
 rw [Tryz.params17] at hA hval hsz
 obtain ⟨v0,vs0,d0,ds0,p0,q0,hargs,rfl,rfl,h0,r0⟩:=trodAll_cons hA
 obtain ⟨v1,vs1,d1,ds1,p1,q1,rfl,rfl,rfl,h1,r1⟩:=trodAll_cons r0
 obtain ⟨v2,vs2,d2,ds2,p2,q2,rfl,rfl,rfl,h2,r2⟩:=trodAll_cons r1
 obtain ⟨v3,vs3,d3,ds3,p3,q3,rfl,rfl,rfl,h3,r3⟩:=trodAll_cons r2
 obtain ⟨rfl,rfl,rfl⟩:=trodAll_nil r3
 obtain rfl:args=#[v0,v1,v2,v3]:=by cases args;simp_all
 obtain ⟨rfl,rfl⟩:=trodVars_none hV
 clear hA0 hval0
 have hlt:∀ x ∈ p0 ++p1 ++p2 ++p3,x.block<W.heap.size:=fun x hx=>by have:=hW'.lt x (by simpa using hx);simpa using this
 obtain ⟨a0,n0,k0,xs0,rfl,hb0,hn0⟩:=items_open (hval 0 22 v0 rfl rfl) h0 (fun n hn=>by
  have:=List.all_eq_true.1 hsz _ (DataW.weights_mem_each (j:=0) rfl rfl n hn)
  simpa using this)
 obtain ⟨x1,rfl⟩:=okWide_int Tryz.underlying3 (hval 1 3 v1 rfl rfl)
 obtain ⟨x2,rfl⟩:=okWide_int Tryz.underlying3 (hval 2 3 v2 rfl rfl)
 obtain ⟨x3,rfl,hw3⟩:=item_open (hval 3 24 v3 rfl rfl) h3
 refine (lchanges a0 n0 k0 xs0 x1 x2 x3 W hb0 hn0 hw3).mono fun e W' ⟨he,hw⟩=>?_
 subst he
 exact ⟨_,rfl,⟨_,_,_,[],_,[],hW',trodAll_mk1 (shut_bool Tryz.underlying4 _),(trodAll_cons_mk (Below.trod Tryz.laidOut Zk (of_decide_eq_true Zk) h0 hw (fun x hx=>hlt x Z9z)) (trodAll_cons_mk (Below.trod Tryz.laidOut Zk (of_decide_eq_true Zk) h1 hw (fun x hx=>hlt x Z9z)) (trodAll_cons_mk (Below.trod Tryz.laidOut Zk (of_decide_eq_true Zk) h2 hw (fun x hx=>hlt x Z9z)) (trodAll_cons_mk (Below.trod Tryz.laidOut Zk (of_decide_eq_true Zk) h3 hw (fun x hx=>hlt x Z9z)) trodAll_mk0)))),rfl,hw.frame _,fun h=>by cases h⟩⟩
set_option maxRecDepth 100000 in
set_option maxHeartbeats 8000000 in
theorem sherdChanges_closed:joinedFacts Tryz.prog 17 Tryz.f17 Rows.sherdChangesSpec Rows.sherdChangesRow=true:=by
 unfold joinedFacts
 repeat' (with_reducible refine (Bool.and_eq_true _ _).mpr ⟨?_,?_⟩)
 all_goals as_aux_lemma=>kernel_rfl
theorem sherdChanges_holds:Rows.SherdChangesSaid :=
 OpenClaim.holds_of_wide 17 Tryz.f17 rfl rfl rfl rfl rfl rfl rfl ⟨rfl,rfl,rfl,rfl,rfl⟩ rfl rfl rfl rfl rfl Zk Tryz.func17 sherdChanges_closed
  (of_decide_eq_true Zk) (by unfold Func.isWrapper;rw [if_neg (of_decide_eq_false Zk)];exact ⟨rfl,rfl⟩)
  (fun os started H enc _=>sherdChanges_lifted os started H enc)
#print axioms sherdChanges_holds
end Go.Proofs.YtelkcohhagblaaaGreat
