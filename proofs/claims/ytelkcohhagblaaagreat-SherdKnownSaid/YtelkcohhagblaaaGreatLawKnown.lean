/-
  The law Known, walked, and its statement.
-/
import Derived.Test.YtelkcohhagblaaaGreatSe02
import Derived.Test.YtelkcohhagblaaaGreatSe07
import Derived.Test.YtelkcohhagblaaaGreatSe08
import Derived.Test.YtelkcohhagblaaaGreatSe03
import Derived.Test.YtelkcohhagblaaaGreatSe27
import Derived.Test.YtelkcohhagblaaaGreatChecked
import Derived.ProofKit
import Derived.SizedLaws
import Derived.Lib.SmallJoins
import Derived.Deep.Slices
import Derived.Deep.Fields
import Derived.OpenShut
import Derived.Test.YtelkcohhagblaaaGreatSe44
import Derived.Test.YtelkcohhagblaaaGreatSe26
import Derived.Test.YtelkcohhagblaaaGreatSe38
import Derived.Test.YtelkcohhagblaaaGreatSe36
import Derived.Test.YtelkcohhagblaaaGreatSe43
import Derived.Shelf.SlGeneric
import Derived.Shelf.SlSortCmp.WholeK
import Derived.Shelf.SlSortCmp.NoneTotal
import Derived.Shelf.SlicesQ.Equal
import Derived.Ground.SlsfProg
import Derived.Ground.SlgqProg
import Derived.Test.YtelkcohhagblaaaGreatProg
import Derived.Test.YtelkcohhagblaaaGreatSe34
import Derived.Test.YtelkcohhagblaaaGreatSe24
import Derived.Test.YtelkcohhagblaaaGreatSe35
import Derived.Test.YtelkcohhagblaaaGreatSe10
import Derived.Test.YtelkcohhagblaaaGreatSe39
import Derived.Test.YtelkcohhagblaaaGreatSe28
import Derived.Test.YtelkcohhagblaaaGreatSe32
import Derived.Test.YtelkcohhagblaaaGreatSe42
import Derived.Test.YtelkcohhagblaaaGreatRows
set_option linter.unusedSimpArgs false
set_option linter.unusedVariables false
set_option linter.unnecessarySimpa false
namespace Go.Proofs.YtelkcohhagblaaaGreat
theorem Z8e {P:Prop}(h:P:=by
 have hrw:=hD4.row
 obtain ⟨ra,rc,rfl,_⟩:=owns_slice hrw
 obtain ⟨k0,k1,k2,k3,k4,k5,kf,kl⟩:=cell6 hX4
 have hal4:=one_alloc w4 (Obj.cells #[.int .i64 x.id] 3)
 have hsl:=World.alloc_heap_new w4 (Obj.cells #[.int .i64 x.id] 3)
 have hD5:=hD4.up hBI.size hal4
 have hr5:=hD5.row
 have hz5:=hD5.low.size
 have hzWI:=hBI.size
 have hln:(D0 ++difK t s j).length≤2000:=by have:=Ht.out.len;rw [List.length_append];omega
 exact Z83):P:=h
theorem Z8f {P:Prop}(h:P:=by
 have hrw:=hD4.row
 obtain ⟨ra,rc,rfl,_⟩:=owns_slice hrw
 obtain ⟨k0,k1,k2,k3,k4,k5,kf,kl⟩:=cell6 hX4
 have hal4:=one_alloc w4 (Obj.cells #[.int .i64 x.id] 3)
 have hsl:=World.alloc_heap_new w4 (Obj.cells #[.int .i64 x.id] 3)
 have hD5:=hD4.up hBI.size hal4
 have hr5:=hD5.row
 have hz5:=hD5.low.size
 have hzWI:=hBI.size
 have hln:(D0 ++difK s t j).length≤2000:=by have:=Hs.out.len;rw [List.length_append];omega
 exact Z83):P:=h
theorem Z8g {P:Prop}(h:P:=by
 clear hc5 hf5
 go_step
 refine hc.mono ?_
 rintro e w6 ⟨v1,v2,rfl,hb6,h1,h2⟩
 exact hK _ _ w6 _ Zh (.of_below hb6) (SL.aw_in ⟨v1,v2,[],_,⟨rfl,rfl⟩,⟨_,_,⟨SL.row_base h1 hs5,rfl⟩,⟨SL.row_base h2 hs5,rfl⟩,rfl⟩,rfl⟩) (fun k hk=>by
  right
  simp only [List.nil_append,List.mem_append] at hk
  rcases hk with hk | hk
  ·exact SL.row_bounds h1 k hk
  ·exact SL.row_bounds h2 k hk)):P:=h
theorem Z8h {P:Prop}(h:P:=by
 obtain ⟨xa,xc,rfl,_⟩:=owns_slice r1
 obtain ⟨ya,yc,rfl,_⟩:=owns_slice r2
 obtain ⟨y0,y1,y2,yf,yl⟩:=cell3s hMh
 have R1:=Lib.hid r1
 have R2:=Lib.hid r2
 have HDD:=Lib.hid hd1
 have HF:=Lib.hid hF5
 have HE:=Lib.hid eF6
 clear hc5 hf5 h5 r1 r2 hd1 hF5 eF6
 go_step
 exact sto3_g e6 hMb hMh R1.out R2.out (by simpa using HF.out) HE.out HDD.out (fun w1 F h1 h2 h3=>hK w1 F h1 (SL.aw_in h2) h3)):P:=h
theorem Z8i {P:Prop}(h:P:=by
 refine SLG.ob_sp rfl rfl rfl fun us w' Fe hG hu hd Kx hK=>?_
 try dsimp only
 simp [SL.O] at hu
 have hB5:Below w7.heap.size w7 w':=hG.below'
 exact Z7m):P:=h
theorem Z81 {P:Prop}(h:P:=by
 refine ⟨?_,?_,?_,?_,?_,?_,?_,?_,?_,?_,?_,?_,trivial⟩
 all_goals first
  | (intro us w' Fe hG hu hd hv Kx hK
     try dsimp only
     simp [SL.O] at hu hK
     have hB5:Below w7.heap.size w7 w':=hG.below'
     exact Z7r)
  | skip
 ·refine SLG.ob_sp rfl rfl rfl fun us w' Fe hG hu hd Kx hK=>?_
  try dsimp only
  simp [SL.O] at hu
  have hB5:Below w7.heap.size w7 w':=hG.below'
  obtain ⟨hc5,hf5⟩:=bcell hB5
  have hs5:=hB5.size
  refine SLF.wpo_do (SLF.wanted_free rfl) ?hd ?_
  case hd=>intro c h;cases h
  have hc:=hO1 w' (hB7.ch2 hB5)
  exact Z8g
 ·refine SLG.ob_sp rfl rfl rfl fun us w' Fe hG hu hd Kx hK=>?_
  try dsimp only
  simp [SL.O] at hu
  have hB5:Below w7.heap.size w7 w':=hG.below'
  obtain ⟨hc5,hf5⟩:=bcell hB5
  have hs5:=hB5.size
  refine SLF.wpo_do (SLF.wanted_free rfl) ?hd ?_
  case hd=>intro c h;cases h
  have hc:=hO2 w' (hB7.ch2 hB5)
  exact Z8g
 ·exact Z8i
 ·exact Z8i
 ·refine SLG.ob_no rfl rfl rfl fun us w' Fe hG hu hd Kx hK=>?_
  try dsimp only
  simp [SL.O] at hu
  have hB5:Below w7.heap.size w7 w':=hG.below'
  obtain ⟨hc5,hf5⟩:=bcell hB5
  have hs5:=hB5.size
  refine SLF.wpo_do (SLF.wanted_free rfl) ?hd ?_
  case hd=>intro c h;cases h
  obtain ⟨h5,M,e6,hMb,hMh,eF6⟩:=hu
  obtain ⟨v1,v2,F1,F2,⟨e5,rfl⟩,⟨F3,F4,⟨r1,rfl⟩,⟨r2,rfl⟩,rfl⟩,hF5⟩:=SL.aw_out h5
  have hd1:=hd 3 8 Z3m Z3m (by simp)
  exact Z8h
 ·refine SLG.ob_no rfl rfl rfl fun us w' Fe hG hu hd Kx hK=>?_
  try dsimp only
  simp [SL.O] at hu
  have hB5:Below w7.heap.size w7 w':=hG.below'
  obtain ⟨hc5,hf5⟩:=bcell hB5
  have hs5:=hB5.size
  refine SLF.wpo_do (SLF.wanted_free rfl) ?hd ?_
  case hd=>intro c h;cases h
  obtain ⟨h5,M,e6,hMb,hMh,eF6⟩:=hu
  obtain ⟨v1,v2,F1,F2,⟨e5,rfl⟩,⟨F3,F4,⟨r1,rfl⟩,⟨r2,rfl⟩,rfl⟩,hF5⟩:=SL.aw_out h5
  have hd1:=hd 7 9 Z3m Z3m (by simp)
  exact Z8h):P:=h
theorem Z82 {P:Prop}(h:P:=by
 by_cases hud:x.kn≤day
 ·have d1':decide (x.kn≤day)=true:=decide_eq_true hud
  have Hes:=Lib.hid (Hes.out.trans (by rw [if_pos hud]))
  have hal:=one_alloc wr (Obj.cells #[.int .i64 x.id,.int .i64 x.kn,.int .u8 x.kd,.string x.wa,.int .i64 x.pit,.int .i64 x.ly,.int .i64 x.co,.bool x.ft,.int .i64 x.sh,.int .i64 x.fr,.int .i64 x.tw,.int .i64 x.lo,.int .i64 x.hi,.string x.st,.int .i64 x.li,.int .i64 x.vo] 24)
  have hsl:=World.alloc_heap_new wr (Obj.cells #[.int .i64 x.id,.int .i64 x.kn,.int .u8 x.kd,.string x.wa,.int .i64 x.pit,.int .i64 x.ly,.int .i64 x.co,.bool x.ft,.int .i64 x.sh,.int .i64 x.fr,.int .i64 x.tw,.int .i64 x.lo,.int .i64 x.hi,.string x.st,.int .i64 x.li,.int .i64 x.vo] 24)
  have hr2:=HR.out.up hal (Nat.le_refl _)
  have hB2:=HB.out.ch2 hal
  have hzB:=HB.out.size
  clear hud hal
  go_wp2_with (at_builtin;refine wpList_app elemT rfl _ _ rfl hr2 rfl rfl (RowAt.of_heap hsl) (by rfl) (fun u hu=>ics_one [x] u Z3w) Z1s (by omega) Zj ?_;intro v' w3 hr3 hg3 hb3 _ _;obtain ⟨wa,wc,rfl,_⟩:=owns_slice hr3;have hb9:=(hB2.trans hb3);have hx3:=(h.below (hBA.ch2 hb9)).get (i:=k) (by omega);obtain ⟨_,_,he3,_,h3c⟩:=hx3;injection he3 with he3;injection he3 with he4 he5;subst he4 he5;have g1:=h3c.c1;rw [Hx.out] at g1;clear h3c;have HQ:=Lib.hid (And.intro hr3 hb9);clear hr3 hg3 hb3 hb9)
  go_roundw
  case rel=>exact ⟨k +1,by omega,by go_num,by rw [Hes.out,List.length_append,ics_append,ics_one1];exact HQ.out.1,by rw [Hb.out],HQ.out.2⟩
  case measure=>simp [RowKit.intOf];omega
 ·have d1':decide (x.kn≤day)=false:=decide_eq_false hud
  have Hes:=Lib.hid (Hes.out.trans (by rw [if_neg hud]))
  clear hud
  go_wp2_with fail
  go_roundw
  case rel=>exact ⟨k +1,by omega,by go_num,by rw [Hes.out,List.append_nil];exact HR.out,by rw [Hb.out],HB.out⟩
  case measure=>simp [RowKit.intOf];omega):P:=h
theorem Z83 {P:Prop}(h:P:=by
 have HD5:=Lib.hid hD5
 clear hD4 hrw hX4 hD5
 go_wp2_with (at_builtin;refine wpList_app elemI rfl _ _ rfl hr5 rfl rfl (RowAt.of_heap hsl) (by simp) (fun u hu=>by simp at hu;subst hu;rfl) Z1s (by omega) (by omega) ?_;intro v' w6 hr6 hg6 hb6 _ hat6)
 have HD6:=Lib.hid (HD5.out.app hBI.size (x:=x.id) hr6 hg6 hat6)
 obtain ⟨wa,wc,rfl,_⟩:=owns_slice hr6
 clear hr6 hg6 hb6 hat6 hr5 hsl hal4
 go_wp2_with fail
 go_roundw
 case rel=>exact ⟨j +1,by omega,by go_num,by rw [Hsu.out,HO.out];simpa using HD6.out⟩
 case measure=>simp [RowKit.intOf];omega):P:=h
theorem Z84 {P:Prop}(h:P:=by
 go_wp2_with (first
  | (go_at_call 36;clear tokA;(with_reducible refine (hO1 _ hix).mono ?_);rintro e w2 ⟨v1,v2,rfl,hb2,p1,p2⟩;obtain ⟨o1,c1,rfl,_⟩:=owns_slice p1;obtain ⟨o2,c2,rfl,_⟩:=owns_slice p2;have al2:=one_alloc w2 (Obj.cells #[.int .i64 co,.slice o1 WB.length c1,.slice o2 TB.length c2] 52);have hA2:=World.alloc_heap_new w2 (Obj.cells #[.int .i64 co,.slice o1 WB.length c1,.slice o2 TB.length c2] 52);have hi2:=(hix.below hb2).below al2;have he2:=(hie.below hb2).below al2;have q1:=(BdsAt.of_owns p1 (by omega)).below al2;have q2:=(BdsAt.of_owns p2 (by omega)).below al2;have hB2:=(hBx.ch2 hb2).ch2 al2)
  | (go_at_call 36;(with_reducible refine (hO2 _ he2).mono ?_);rintro e w3 ⟨v3,v4,rfl,hb3,p3,p4⟩;obtain ⟨o3,c3,rfl,_⟩:=owns_slice p3;obtain ⟨o4,c4,rfl,_⟩:=owns_slice p4;have al3:=one_alloc w3 (Obj.cells #[.int .i64 co,.slice o3 WB.length c3,.slice o4 TB.length c4] 52);have hA3:=alKeep (o':=(Obj.cells #[.int .i64 co,.slice o3 WB.length c3,.slice o4 TB.length c4] 52)) ((hb3.block w2.heap.size (by simp)).trans hA2);have hP3:=World.alloc_heap_new w3 (Obj.cells #[.int .i64 co,.slice o3 WB.length c3,.slice o4 TB.length c4] 52);have hi3:=(hi2.below hb3).below al3;have he3:=(he2.below hb3).below al3;have q5:=(q1.below hb3).below al3;have q6:=(q2.below hb3).below al3;have q3:=(BdsAt.of_owns p3 (by omega)).below al3;have q4:=(BdsAt.of_owns p4 (by omega)).below al3;have hB3:=(hB2.ch2 hb3).ch2 al3;have hSO:=fun W (hb:Below (w3.alloc (Obj.cells #[.int .i64 co,.slice o3 WB.length c3,.slice o4 TB.length c4] 52)).heap.size (w3.alloc (Obj.cells #[.int .i64 co,.slice o3 WB.length c3,.slice o4 TB.length c4] 52)) W)=>r2sameO co o1 o2 o3 o4 _ _ _ _ c1 c2 c3 c4 WB TB W (q5.below hb) (q6.below hb) (q3.below hb) (q4.below hb))
  | (go_at_call 28;clear tokB;(with_reducible refine (hW1 _ hi3).mono ?_);rintro e w4 ⟨rfl,hZ4⟩)
  | (go_at_call 28;(with_reducible refine (hW2 _ (he3.below hZ4)).mono ?_);rintro e w5 ⟨rfl,hb5⟩;have hZ5:=hZ4.ch2 hb5)
  | (go_at_call 32;clear tokC;(with_reducible refine (hC1 _ (hi3.below hZ5)).mono ?_);rintro e w6 ⟨rfl,hb6⟩;have al6:=one_alloc w6 (Obj.cells #[.int .i64 s0,.int .i64 s1,.int .i64 s2,.int .i64 s3] 43);have hc6:=World.alloc_heap_new w6 (Obj.cells #[.int .i64 s0,.int .i64 s1,.int .i64 s2,.int .i64 s3] 43);have hZ6:=(hZ5.ch2 hb6).ch2 al6)
  | (go_at_call 32;(with_reducible refine (hC2 _ (he3.below hZ6)).mono ?_);rintro e w7 ⟨rfl,hb7⟩;have al7:=one_alloc w7 (Obj.cells #[.int .i64 s0,.int .i64 s1,.int .i64 s2,.int .i64 s3] 43);have hc7:=alKeep (o':=(Obj.cells #[.int .i64 s0,.int .i64 s1,.int .i64 s2,.int .i64 s3] 43)) ((hb7.block w6.heap.size (by simp)).trans hc6);have hd7:=World.alloc_heap_new w7 (Obj.cells #[.int .i64 s0,.int .i64 s1,.int .i64 s2,.int .i64 s3] 43);have hZ7:=(hZ6.ch2 hb7).ch2 al7;obtain ⟨x0,x1,x2,xf,xl⟩:=cell3s ((hZ7.block w2.heap.size (Array.getElem?_eq_some_iff.1 hA3).1).trans hA3);obtain ⟨y0,y1,y2,yf,yl⟩:=cell3s ((hZ7.block w3.heap.size (Array.getElem?_eq_some_iff.1 hP3).1).trans hP3))
  | (go_at_call 38;(with_reducible refine (hSO _ hZ7).mono ?_);rintro e w8 ⟨rfl,hb8⟩;have hZ8:=hZ7.ch2 hb8;have r1:=(hb8.block w6.heap.size (Array.getElem?_eq_some_iff.1 hc7).1).trans hc7;have r2:=(hb8.block w7.heap.size (Array.getElem?_eq_some_iff.1 hd7).1).trans hd7;have t0:=(SL.cells_of r1).1 0;have t1:=(SL.cells_of r1).1 1;have t2:=(SL.cells_of r1).1 2;have t3:=(SL.cells_of r1).1 3;have u0:=(SL.cells_of r2).1 0;have u1:=(SL.cells_of r2).1 1;have u2:=(SL.cells_of r2).1 2;have u3:=(SL.cells_of r2).1 3;simp at t0 t1 t2 t3 u0 u1 u2 u3;have zt:=(Array.getElem?_eq_some_iff.1 r1).1;have zu:=(Array.getElem?_eq_some_iff.1 r2).1)
  | (go_at_call 67;(with_reducible refine (hCg _ (hi3.below hZ8)).mono ?_);rintro e w9 ⟨v9,rfl,hb9,p9⟩;obtain ⟨o9,c9,rfl,_⟩:=owns_slice p9;have hZ9:=hZ8.ch2 hb9)
  | (go_at_call 20;(with_reducible refine (hSh _).mono ?_);rintro e w10 ⟨rfl,hb10⟩))
 go_ret
 exact ⟨rfl,hB3.ch2 (hZ9.ch2 hb10)⟩):P:=h
theorem Z85 {P:Prop}(h:P:=by
 refine ⟨?_,?_,?_,?_,?_,?_,?_,?_,?_,?_,?_,?_,?_,trivial⟩
 all_goals first
  | (intro us w' Fe hG hu hd hv Kx hK
     try dsimp only
     simp [SL.O] at hu hK
     have hB5:Below w3.heap.size w3 w':=hG.below'
     exact Z7v)
  | skip
 ·refine SLG.ob_sp rfl rfl rfl fun us w' Fe hG hu hd Kx hK=>?_
  try dsimp only
  simp [SL.O] at hu
  have hB5:Below w3.heap.size w3 w':=hG.below'
  obtain ⟨hc5,hf5⟩:=bcell hB5
  have hs5:=hB5.size
  first
   | (refine SLF.wpo_do (SLF.wanted_free rfl) ?hd ?_;(case hd=>intro c h;cases h))
   | (refine SLF.wpo_do (SLF.wanted_by rfl rfl ?hv) ?hd ?_;(case hv=>simp [hu];done);(case hd=>intro c h;cases h))
   | (refine' SLF.wpo_not (SLG.wanted_not rfl rfl ?hv ?hn) ?_;(case hv=>simp [hu];exact rfl);(case hn=>first | (simp;done) | (simp [undef];done)))
  have hc:=hV1 w' (hB3.ch2 hB5)
  clear hc5 hf5
  exact Z86
 ·refine SLG.ob_sp rfl rfl rfl fun us w' Fe hG hu hd Kx hK=>?_
  try dsimp only
  simp [SL.O] at hu
  have hB5:Below w3.heap.size w3 w':=hG.below'
  obtain ⟨hc5,hf5⟩:=bcell hB5
  have hs5:=hB5.size
  first
   | (refine SLF.wpo_do (SLF.wanted_free rfl) ?hd ?_;(case hd=>intro c h;cases h))
   | (refine SLF.wpo_do (SLF.wanted_by rfl rfl ?hv) ?hd ?_;(case hv=>simp [hu];done);(case hd=>intro c h;cases h))
   | (refine' SLF.wpo_not (SLG.wanted_not rfl rfl ?hv ?hn) ?_;(case hv=>simp [hu];exact rfl);(case hn=>first | (simp;done) | (simp [undef];done)))
  have hc:=hV2 w' (hB3.ch2 hB5)
  clear hc5 hf5
  exact Z86):P:=h
theorem Z86 {P:Prop}(h:P:=by
 go_step
 refine hc.mono ?_
 exact Zg):P:=h
theorem Z87 {P:Prop}(h:P:=by
 go_upto_region 13 with (first
  | (go_at_call 192;(with_reducible refine (hE1 _ hE0).mono ?_);rintro e w9 ⟨rfl,hb9⟩;obtain ⟨g0,g1,g2,gf,gl⟩:=cell3s ((hb9.block _ ml).trans HM1.out);obtain ⟨k0,k1,k2,kf,kl⟩:=cell3s ((hb9.block _ nl).trans HM2.out))
  | (go_at_call 192;(with_reducible refine (hE2 _ hb9).mono ?_);rintro e w4 ⟨rfl,hb10⟩;have hc9:=hb9.ch2 hb10))
 have HD9:=Lib.hid (HD8.out.up hBI.size hc9)
 go_wp2_with fail
 go_roundw
 case rel=>exact ⟨j +1,by omega,by go_num,by rw [Hsu.out,HO.out];simpa using HD9.out⟩
 case measure=>simp [RowKit.intOf];omega):P:=h
theorem Z88 {P:Prop}(h:P:=by
 go_enter Tryz.func19,Tryz.ntmps19
 go_wp2_with fail
 go_ret
 exact ⟨rfl,hal⟩):P:=h
theorem Z89 {P:Prop}(h:P:=by
 rw [List.getD_eq_getElem?_getD,List.getElem?_eq_getElem hlt];exact List.getElem_mem hlt):P:=h
theorem Z8a {P:Prop}(h:P:=by
 simp [results,Tryz.results191,go_sem,q0,q1,q2,q3,q4,q5,q6,q7,q8,q9,q10]):P:=h
theorem Z8b {P:Prop}(h:P:=by
 rw [List.length_take];omega):P:=h
theorem Z8c {P:Prop}(h:P:=by
 simp [hx]):P:=h
theorem Z8d {P:Prop}(h:P:=by
 simp [results,Tryz.results36,go_sem,g0,g1,g2]):P:=h
open Go.RowKit
theorem BdsAt.nilAt (w:World):BdsAt w none 0 0 []:=⟨rfl,by simp,fun _=>⟨rfl,rfl⟩,fun x h=>by cases h⟩

theorem RowAt.nilAt (w:World):RowAt w none 0 []:=⟨fun _=>⟨rfl,rfl⟩,fun x h=>by cases h⟩

theorem IntsAt.nilAt (w:World):IntsAt w none 0 0 []:=⟨rfl,by simp,RowAt.nilAt w⟩

open Go
def eqS (x y:Shd):Bool:=x.id == y.id && (x.wa.data.toList == y.wa.data.toList && (x.pit == y.pit && (x.ly == y.ly && (x.co == y.co && x.ft == y.ft))))
theorem eqS_iff {x y:Shd}:eqS x y=true ↔ x=y:=by
 constructor
 ·intro h
  unfold eqS at h
  simp only [Bool.and_eq_true,beq_iff_eq] at h
  obtain ⟨h1,h2,h3,h4,h5,h6⟩:=h
  have k2:=ba_toList h2
  clear h2
  obtain ⟨x1,x2,x3,x4,x5,x6⟩:=x
  obtain ⟨y1,y2,y3,y4,y5,y6⟩:=y
  simp only at h1 k2 h3 h4 h5 h6
  subst h1 k2 h3 h4 h5 h6
  rfl
 ·rintro rfl
  unfold eqS
  simp
/-- The sherds in the order of the list. -/
def shdsL (s:List Itm):List Shd:=(s.filter fun x=>x.kd == 1).map Itm.shd
/-- A sherd put into a list by its Id. -/
def putS (l:List Shd) (x:Shd):List Shd:=l.takeWhile (fun y=>decide (y.id≤x.id)) ++x::l.dropWhile fun y=>decide (y.id≤x.id)
def sortS (l:List Shd):List Shd:=l.foldl putS []
def sherdsL (s:List Itm):List Shd:=sortS (shdsL s)
/-- Each item's own sherd, if it is one. -/
theorem sherdO_own {s:List Itm} (h:s.Pairwise fun x y=>x.id≠y.id) {x:Itm} (hx:x ∈ s):sherdO s x.id=if x.kd=1 then some x.shd else none:=by
 unfold sherdO
 split
 ·rename_i h1
  cases hf:s.find? (fun y=>y.id == x.id && y.kd == 1) with
  | none =>
    have:=List.find?_eq_none.1 hf x hx
    simp [h1] at this
  | some y =>
    have hm:=List.mem_of_find?_eq_some hf
    have hp:=List.find?_some hf
    simp at hp
    rw [ids_inj h hm hx hp.1]
    rfl
 ·rename_i h1
  cases hf:s.find? (fun y=>y.id == x.id && y.kd == 1) with
  | none=>rfl
  | some y =>
    have hm:=List.mem_of_find?_eq_some hf
    have hp:=List.find?_some hf
    simp at hp
    have:=ids_inj h hm hx hp.1
    rw [this] at hp
    exact absurd hp.2 h1
theorem putS_perm (l:List Shd) (x:Shd):(putS l x).Perm (x::l):=by
 unfold putS
 have:=List.takeWhile_append_dropWhile (p:=fun y:Shd=>decide (y.id≤x.id)) (l:=l)
 conv=>rhs;rw [← this]
 exact List.perm_middle
theorem putS_sorted {l:List Shd} (h:l.Pairwise fun a b=>a.id≤b.id) (x:Shd):(putS l x).Pairwise fun a b=>a.id≤b.id:=by
 induction l with
 | nil=>simp [putS]
 | cons y l ih =>
   rw [List.pairwise_cons] at h
   have ih:=ih h.2
   by_cases hy:y.id≤x.id
   ·have e:putS (y::l) x=y::putS l x:=by simp [putS,hy]
    rw [e,List.pairwise_cons]
    refine ⟨fun z hz=>?_,ih⟩
    rcases List.mem_cons.1 ((putS_perm l x).mem_iff.1 hz) with rfl | hz
    ·exact hy
    ·exact h.1 z hz
   ·have e:putS (y::l) x=x::y::l:=by simp [putS,hy]
    rw [e,List.pairwise_cons]
    refine ⟨fun z hz=>?_,List.pairwise_cons.2 h⟩
    rcases List.mem_cons.1 hz with rfl | hz
    ·omega
    ·have:=h.1 z hz;omega
theorem sortS_go (l:List Shd):∀ (acc:List Shd),acc.Pairwise (fun a b=>a.id≤b.id)→(l.foldl putS acc).Perm (acc ++l)∧(l.foldl putS acc).Pairwise fun a b=>a.id≤b.id:=by
 induction l with
 | nil=>intro acc h;exact ⟨by simp,h⟩
 | cons x l ih =>
   intro acc h
   obtain ⟨h1,h2⟩:=ih (putS acc x) (putS_sorted h x)
   refine ⟨h1.trans ?_,h2⟩
   refine ((putS_perm acc x).append_right l).trans ?_
   simp only [List.cons_append]
   exact List.perm_middle.symm
theorem sortS_perm (l:List Shd):(sortS l).Perm l:=(sortS_go l [] (by simp)).1
theorem sortS_sorted (l:List Shd):(sortS l).Pairwise fun a b=>a.id≤b.id:=(sortS_go l [] (by simp)).2
theorem sortS_len (l:List Shd):(sortS l).length=l.length:=(sortS_perm l).length_eq
/-- With different Ids there is one order alone. -/
theorem sorted_one:∀ {l m:List Shd},l.Perm m→l.Pairwise (fun a b=>a.id≤b.id)→m.Pairwise (fun a b=>a.id≤b.id)→l.Pairwise (fun a b=>a.id≠b.id)→l=m
 | [],m,h,_,_,_=>(List.nil_perm.1 h).symm
 | x::l,[],h,_,_,_=>by have:=h.length_eq;simp at this
 | x::l,y::m,h,h1,h2,h3=>by
   have hxy:x=y:=by
    rw [List.pairwise_cons] at h1 h2 h3
    have hx:=h.mem_iff.1 (List.mem_cons_self (a:=x) (l:=l))
    have hy:=h.mem_iff.2 (List.mem_cons_self (a:=y) (l:=m))
    rcases List.mem_cons.1 hx with e | hx
    ·exact e
    rcases List.mem_cons.1 hy with e | hy
    ·exact e.symm
    have a1:=h2.1 x hx
    have a2:=h1.1 y hy
    have a3:=h3.1 y hy
    omega
   subst hxy
   rw [sorted_one (h.cons_inv) (List.pairwise_cons.1 h1).2 (List.pairwise_cons.1 h2).2 (List.pairwise_cons.1 h3).2]
theorem shdsL_ids {s:List Itm} (h:s.Pairwise fun x y=>x.id≠y.id):(shdsL s).Pairwise fun a b=>a.id≠b.id:=by
 unfold shdsL
 rw [List.pairwise_map]
 exact (h.filter _).imp fun h=>h
open Go Go.RowKit
theorem ItmsAt.nilAt (w:World):ItmsAt w none 0 0 []:=⟨rfl,by simp,RowAt.nilAt w,fun x hx=>by cases hx⟩
open Go.RowKit Go.Shelf
set_option maxHeartbeats 4000000
set_option maxRecDepth 100000
theorem take_get {α:Type} [Inhabited α] {l:List α} {k:Nat} (hk:k<l.length):l.take (k +1)=l.take k ++[l.getD k default]:=by
 rw [List.take_succ_eq_append_getElem hk]
 simp [List.getD_eq_getElem?_getD,List.getElem?_eq_getElem hk]
open Go.RowKit Go.Shelf
theorem insI_len (x:Int) (l:List Int):(insI x l).length≤l.length +1:=by
 induction l with
 | nil=>simp [insI]
 | cons y l ih =>
   unfold insI
   split
   ·simp;omega
   ·split <;> simp
def uniN (l:List Int) (k:Nat):List Int:=ascOf (l.take k)
theorem uniN_succ {l:List Int} {k:Nat} (hk:k<l.length):uniN l (k +1)=insI (l.getD k 0) (uniN l k):=by
 unfold uniN ascOf
 rw [take_get hk,List.foldl_append]
 rfl
theorem uniN_len (l:List Int) (k:Nat):(uniN l k).length≤k:=by
 induction k with
 | zero=>simp [uniN,ascOf]
 | succ k ih =>
   rcases Nat.lt_or_ge k l.length with h | h
   ·rw [uniN_succ h]
    have:=insI_len (l.getD k 0) (uniN l k)
    omega
   ·have:uniN l (k +1)=uniN l k:=by
     unfold uniN
     rw [List.take_of_length_le (by omega),List.take_of_length_le (by omega)]
    rw [this];omega
theorem uniN_all (l:List Int):uniN l l.length=ascOf l:=by unfold uniN;rw [List.take_length]
open Go.RowKit Go.Shelf
set_option maxHeartbeats 40000000
set_option maxRecDepth 100000
theorem ascOf_len (l:List Int):(ascOf l).length≤l.length:=by rw [← uniN_all];exact uniN_len l l.length

open Go.RowKit Go.Shelf
set_option maxHeartbeats 1000000
theorem Tells.later {w0 w1:World} {k:Nat} {caps:Array Value} {p:Bd→Bool} (h:Tells w0 k caps p) (hb:Below w0.heap.size w0 w1):Tells w1 k caps p :=
 ⟨h.ent,fun w b hw=>h.tell w b (hb.trans (hw.mono hb.size))⟩

open Go
/-- What is known of a sherd, but its outline. -/
def valC (s:List Itm) (id:Int):Spn:=if (colL (keptL s 4 id)).hi<(colL (keptL s 4 id)).lo then ⟨-1,0,0,0⟩ else colL (keptL s 4 id)
def valU (s:List Itm) (id:Int):List UInt8:=comC (setsL (keptL s 5 id))
def eqP (x y:Spn):Bool:=x.lo == y.lo && (x.hi == y.hi && (x.lob == y.lob && x.hib == y.hib))
theorem eqP_iff {x y:Spn}:eqP x y=true ↔ x=y:=by
 obtain ⟨a,b,c,d⟩:=x
 obtain ⟨a',b',c',d'⟩:=y
 simp [eqP]
def eqB (x y:Bd):Bool:=x.frm == y.frm && (x.tow == y.tow && (x.most == y.most && x.bid == y.bid))
theorem eqB_iff {x y:Bd}:eqB x y=true ↔ x=y:=by
 obtain ⟨a,b,c,d⟩:=x
 obtain ⟨a',b',c',d'⟩:=y
 simp [eqB]
def eqBs:List Bd→List Bd→Bool
 | [],[]=>true
 | x::l,y::m=>eqB x y && eqBs l m
 | _,_=>false
theorem eqBs_iff:∀ {l m:List Bd},eqBs l m=true ↔ l=m
 | [],[]=>by simp [eqBs]
 | [],_::_=>by simp [eqBs]
 | _::_,[]=>by simp [eqBs]
 | x::l,y::m=>by simp [eqBs,eqB_iff,eqBs_iff (l:=l) (m:=m)]
/-- A sherd of one shelf is another in the other one. -/
def otherB (s t:List Itm) (x:Shd):Bool :=
 match sherdO t x.id with
 | none=>true
 | some y=>!(eqS x y && (eqP (valC s x.id) (valC t y.id) && (valU s x.id == valU t y.id))) || !(eqBs (waysB x.co (keptL s 2 x.id)) (waysB y.co (keptL t 2 y.id)) && eqBs (turnsB x.co (keptL s 3 x.id)) (turnsB y.co (keptL t 3 y.id)))
def differL (s t:List Itm):List Int:=ascOf (((sherdsL s).filter (otherB s t)).map (·.id) ++((sherdsL t).filter (otherB t s)).map (·.id))
def changedL (l:List Itm) (a b:Int):List Int:=if (chkI l).2=0 then differL (countL l a) (countL l b) else []
open Go.ChangeShapes Go.WideShapes Go.ChangeAt Go.RowKit Go.Joins Go.Deep
set_option maxRecDepth 100000
set_option maxHeartbeats 2000000
theorem Tryz.own:ownKnob Tryz.prog.godebug=none:=by kernel_rfl
theorem Tryz.laidOut:laidOutB Tryz.prog=true:=by kernel_rfl
theorem Tryz.cI:Tryz.prog.cellsOf 3=1:=by kernel_rfl
theorem Tryz.cU:Tryz.prog.cellsOf 5=1:=by kernel_rfl
theorem Tryz.cS:Tryz.prog.cellsOf 9=1:=by kernel_rfl
theorem Tryz.cB:Tryz.prog.cellsOf 4=1:=by kernel_rfl
theorem Tryz.cItem:Tryz.prog.cellsOf 24=16:=by kernel_rfl
theorem Tryz.bItem:Tryz.prog.bytesOf 24=144:=by kernel_rfl
theorem itm_add {b o:Nat} (k:Nat):(⟨b,o,none⟩:Addr).add k=⟨b,o +k,none⟩:=by
 unfold Addr.add
 split
 ·rename_i h;subst h;simp
 ·rfl
theorem itm_where {W:World} {base:Nat} {t e:TypeId} {a:Addr} {n cap:Nat} (ht:Tryz.prog.underlying t=some (.slice e)) (hv:Value.okWide Tryz.prog W .any base t (.slice (some a) n cap)):a.spot=none∧a.block<W.heap.size:=by
 simp only [Value.okWide,ht,Cell.okWide,Cell.ok] at hv
 obtain ⟨_,_,_,hsp,row,cells,hsh,_⟩:=hv
 refine ⟨hsp,?_⟩
 simp only [World.shape?] at hsh
 by_cases hlt:a.block<W.heap.size
 ·exact hlt
 ·rw [Array.getElem?_eq_none (by omega)] at hsh
  simp at hsh
theorem itm_slice {W:World} {base:Nat} {t e:TypeId} {v:Value} (ht:Tryz.prog.underlying t=some (.slice e)) (hv:Value.okWide Tryz.prog W .any base t v):∃ a n cap,v=.slice a n cap:=by
 simp only [Value.okWide,ht,Cell.okWide,Cell.ok] at hv
 cases v <;> simp at hv
 exact ⟨_,_,_,rfl⟩
theorem u8_in {x:Int} (h:(Lit.int .u8 x).wf=true):0≤x∧x≤255:=by
 have h1:IntKind.u8.min=0:=by decide
 have h2:IntKind.u8.max=255:=by decide
 have h3:(decide (IntKind.u8.min≤x) && decide (x≤IntKind.u8.max))=true:=h
 rw [h1,h2] at h3
 simpa using h3
section
variable {H:Type} {enc:TypeId × Value→H} {w:World} {base:Nat}
theorem int_cw {t:TypeId} {k:IntKind} {n i:Nat} {v:Value} {xs:List (DataW H × List MemPlace)} (ht:Tryz.prog.underlying t=some (.int k)) (h:DataW.trod enc Tryz.prog w base (fun _=>true) true n t [v]=xs[i]?) (hi:i<xs.length):∃ x,v=.int k x∧(Lit.int k x).wf=true:=by
 rw [List.getElem?_eq_getElem hi] at h
 obtain ⟨x,e0,_,e2⟩:=DataW.trod_int ht h
 simp at e0
 exact ⟨x,e0,e2⟩
theorem str_cw {t:TypeId} {n i:Nat} {v:Value} {xs:List (DataW H × List MemPlace)} (ht:Tryz.prog.underlying t=some .string) (h:DataW.trod enc Tryz.prog w base (fun _=>true) true n t [v]=xs[i]?) (hi:i<xs.length):∃ x:ByteArray,v=.string x∧x.size≤maxLen:=by
 rw [List.getElem?_eq_getElem hi] at h
 obtain ⟨x,e0,_,e2⟩:=DataW.trod_string ht h
 simp at e0
 exact ⟨x,e0,e2⟩
theorem bool_cw {t:TypeId} {n i:Nat} {v:Value} {xs:List (DataW H × List MemPlace)} (ht:Tryz.prog.underlying t=some .bool) (h:DataW.trod enc Tryz.prog w base (fun _=>true) true n t [v]=xs[i]?) (hi:i<xs.length):∃ x,v=.bool x:=by
 rw [List.getElem?_eq_getElem hi] at h
 obtain ⟨x,e0,_⟩:=DataW.trod_bool ht h
 simp at e0
 exact ⟨x,e0⟩
theorem list16 {l:List Value} (h:l.length=16):∃ c0 c1 c2 c3 c4 c5 c6 c7 c8 c9 c10 c11 c12 c13 c14 c15,l=[c0,c1,c2,c3,c4,c5,c6,c7,c8,c9,c10,c11,c12,c13,c14,c15]:=by
 match l,h with
 | [c0,c1,c2,c3,c4,c5,c6,c7,c8,c9,c10,c11,c12,c13,c14,c15],_=>exact ⟨c0,c1,c2,c3,c4,c5,c6,c7,c8,c9,c10,c11,c12,c13,c14,c15,rfl⟩
/-- An item in its cells. -/
theorem item_cells {n:Nat} {cs:List Value} {y:DataW H × List MemPlace} (h:DataW.trod enc Tryz.prog w base (fun _=>true) true n 24 cs=some y):∃ x:Itm,cs=x.cs∧x.Wide:=by
 obtain ⟨xs,m,rfl,rfl,hl,hxl,hf⟩:=DataW.trod_struct Tryz.underlying24 h
 rw [Tryz.cItem] at hl
 obtain ⟨c0,c1,c2,c3,c4,c5,c6,c7,c8,c9,c10,c11,c12,c13,c14,c15,rfl⟩:=list16 hl
 have hx:xs.length=16:=hxl
 have f0:DataW.trod enc Tryz.prog w base (fun _=>true) true m 3 [c0]=xs[0]?:=by have:=hf 0 _ rfl;simpa [Tryz.cI] using this
 have f1:DataW.trod enc Tryz.prog w base (fun _=>true) true m 3 [c1]=xs[1]?:=by have:=hf 1 _ rfl;simpa [Tryz.cI] using this
 have f2:DataW.trod enc Tryz.prog w base (fun _=>true) true m 5 [c2]=xs[2]?:=by have:=hf 2 _ rfl;simpa [Tryz.cU] using this
 have f3:DataW.trod enc Tryz.prog w base (fun _=>true) true m 9 [c3]=xs[3]?:=by have:=hf 3 _ rfl;simpa [Tryz.cS] using this
 have f4:DataW.trod enc Tryz.prog w base (fun _=>true) true m 3 [c4]=xs[4]?:=by have:=hf 4 _ rfl;simpa [Tryz.cI] using this
 have f5:DataW.trod enc Tryz.prog w base (fun _=>true) true m 3 [c5]=xs[5]?:=by have:=hf 5 _ rfl;simpa [Tryz.cI] using this
 have f6:DataW.trod enc Tryz.prog w base (fun _=>true) true m 3 [c6]=xs[6]?:=by have:=hf 6 _ rfl;simpa [Tryz.cI] using this
 have f7:DataW.trod enc Tryz.prog w base (fun _=>true) true m 4 [c7]=xs[7]?:=by have:=hf 7 _ rfl;simpa [Tryz.cB] using this
 have f8:DataW.trod enc Tryz.prog w base (fun _=>true) true m 3 [c8]=xs[8]?:=by have:=hf 8 _ rfl;simpa [Tryz.cI] using this
 have f9:DataW.trod enc Tryz.prog w base (fun _=>true) true m 3 [c9]=xs[9]?:=by have:=hf 9 _ rfl;simpa [Tryz.cI] using this
 have f10:DataW.trod enc Tryz.prog w base (fun _=>true) true m 3 [c10]=xs[10]?:=by have:=hf 10 _ rfl;simpa [Tryz.cI] using this
 have f11:DataW.trod enc Tryz.prog w base (fun _=>true) true m 3 [c11]=xs[11]?:=by have:=hf 11 _ rfl;simpa [Tryz.cI] using this
 have f12:DataW.trod enc Tryz.prog w base (fun _=>true) true m 3 [c12]=xs[12]?:=by have:=hf 12 _ rfl;simpa [Tryz.cI] using this
 have f13:DataW.trod enc Tryz.prog w base (fun _=>true) true m 9 [c13]=xs[13]?:=by have:=hf 13 _ rfl;simpa [Tryz.cS] using this
 have f14:DataW.trod enc Tryz.prog w base (fun _=>true) true m 3 [c14]=xs[14]?:=by have:=hf 14 _ rfl;simpa [Tryz.cI] using this
 have f15:DataW.trod enc Tryz.prog w base (fun _=>true) true m 3 [c15]=xs[15]?:=by have:=hf 15 _ rfl;simpa [Tryz.cI] using this
 obtain ⟨x0,rfl,e0⟩:=int_cw Tryz.underlying3 f0 (by omega)
 obtain ⟨x1,rfl,e1⟩:=int_cw Tryz.underlying3 f1 (by omega)
 obtain ⟨x2,rfl,e2⟩:=int_cw Tryz.underlying5 f2 (by omega)
 obtain ⟨x3,rfl,e3⟩:=str_cw Tryz.underlying9 f3 (by omega)
 obtain ⟨x4,rfl,e4⟩:=int_cw Tryz.underlying3 f4 (by omega)
 obtain ⟨x5,rfl,e5⟩:=int_cw Tryz.underlying3 f5 (by omega)
 obtain ⟨x6,rfl,e6⟩:=int_cw Tryz.underlying3 f6 (by omega)
 obtain ⟨x7,rfl⟩:=bool_cw Tryz.underlying4 f7 (by omega)
 obtain ⟨x8,rfl,e8⟩:=int_cw Tryz.underlying3 f8 (by omega)
 obtain ⟨x9,rfl,e9⟩:=int_cw Tryz.underlying3 f9 (by omega)
 obtain ⟨x10,rfl,e10⟩:=int_cw Tryz.underlying3 f10 (by omega)
 obtain ⟨x11,rfl,e11⟩:=int_cw Tryz.underlying3 f11 (by omega)
 obtain ⟨x12,rfl,e12⟩:=int_cw Tryz.underlying3 f12 (by omega)
 obtain ⟨x13,rfl,e13⟩:=str_cw Tryz.underlying9 f13 (by omega)
 obtain ⟨x14,rfl,e14⟩:=int_cw Tryz.underlying3 f14 (by omega)
 obtain ⟨x15,rfl,e15⟩:=int_cw Tryz.underlying3 f15 (by omega)
 have hu:0≤x2∧x2≤255:=u8_in e2
 exact ⟨⟨x0,x1,x2,x3,x4,x5,x6,x7,x8,x9,x10,x11,x12,x13,x14,x15⟩,rfl,⟨e3,e13,hu,e0,e15⟩⟩
end
theorem items_open {H:Type} {enc:TypeId × Value→H} {W:World} {base:Nat} {v:Value} {d:DataW H} {p:List MemPlace} (hv:Value.okWide Tryz.prog W .any base 22 v)
 (h:DataW.Trod enc Tryz.prog W 0 (fun _=>true) true 22 v d p) (hs:∀ n ∈ d.weights Tryz.prog 22,n≤reachBytes):∃ a n cap l,v=.slice a n cap∧ItmsAt W a n cap l∧l.length≤cap:=by
 obtain ⟨a0,n0,c0,rfl⟩:=itm_slice Tryz.underlying22 hv
 obtain ⟨fuel,hf⟩:=h
 rcases open_slice Tryz.underlying22 (show DataW.trod enc Tryz.prog W 0 (fun _=>true) true fuel 22 [.slice a0 n0 c0]=some (d,p) from hf) with ⟨hc,_⟩ | ⟨a,len,cap,m',k,D,Pl,hc,_,hl,_,hm,hx,hat⟩
 ·simp at hc
  obtain ⟨rfl,rfl,rfl⟩:=hc
  exact ⟨none,0,0,[],rfl,ItmsAt.nilAt _,Nat.le_refl _⟩
 ·simp only [List.cons.injEq,Value.slice.injEq,and_true] at hc
  obtain ⟨rfl,rfl,rfl⟩:=hc
  simp only [if_true] at hm
  subst hm
  simp only [Prod.mk.injEq] at hx
  obtain ⟨rfl,_⟩:=hx
  have hb:m' * 144≤reachBytes:=by
   have:=hs _ (by simp only [DataW.weights,Tryz.underlying22];exact List.mem_cons_self ..)
   rw [Tryz.bItem] at this
   simp only [List.length_map,List.length_range] at this
   rw [show n0 +(m' - n0)=m' by omega] at this
   exact this
  unfold reachBytes at hb
  obtain ⟨h1,h2⟩:=itm_where Tryz.underlying22 hv
  obtain ⟨ab,ao,sp⟩:=a
  simp only at h1 h2
  subst h1
  have hex:∀ i,∃ x:Itm,i<n0→x.Wide∧∀ j,j<16→W.cell? ⟨ab,ao +i * 16 +j,none⟩=x.cs[j]?:=fun i=>by
   by_cases hi:i<n0
   ·obtain ⟨cs,e1,e2⟩:=hat i (by omega)
    rw [Tryz.cItem] at e1
    obtain ⟨_,hcl,hct⟩:=World.cells?_some e1
    obtain ⟨x,rfl,hw⟩:=item_cells e2
    refine ⟨x,fun _=>⟨hw,fun j hj=>?_⟩⟩
    have:=hct j hj
    rw [itm_add,itm_add] at this
    rw [this]
   ·exact ⟨Itm.zero,fun h=>absurd h hi⟩
  obtain ⟨F,hF⟩:=Classical.axiomOfChoice hex
  refine ⟨_,n0,m',(List.range n0).map F,rfl,⟨by simp,by simp;omega,⟨fun h=>(by cases h),fun x hx=>?_⟩,fun x hx=>?_⟩,by simp;omega⟩
  ·obtain rfl:=Option.some.inj hx
   refine ⟨rfl,h2,fun i u hu=>?_⟩
   have hil:=(List.getElem?_eq_some_iff.1 hu).1
   rw [ics_length] at hil
   simp at hil
   have hk:i / 16<n0:=by omega
   have hfg:=flatS_get (f:=Itm.cs) (k:=16) (fun _=>rfl) ((List.range n0).map F) (i / 16) (i % 16) Z46 (by omega)
   rw [show i / 16 * 16 +i % 16=i by omega] at hfg
   have hu:=hfg.symm.trans hu
   have hgd:((List.range n0).map F).getD (i / 16) default=F (i / 16):=by simp [List.getD_eq_getElem?_getD,hk]
   rw [hgd] at hu
   have:=(hF (i / 16) hk).2 (i % 16) (by omega)
   simp only
   rw [show ao +i=ao +i / 16 * 16 +i % 16 by omega,this,hu]
  ·obtain ⟨i,hi,rfl⟩:=List.mem_map.1 hx
   rw [List.mem_range] at hi
   exact (hF i hi).1
open Go.RowKit Go.Shelf
set_option maxHeartbeats 8000000
set_option maxRecDepth 100000
def shortB (x:Itm):Bool:=decide (x.wa.size≤100) && decide (x.st.size≤100)
theorem lone (x:Itm) (w:World):Calls Tryz.prog 19 #[x.v] w fun e w'=>e=.returned (.bool (shortB x))∧Below w.heap.size w w':=by
 have hal:=one_alloc w (Obj.cells #[.int .i64 x.id,.int .i64 x.kn,.int .u8 x.kd,.string x.wa,.int .i64 x.pit,.int .i64 x.ly,.int .i64 x.co,.bool x.ft,.int .i64 x.sh,.int .i64 x.fr,.int .i64 x.tw,.int .i64 x.lo,.int .i64 x.hi,.string x.st,.int .i64 x.li,.int .i64 x.vo] 24)
 have hX:=World.alloc_heap_new w (Obj.cells #[.int .i64 x.id,.int .i64 x.kn,.int .u8 x.kd,.string x.wa,.int .i64 x.pit,.int .i64 x.ly,.int .i64 x.co,.bool x.ft,.int .i64 x.sh,.int .i64 x.fr,.int .i64 x.tw,.int .i64 x.lo,.int .i64 x.hi,.string x.st,.int .i64 x.li,.int .i64 x.vo] 24)
 have d3:=(ItmCells.of_heap hX).1.c3
 have d13:=(ItmCells.of_heap hX).1.c13
 simp only [Itm.v,Itm.cs]
 unfold shortB
 obtain ⟨A,hA⟩:∃ A,x.wa.size=A:=⟨_,rfl⟩
 obtain ⟨B,hB⟩:∃ B,x.st.size=B:=⟨_,rfl⟩
 rw [hA,hB]
 clear hX
 by_cases h1:A≤100
 ·have e1:(A:Int)≤100:=by omega
  have d1:decide (A≤100)=true:=decide_eq_true h1
  rw [d1,Bool.true_and]
  by_cases h2:B≤100
  ·have e2:(B:Int)≤100:=by omega
   have d2:decide (B≤100)=true:=decide_eq_true h2
   rw [d2]
   exact Z88
  ·have e2:¬ (B:Int)≤100:=by omega
   have d2:decide (B≤100)=false:=decide_eq_false h2
   rw [d2]
   exact Z88
 ·have e1:¬ (A:Int)≤100:=by omega
  have d1:decide (A≤100)=false:=decide_eq_false h1
  rw [d1,Bool.false_and]
  exact Z88
def fewB (l:List Itm) (m:Nat):Bool:=(l.take m).all shortB && decide (l.length≤m)
theorem fewB_len {l:List Itm} {m:Nat} (h:fewB l m=true):l.length≤m:=by
 unfold fewB at h
 rw [Bool.and_eq_true] at h
 exact of_decide_eq_true h.2
theorem all_succ {l:List Itm} {k:Nat} (hk:k<l.length):(l.take (k +1)).all shortB=((l.take k).all shortB && shortB (l.getD k default)):=by
 rw [List.take_succ_eq_append_getElem hk,List.all_append,List.getD_eq_getElem?_getD,List.getElem?_eq_getElem hk]
 simp
theorem all_no {l:List Itm} {k m:Nat} (hk:k<l.length) (hm:k<m) (h:shortB (l.getD k default)=false):(l.take m).all shortB=false:=by
 rw [List.all_eq_false]
 refine ⟨l.getD k default,?_,by rw [h];simp⟩
 rw [List.getD_eq_getElem?_getD,List.getElem?_eq_getElem hk]
 have:l[k] ∈ l.take m:=List.mem_take_iff_getElem.2 ⟨k,by omega,rfl⟩
 exact this
theorem lfew (m:Nat) (a:Option Addr) (n cap:Nat) (l:List Itm) (w:World) (h:ItmsAt w a n cap l) (hm:m≤1000):Calls Tryz.prog 18 #[.slice a n cap,.int .i64 m] w fun e w'=>e=.returned (.bool (fewB l m))∧Below w.heap.size w w':=by
 obtain rfl:=h.len
 have hsm:=h.small
 have HP:=Lib.hid (show ∀ w' b,fewB l m=b→Below w.heap.size w w'→(fun e w'=>e=Ending.returned (.bool (fewB l m))∧Below w.heap.size w w':Ending→World→Prop) (.returned (.bool b)) w' from fun w' b h1 h2=>⟨by rw [h1],h2⟩)
 generalize (fun e w'=>e=Ending.returned (.bool (fewB l m))∧Below w.heap.size w w':Ending→World→Prop)=Post at *
 go_enter Tryz.func18,Tryz.ntmps18
 go_wp2_with fail
 go_loopw [5] (fun i wr=>∃ k:Nat,k≤l.length∧k≤m∧i=.int .i64 k∧Hid ((l.take k).all shortB=true)∧Below w.heap.size w wr) (fun i _=>l.length - (RowKit.intOf i).toNat)
 case atStart=>exact ⟨0,Nat.zero_le _,Nat.zero_le _,rfl,Lib.hid rfl,Below.refl _ _⟩
 case round =>
  obtain ⟨k,hk,hkm,rfl,hall,hB⟩:=hrel
  have hnn:(0:Int)≤k:=by omega
  by_cases hlt:k<l.length
  ·have i1:(k:Int)<(l.length:Int):=by omega
   by_cases hlm:k<m
   ·have i2:(k:Int)<(m:Int):=by omega
    obtain ⟨b,o,rfl,hb,hdc⟩:=(h.below hB).get hlt
    have Hs:=Lib.hid (all_succ hlt)
    have Hn:=Lib.hid (all_no hlt hlm)
    generalize l.getD k default=x at *
    have hcl:=lone x wr
    cases hv:shortB x with
    | true =>
      rw [hv] at hcl Hs
      have h2:=Lib.hid (show (l.take (k +1)).all shortB=true by rw [Hs.out,hall.out];rfl)
      clear hv Hn
      go_wp2_with (first
       | (refine wpList_loadI rfl _ rfl rfl hdc ?_)
       | (go_at_call 19;(with_reducible refine hcl.mono ?_);rintro e w2 ⟨rfl,hb2⟩))
      go_roundw
      case rel=>exact ⟨k +1,by omega,by omega,by go_num,h2,hB.ch2 hb2⟩
      case measure=>simp [RowKit.intOf];omega
    | false =>
      have HE:=Lib.hid (fun w' hb=>HP.out w' false (by unfold fewB;rw [Hn.out hv];rfl) hb)
      rw [hv] at hcl
      clear hv Hn Hs
      go_wp2_with (first
       | (refine wpList_loadI rfl _ rfl rfl hdc ?_)
       | (go_at_call 19;(with_reducible refine hcl.mono ?_);rintro e w2 ⟨rfl,hb2⟩))
      exact HE.out _ (hB.ch2 hb2)
   ·have i2:¬ (k:Int)<(m:Int):=by omega
    have i3:¬ (l.length:Int)≤(m:Int):=by omega
    have HE:=Lib.hid (HP.out wr false (by unfold fewB;rw [decide_eq_false (by omega),Bool.and_false]) hB)
    exact Z36
  ·have i1:¬ (k:Int)<(l.length:Int):=by omega
   have hkl:k=l.length:=by omega
   have i3:(l.length:Int)≤(m:Int):=by omega
   have HE:=Lib.hid (HP.out wr true (by unfold fewB;rw [decide_eq_true (by omega),Bool.and_true,List.take_of_length_le (by omega)];have:=hall.out;rw [hkl,List.take_length] at this;exact this) hB)
   clear hkl
   exact Z36
def outC (l:List Itm) (day id:Int):Int:=if lookE l day id=0 then (lookS l day id).co else 0
def outW (l:List Itm) (day id:Int):List Bd:=if lookE l day id=0 then wayB l day id else []
def outT (l:List Itm) (day id:Int):List Bd:=if lookE l day id=0 then turnB l day id else []
/-- An outline with rows of its own, and an error. -/
def OutE (w:World) (E co:Int) (ws ts:List Bd) (e:Ending) (w':World):Prop:=∃ v1 v2,e=.returned (.tuple #[.agg #[.int .i64 co,v1,v2],.int .i64 E])∧Below w.heap.size w w'∧w'.ownsRow w.heap.size 69 4 v1 ws.length (bcs ws)∧w'.ownsRow w.heap.size 69 4 v2 ts.length (bcs ts)
theorem sOutline_any (a:Option Addr) (n cap:Nat) (l:List Itm) (day id:Int) (w:World) (h:ItmsAt w a n cap l) (hcap:l.length≤cap) :
 Calls Tryz.prog 36 #[.slice a n cap,.int .i64 day,.int .i64 id] w (OutE w (lookE l day id) (outC l day id) (outW l day id) (outT l day id)):=by
 have hB0:=one_alloc w (Obj.cells #[.int .i64 0,.slice none 0 0,.slice none 0 0] 52)
 have hR0:=World.alloc_heap_new w (Obj.cells #[.int .i64 0,.slice none 0 0,.slice none 0 0] 52)
 have hL:=slooked_any a n cap l day id _ (h.below hB0) hcap
 have hw:=h.wide
 unfold LookPost at hL
 have HP:=Lib.hid (show ∀ w' v1 v2 E co W T,lookE l day id=E→outC l day id=co→outW l day id=W→outT l day id=T→Below w.heap.size w w'→w'.ownsRow w.heap.size 69 4 v1 W.length (bcs W)→w'.ownsRow w.heap.size 69 4 v2 T.length (bcs T)→OutE w (lookE l day id) (outC l day id) (outW l day id) (outT l day id) (.returned (.tuple #[.agg #[.int .i64 co,v1,v2],.int .i64 E])) w' from
  fun w' v1 v2 E co W T h1 h2 h3 h4 h5 h6 h7=>by subst h1 h2 h3 h4;exact ⟨v1,v2,rfl,h5,h6,h7⟩)
 generalize OutE w (lookE l day id) (outC l day id) (outW l day id) (outT l day id)=Post at *
 by_cases h0:lookE l day id=0
 ·have hlk:=look_ok h0
  have hS:lookR l day id=countL l day:=by unfold lookR;rw [if_pos h0]
  have hZ:lookZ l day id=lookS l day id:=by unfold lookZ;rw [if_pos h0]
  have h1:outC l day id=(lookS l day id).co:=by unfold outC;rw [if_pos h0]
  have h2:outW l day id=wayB l day id:=by unfold outW;rw [if_pos h0]
  have h3:outT l day id=turnB l day id:=by unfold outT;rw [if_pos h0]
  have HPf:=Lib.hid (fun w' v1 v2=>HP.out w' v1 v2 0 _ _ _ h0 h1 h2 h3)
  have hsl:=Nat.le_trans (countL_len l day) hlk.cat.few
  have hcw:=wides hw (fun x (hx:x ∈ countL l day)=>(countL_sub hx).1)
  have hms:∀ x ∈ countL l day,x.kd=2∨x.kd=3→x.sh=(lookS l day id).id→ -10000≤x.lo∧x.lo≤10000:=fun x hx hk hs=>by
   exact Z23
  have hOu:=fun W va vc (hi:ItmsAt W va (countL l day).length vc (countL l day))=>soutline va _ vc (countL l day) (lookS l day id) W hi hsl hlk.co hms
  unfold OutPost at hOu
  simp only [hlk.sid] at hOu
  change ∀ W va vc,ItmsAt W va (countL l day).length vc (countL l day)→Calls Tryz.prog _ _ W (fun e w'=>∃ v1 v2,e=.returned (.agg #[.int .i64 (lookS l day id).co,v1,v2])∧Below W.heap.size W w'∧w'.ownsRow W.heap.size 69 4 v1 (wayB l day id).length (bcs (wayB l day id))∧w'.ownsRow W.heap.size 69 4 v2 (turnB l day id).length (bcs (turnB l day id))) at hOu
  rw [hS,hZ,h0] at hL
  clear hS hZ hms hlk h0 h1 h2 h3 HP
  generalize wayB l day id=WB at *
  generalize turnB l day id=TB at *
  generalize countL l day=S at *
  generalize lookS l day id=y at *
  simp only [Shd.v,Shd.cs] at hL hOu
  go_enter Tryz.func36,Tryz.ntmps36
  go_wp2_with (first
   | (go_at_call 82;(with_reducible refine hL.mono ?_);rintro e w2 ⟨v,rfl,hb2,ho2⟩;obtain ⟨va,vc,rfl,_⟩:=owns_slice ho2;have hi2:=(ItmsAt.of_owns ho2 (by omega) hcw).below (one_alloc w2 (Obj.cells #[.int .i64 y.id,.string y.wa,.int .i64 y.pit,.int .i64 y.ly,.int .i64 y.co,.bool y.ft] 72));have hY2:=World.alloc_heap_new w2 (Obj.cells #[.int .i64 y.id,.string y.wa,.int .i64 y.pit,.int .i64 y.ly,.int .i64 y.co,.bool y.ft] 72);obtain ⟨p0,p1,p2,p3,p4,p5,pf⟩:=cell6 hY2;have hR2:=alKeep (o':=Obj.cells #[.int .i64 y.id,.string y.wa,.int .i64 y.pit,.int .i64 y.ly,.int .i64 y.co,.bool y.ft] 72) ((hb2.block w.heap.size (by simp)).trans hR0))
   | (go_at_call 83;(with_reducible refine (hOu _ va vc hi2).mono ?_);rintro e w3 ⟨v1,v2,rfl,hb3,ho31,ho32⟩;obtain ⟨a1,c1,rfl,_⟩:=owns_slice ho31;obtain ⟨a2,c2,rfl,_⟩:=owns_slice ho32;have hR3:=(hb3.block w.heap.size (Array.getElem?_eq_some_iff.1 hR2).1).trans hR2;obtain ⟨q0,q1,q2,qf,ql⟩:=cell3s hR3))
  obtain ⟨k1,k2⟩:=set3 hR3 (.int .i64 y.co) (.slice a1 WB.length c1) (.slice a2 TB.length c2)
  have hB3:=((hB0.ch2 hb2).ch2 (one_alloc w2 (Obj.cells #[.int .i64 y.id,.string y.wa,.int .i64 y.pit,.int .i64 y.ly,.int .i64 y.co,.bool y.ft] 72))).ch2 hb3
  have hz2:=hb2.size
  rw [World.size_alloc] at hz2
  have hr1:=SL.row_base (SL.row_stab ho31 fun k hk=>k2.block k (SL.row_bounds ho31 k hk).2 (by have:=(SL.row_bounds ho31 k hk).1;simp at this ⊢;omega)) (show w.heap.size≤(w2.alloc (Obj.cells #[.int .i64 y.id,.string y.wa,.int .i64 y.pit,.int .i64 y.ly,.int .i64 y.co,.bool y.ft] 72)).heap.size by simp;omega)
  have hr2:=SL.row_base (SL.row_stab ho32 fun k hk=>k2.block k (SL.row_bounds ho32 k hk).2 (by have:=(SL.row_bounds ho32 k hk).1;simp at this ⊢;omega)) (show w.heap.size≤(w2.alloc (Obj.cells #[.int .i64 y.id,.string y.wa,.int .i64 y.pit,.int .i64 y.ly,.int .i64 y.co,.bool y.ft] 72)).heap.size by simp;omega)
  have hBF:=hB3.trans (k2.belowE_w hB3.size (by simp))
  obtain ⟨g0,g1,g2,gf,gl⟩:=cell3s k1
  have HF:=Lib.hid (HPf.out _ _ _ hBF hr1 hr2)
  clear hr1 hr2 hBF k1 k2 ho31 ho32 ho2 hR3 hR2 q0 q1 q2 qf ql hb3 hb2 hB3
  generalize ((w3.setCell ⟨w.heap.size,0,none⟩ (.int .i64 y.co)).setCell ⟨w.heap.size,1,none⟩ (.slice a1 WB.length c1)).setCell ⟨w.heap.size,2,none⟩ (.slice a2 TB.length c2)=WF at *
  exact bodyPost_ret (v:=.tuple #[.agg #[.int .i64 y.co,.slice a1 WB.length c1,.slice a2 TB.length c2],.int .i64 0]) Z8d rfl HF.out
 ·have h1:outC l day id=0:=by unfold outC;rw [if_neg h0]
  have h2:outW l day id=[]:=by unfold outW;rw [if_neg h0]
  have h3:outT l day id=[]:=by unfold outT;rw [if_neg h0]
  generalize lookE l day id=E at *
  have e2:(E != 0)=true:=by simpa using h0
  have HF:=Lib.hid (fun w' hb=>HP.out w' (.slice none 0 0) (.slice none 0 0) E 0 [] [] rfl h1 h2 h3 hb (World.ownsRow_nil _ _ _ _) (World.ownsRow_nil _ _ _ _))
  generalize lookZ l day id=y at *
  generalize lookR l day id=S at *
  simp only [Shd.v,Shd.cs] at hL
  clear h0 h1 h2 h3 HP
  go_enter Tryz.func36,Tryz.ntmps36
  go_wp2_with (go_at_call 82;(with_reducible refine hL.mono ?_);rintro e w2 ⟨v,rfl,hb2,ho2⟩;obtain ⟨va,vc,rfl,_⟩:=owns_slice ho2;have hR2:=alKeep (o':=Obj.cells #[.int .i64 y.id,.string y.wa,.int .i64 y.pit,.int .i64 y.ly,.int .i64 y.co,.bool y.ft] 72) ((hb2.block w.heap.size (by simp)).trans hR0);obtain ⟨q0,q1,q2,qf,ql⟩:=cell3s hR2)
  obtain ⟨k1,k2⟩:=set3 hR2 (.int .i64 0) (.slice none 0 0) (.slice none 0 0)
  have hB2:=(hB0.ch2 hb2).ch2 (one_alloc w2 (Obj.cells #[.int .i64 y.id,.string y.wa,.int .i64 y.pit,.int .i64 y.ly,.int .i64 y.co,.bool y.ft] 72))
  have hBF:=hB2.trans (k2.belowE_w hB2.size (by simp))
  obtain ⟨g0,g1,g2,gf,gl⟩:=cell3s k1
  have HF2:=Lib.hid (HF.out _ hBF)
  clear hBF k1 k2 ho2 hR2 q0 q1 q2 qf ql hb2 hB2
  generalize (((w2.alloc (Obj.cells #[.int .i64 y.id,.string y.wa,.int .i64 y.pit,.int .i64 y.ly,.int .i64 y.co,.bool y.ft] 72)).setCell ⟨w.heap.size,0,none⟩ (.int .i64 0)).setCell ⟨w.heap.size,1,none⟩ (.slice none 0 0)).setCell ⟨w.heap.size,2,none⟩ (.slice none 0 0)=WF at *
  exact bodyPost_ret (v:=.tuple #[.agg #[.int .i64 0,.slice none 0 0,.slice none 0 0],.int .i64 E]) Z8d rfl HF2.out
open Go
theorem kept_mem {s:List Itm} {k id:Int} {x:Itm}:x ∈ keptL s k id ↔ x ∈ s∧x.kd=k∧x.sh=id:=by unfold keptL;rw [List.mem_filter];simp
open Go.RowKit Go.Shelf
set_option maxHeartbeats 8000000
set_option maxRecDepth 100000
theorem neqB_run (x y z u:Int) (w:World):(binOp .neq 69 (.agg #[.int .i64 x,.int .i64 y,.int .i64 z,.int .i64 u]) (.agg #[.int .i64 x,.int .i64 y,.int .i64 z,.int .i64 u])).run Tryz.prog w=.ok (.bool false) w:=by
 rw [run_neq_struct,run_equalIn_agg _ _ _ _ _ Zk Zk]
 simp [go_sem,Tryz.underlying69]
theorem r2sameB (a1 a2:Option Addr) (n1 n2 c1 c2:Nat) (xs:List Bd) (w:World) (hx:BdsAt w a1 n1 c1 xs) (hy:BdsAt w a2 n2 c2 xs) :
 Calls Tryz.prog 43 #[.slice a1 n1 c1,.slice a2 n2 c2] w fun e w'=>e=.returned (.bool true)∧Below w.heap.size w w':=by
 have hlx:=hx.small
 obtain rfl:=hx.len
 obtain rfl:=hy.len
 go_enter Tryz.func43,Tryz.ntmps43
 go_wp2_with fail
 go_loopw [5] (fun i wr=>∃ k:Nat,k≤xs.length∧i=.int .i64 k∧Below w.heap.size w wr) (fun i _=>xs.length - (RowKit.intOf i).toNat)
 case atStart=>exact ⟨0,Nat.zero_le _,rfl,Below.refl _ _⟩
 case round =>
  obtain ⟨k,hk,rfl,hB⟩:=hrel
  have hnn:(0:Int)≤k:=by omega
  by_cases hlt:k<xs.length
  ·obtain ⟨b1,o1,rfl,_,d0,d1,d2,d3⟩:=(hx.below hB).get hlt
   obtain ⟨b2,o2,rfl,_,g0,g1,g2,g3⟩:=(hy.below hB).get hlt
   have i1:(k:Int)<(xs.length:Int):=by omega
   generalize xs.getD k default=x at *
   have hne:=fun W=>neqB_run x.frm x.tow x.most x.bid W
   go_wp2_with fail
   go_quiet (fail)
   go_wp2
   go_roundw
   case rel=>exact ⟨k +1,by omega,by go_num,belowN hB⟩
   case measure=>simp [RowKit.intOf];omega
  ·go_wp2_with fail
   go_ret
   exact ⟨rfl,hB⟩
end Go.Proofs.YtelkcohhagblaaaGreat
namespace Go.Proofs
open Go.Shelf
def Tryz.sortFA_ren:Go.Shelf.Ren:=⟨fun | 6=>186 | 15=>205 | 14=>208 | 28=>222 | 29=>223 | 20=>225 | 21=>226 | 22=>227 | 23=>228 | 24=>229 | 25=>230 | 26=>231 | 27=>232 | 46=>252 | 47=>247 | 48=>248 | 49=>253 | 50=>254 | 57=>262 | n=>n,fun | 22=>92 | 24=>72 | 25=>198 | 3=>3 | 39=>36 | 0=>0 | 53=>232 | 55=>234 | 4=>4 | 46=>225 | 45=>224 | 50=>138 | 5=>5 | 9=>9 | 66=>248 | 70=>252 | 76=>260 | 77=>261 | n=>n,fun | n=>n⟩
theorem Tryz.sortFA:Go.Proofs.SlLaysF0.n6 Tryz.prog Tryz.sortFA_ren:={
 mixed:=by kernel_rfl
 f6:=⟨Tryz.f186.name,by decide,Tryz.func186.trans (congrArg some (by kernel_rfl))⟩
 f14:=⟨Tryz.f208.name,by decide,Tryz.func208.trans (congrArg some (by kernel_rfl))⟩
 f15:=Tryz.func205.trans (congrArg some (by kernel_rfl))
 f20:=⟨Tryz.f225.name,by decide,Tryz.func225.trans (congrArg some (by kernel_rfl))⟩
 f21:=⟨Tryz.f226.name,by decide,Tryz.func226.trans (congrArg some (by kernel_rfl))⟩
 f22:=⟨Tryz.f227.name,by decide,Tryz.func227.trans (congrArg some (by kernel_rfl))⟩
 f23:=⟨Tryz.f228.name,by decide,Tryz.func228.trans (congrArg some (by kernel_rfl))⟩
 f24:=⟨Tryz.f229.name,by decide,Tryz.func229.trans (congrArg some (by kernel_rfl))⟩
 f25:=⟨Tryz.f230.name,by decide,Tryz.func230.trans (congrArg some (by kernel_rfl))⟩
 f26:=⟨Tryz.f231.name,by decide,Tryz.func231.trans (congrArg some (by kernel_rfl))⟩
 f27:=⟨Tryz.f232.name,by decide,Tryz.func232.trans (congrArg some (by kernel_rfl))⟩
 f28:=Tryz.func222.trans (congrArg some (by kernel_rfl))
 f29:=Tryz.func223.trans (congrArg some (by kernel_rfl))
 f46:=⟨Tryz.f252.name,by decide,Tryz.func252.trans (congrArg some (by kernel_rfl))⟩
 f47:=Tryz.func247.trans (congrArg some (by kernel_rfl))
 f48:=Tryz.func248.trans (congrArg some (by kernel_rfl))
 f49:=⟨Tryz.f253.name,by decide,Tryz.func253.trans (congrArg some (by kernel_rfl))⟩
 f50:=⟨Tryz.f254.name,by decide,Tryz.func254.trans (congrArg some (by kernel_rfl))⟩
 f57:=⟨Tryz.f262.name,by decide,Tryz.func262.trans (congrArg some (by kernel_rfl))⟩
 t0:=Tryz.underlying0
 a0:=Tryz.isAgg0
 z0:=Tryz.sizeOf0
 v0:=Tryz.zeroValue0
 t3:=Tryz.underlying3
 a3:=Tryz.isAgg3
 z3:=Tryz.sizeOf3
 v3:=Tryz.zeroValue3
 t4:=Tryz.underlying4
 a4:=Tryz.isAgg4
 z4:=Tryz.sizeOf4
 v4:=Tryz.zeroValue4
 t5:=Tryz.underlying5
 a5:=Tryz.isAgg5
 z5:=Tryz.sizeOf5
 v5:=Tryz.zeroValue5
 t9:=Tryz.underlying9
 a9:=Tryz.isAgg9
 z9:=Tryz.sizeOf9
 v9:=Tryz.zeroValue9
 t22:=Tryz.underlying92
 a22:=Tryz.isAgg92
 z22:=Tryz.sizeOf92
 v22:=Tryz.zeroValue92
 t25:=Tryz.underlying198
 a25:=Tryz.isAgg198
 z25:=Tryz.sizeOf198
 v25:=Tryz.zeroValue198
 t39:=Tryz.underlying36
 a39:=Tryz.isAgg36
 z39:=Tryz.sizeOf36
 v39:=Tryz.zeroValue36
 t45:=Tryz.underlying224
 a45:=Tryz.isAgg224
 z45:=Tryz.sizeOf224
 v45:=Tryz.zeroValue224
 t46:=Tryz.underlying225
 a46:=Tryz.isAgg225
 z46:=Tryz.sizeOf225
 v46:=Tryz.zeroValue225
 t50:=Tryz.underlying138
 a50:=Tryz.isAgg138
 z50:=Tryz.sizeOf138
 v50:=Tryz.zeroValue138
 t53:=Tryz.underlying232
 a53:=Tryz.isAgg232
 z53:=Tryz.sizeOf232
 v53:=Tryz.zeroValue232
 t55:=Tryz.underlying234
 a55:=Tryz.isAgg234
 z55:=Tryz.sizeOf234
 v55:=Tryz.zeroValue234
 t66:=Tryz.underlying248
 a66:=Tryz.isAgg248
 z66:=Tryz.sizeOf248
 v66:=Tryz.zeroValue248
 t70:=Tryz.underlying252
 a70:=Tryz.isAgg252
 z70:=Tryz.sizeOf252
 v70:=Tryz.zeroValue252
 t76:=Tryz.underlying260
 a76:=Tryz.isAgg260
 z76:=Tryz.sizeOf260
 v76:=Tryz.zeroValue260
 t77:=Tryz.underlying261
 a77:=Tryz.isAgg261
 z77:=Tryz.sizeOf261
 v77:=Tryz.zeroValue261 }
def Tryz.equalBA_ren:Go.Shelf.Ren:=⟨fun | 8=>192 | n=>n,fun | 22=>50 | 24=>69 | 4=>4 | 3=>3 | 0=>0 | n=>n,fun | n=>n⟩
theorem Tryz.equalBA:Go.Proofs.SlLaysQ.n8 Tryz.prog Tryz.equalBA_ren:={
 mixed:=by kernel_rfl
 f8:=⟨Tryz.f192.name,by decide,Tryz.func192.trans (congrArg some (by kernel_rfl))⟩
 t0:=Tryz.underlying0
 a0:=Tryz.isAgg0
 z0:=Tryz.sizeOf0
 v0:=Tryz.zeroValue0
 t3:=Tryz.underlying3
 a3:=Tryz.isAgg3
 z3:=Tryz.sizeOf3
 v3:=Tryz.zeroValue3
 t4:=Tryz.underlying4
 a4:=Tryz.isAgg4
 z4:=Tryz.sizeOf4
 v4:=Tryz.zeroValue4
 t22:=Tryz.underlying50
 a22:=Tryz.isAgg50
 z22:=Tryz.sizeOf50
 v22:=Tryz.zeroValue50 }
end Go.Proofs
namespace Go.Proofs.YtelkcohhagblaaaGreat
open Go.RowKit Go.Shelf Go.Sort
set_option maxHeartbeats 4000000
set_option maxRecDepth 100000
abbrev SId:={ x:Shd // 1≤x.id∧x.id≤1000000 }
instance:Inhabited SId:=⟨⟨⟨1,⟨#[]⟩,0,0,0,false⟩,by decide⟩⟩
def scs (l:List Shd):List Value:=l.flatMap Shd.cs
theorem scs_append (a b:List Shd):scs (a ++b)=scs a ++scs b:=by simp [scs]
theorem scs_length (l:List Shd):(scs l).length=l.length * 6:=flatS_len (f:=Shd.cs) (k:=6) (fun _=>rfl) l
theorem scs_one (l:List Shd):∀ u ∈ scs l,u.oneCell'=true:=by
 intro u hu
 obtain ⟨x,_,hx⟩:=List.mem_flatMap.1 hu
 simp only [Shd.cs,List.mem_cons,List.not_mem_nil,or_false] at hx
 rcases hx with rfl | rfl | rfl | rfl | rfl | rfl <;> rfl
def encS (x:SId):List Value:=x.1.cs
def cfS (x y:SId):Int:=x.1.id - y.1.id
theorem swoS:SWO (ltOf cfS) where
 irrefl x:=by simp [ltOf,cfS]
 trans x y z h1 h2:=by
  unfold ltOf cfS at *
  rw [decide_eq_true_eq] at *
  omega
 ntrans x y z h1 h2:=by
  unfold ltOf cfS at *
  rw [decide_eq_false_iff_not] at *
  omega
theorem ssherds1 (x y:SId) (W:World):Calls Tryz.prog 187 #[.agg (encS x).toArray,.agg (encS y).toArray] W fun e w'=>e=.returned (.int .i64 (cfS x y))∧∃ q os',w'=grow (W.drewN q) os':=by
 obtain ⟨x,hx1,hx2⟩:=x
 obtain ⟨y,hy1,hy2⟩:=y
 unfold encS cfS
 simp only [Shd.cs]
 have hX:=alKeep (o':=Obj.cells #[.int .i64 y.id,.string y.wa,.int .i64 y.pit,.int .i64 y.ly,.int .i64 y.co,.bool y.ft] 72) (World.alloc_heap_new W (Obj.cells #[.int .i64 x.id,.string x.wa,.int .i64 x.pit,.int .i64 x.ly,.int .i64 x.co,.bool x.ft] 72))
 have hY:=World.alloc_heap_new (W.alloc (Obj.cells #[.int .i64 x.id,.string x.wa,.int .i64 x.pit,.int .i64 x.ly,.int .i64 x.co,.bool x.ft] 72)) (Obj.cells #[.int .i64 y.id,.string y.wa,.int .i64 y.pit,.int .i64 y.ly,.int .i64 y.co,.bool y.ft] 72)
 rw [World.size_alloc] at hY
 have c0:=(SL.cells_of hX).1 0
 have k0:=(SL.cells_of hY).1 0
 simp at c0 k0
 clear hX hY
 go_enter Tryz.func187,Tryz.ntmps187
 go_wp2
 go_ret
 exact ⟨rfl,0,#[Obj.cells #[.int .i64 x.id,.string x.wa,.int .i64 x.pit,.int .i64 x.ly,.int .i64 x.co,.bool x.ft] 72,Obj.cells #[.int .i64 y.id,.string y.wa,.int .i64 y.pit,.int .i64 y.ly,.int .i64 y.co,.bool y.ft] 72],by rw [alloc_eq_grow,alloc_eq_grow,grow_grow];rfl⟩
theorem encS_get (x:SId) {j:Nat} (hj:j<6):(encS x)[j]?=some ((encS x)[j]!):=by
 have hl:(encS x).length=6:=rfl
 rw [List.getElem?_eq_getElem (by omega),getElem!_pos (encS x) j (by omega)]
theorem sid_list {l:List Shd} (h:∀ x ∈ l,1≤x.id∧x.id≤1000000):∃ ds:List SId,ds.map (·.1)=l :=
 ⟨l.pmap Subtype.mk h,by rw [List.map_pmap];simp⟩
theorem ssort (base:Nat) (v:Value) (l:List Shd) (w:World) (h:w.ownsRow base 72 6 v l.length (scs l)) (hr:∀ x ∈ l,1≤x.id∧x.id≤1000000) (hn:l.Pairwise fun a b=>a.id≠b.id) (hl:l.length≤1000000) :
 Calls Tryz.prog 186 #[v,.func (.func 187) #[] #[]] w fun e w'=>e=.returned (.tuple #[])∧w'.ownsRow base 72 6 v l.length (scs (sortS l))∧SL.Chg v.ownBlock.toList w w':=by
 have h0:=h
 obtain ⟨hxl,⟨rfl,hn0⟩ | ⟨g,cap,cur,rfl,hbg,hg,h1,h2,h3,h4⟩⟩:=h
 ·have hle:l=[]:=List.length_eq_zero_iff.1 hn0
  subst hle
  refine (AnyF.slices_SortFunc_none Tryz.sortFA none 0 _ w).mono ?_
  rintro e w' ⟨rfl,rfl⟩
  exact ⟨rfl,World.ownsRow_nil _ _ _ _,.refl _ _⟩
 ·obtain ⟨ds,rfl⟩:=sid_list hr
  have hsc:scs (ds.map (·.1))=ds.flatMap encS:=by unfold scs encS;rw [List.flatMap_map]
  rw [List.length_map] at *
  have hgl:g<w.heap.size:=(Array.getElem?_eq_some_iff.1 hg).1
  have hH:HoldsK encS 6 w g 0 ds.toArray:=by
   intro j hj
   have hj':j<ds.length * 6:=by simpa using hj
   refine ⟨?_,by simp [World.frozen?,hg]⟩
   rw [get_flatK _ _ _ _ (by simpa using hj'),Nat.zero_add,h0.cellAt j (by omega),hsc]
   have:=flatS_get (f:=encS) (k:=6) (fun _=>rfl) ds (j / 6) (j % 6) (by omega) (by omega)
   rw [show j / 6 * 6 +j % 6=j by omega] at this
   rw [this,encS_get _ (by omega)]
   simp [List.getD_eq_getElem?_getD,show j / 6<ds.length by omega]
  refine (AnyQ.slices_SortFunc Tryz.sortFA 6 ?_ ?_ encS (fun _=>rfl) ?_ cfS swoS 187 #[] g 0 cap ds.toArray w (enters_of Tryz.func187 Zk rfl) (fun m os dk _ x y=>ssherds1 x y _) hH hgl Zj).mono ?_
  ·intro w;kernel_rfl
  ·intro w;kernel_rfl
  ·intro x u hu
   exact scs_one [x.1] u (by simpa [scs,encS] using hu)
  ·rintro e w' ⟨rfl,d',n,os,hp,hs,rfl⟩
   obtain ⟨p1,p2,p3⟩:=hp
   have p1:d'.size=ds.length:=by simpa using p1
   have hperm:d'.toList.Perm ds:=by
    have:=p3
    rw [show d'.extract 0 ds.toArray.size=d' by rw [show ds.toArray.size=d'.size by simp [p1]];simp] at this
    simpa using this
   have hm:d'.toList.map (·.1)=sortS (ds.map (·.1)):=by
    refine sorted_one ((hperm.map _).trans (sortS_perm _).symm) ?_ (sortS_sorted _) ?_
    ·rw [List.pairwise_map,List.pairwise_iff_getElem]
     intro i j hi hj hij
     have hi':i<d'.size:=by simpa using hi
     have hj':j<d'.size:=by simpa using hj
     have:=hs i j (Nat.zero_le _) hij Zj
     rw [getElem!_pos d' i hi',getElem!_pos d' j hj'] at this
     have h9:¬ (d'[j].1.id - d'[i].1.id<0):=by unfold ltOf cfS at this;rwa [decide_eq_false_iff_not] at this
     show (d'.toList[i]).1.id≤(d'.toList[j]).1.id
     rw [Array.getElem_toList,Array.getElem_toList]
     omega
    ·exact ((hperm.map (·.1)).pairwise_iff (fun h=>Ne.symm h)).2 hn
   rw [← hm]
   have hgk:(sortWorldK encS 6 w g 0 n d' os).heap[g]?=some (.cells (putCells id 0 (flatK encS 6 d') cur) 72 (0,0)):=by
    have hg':w.heap[g]=.cells cur 72 (0,0):=(Array.getElem?_eq_some_iff.1 hg).2
    simp [sortWorldK,putRowK,grow,putRow,mapBlock,Sort.ahead,Array.getElem?_append,Array.getElem_modify,hgl,hg',onCells]
   refine ⟨rfl,⟨by rw [scs_length,List.length_map,Array.length_toList,p1],.inr ⟨g,cap,putCells id 0 (flatK encS 6 d') cur,rfl,hbg,hgk,h1,h2,by simpa [putCells] using h3,?_⟩⟩,⟨rfl,rfl,rfl,by simp [sortWorldK,putRowK,grow,putRow,mapBlock,Sort.ahead],fun k hk hne=>?_⟩⟩
   ·apply List.ext_getElem?
    intro j
    have hsd:scs (d'.toList.map (·.1))=d'.toList.flatMap encS:=by unfold scs encS;rw [List.flatMap_map]
    rw [List.getElem?_take,hsd]
    by_cases hj:j<ds.length * 6
    ·have hjc:j<cur.size:=by have:ds.length * 6≤cap * 6:=Nat.mul_le_mul_right _ h1;omega
     have:=flatS_get (f:=encS) (k:=6) (fun _=>rfl) d'.toList (j / 6) (j % 6) (by rw [Array.length_toList];omega) (by omega)
     rw [show j / 6 * 6 +j % 6=j by omega] at this
     rw [this,encS_get _ (by omega),if_pos hj,Array.getElem?_toList]
     simp only [putCells,Array.getElem?_mapIdx,Array.getElem?_eq_getElem hjc,Option.map_some]
     rw [if_pos Zj,Nat.sub_zero,get_flatK _ _ _ _ (by omega)]
     simp [List.getD_eq_getElem?_getD,show j / 6<d'.size by omega]
    ·rw [if_neg hj,List.getElem?_eq_none]
     rw [flatS_len (f:=encS) (k:=6) (fun _=>rfl),Array.length_toList,p1]
     omega
   ·have hgk:g≠k:=fun e=>hne (by simp [Value.ownBlock,e])
    simp [sortWorldK,putRowK,grow,putRow,mapBlock,Sort.ahead,Array.getElem?_append,Array.getElem_modify,hk,hgk]
open Go.RowKit Go.Shelf
set_option maxHeartbeats 8000000
set_option maxRecDepth 100000
theorem elemH:Elem Tryz.prog 92 72 (.agg #[.int .i64 0,.string ⟨#[]⟩,.int .i64 0,.int .i64 0,.int .i64 0,.bool false]) 6 56:=⟨Tryz.underlying92,info_parts Zk,rfl,by decide⟩
theorem shdsL_succ {s:List Itm} {k:Nat} (hk:k<s.length):shdsL (s.take (k +1))=shdsL (s.take k) ++(if (s.getD k default).kd=1 then [(s.getD k default).shd] else []):=by
 unfold shdsL
 rw [List.take_succ_eq_append_getElem hk,List.filter_append,List.map_append,List.getD_eq_getElem?_getD,List.getElem?_eq_getElem hk]
 congr 1
 by_cases h:s[k].kd=1 <;> simp [h]
theorem ssherds_any (a:Option Addr) (n cap:Nat) (s:List Itm) (w:World) (hs:ItmsAt w a n cap s) (hl:s.length≤300) (hn:s.Pairwise fun x y=>x.id≠y.id) (hr:∀ x ∈ s,1≤x.id∧x.id≤1000000) :
 Calls Tryz.prog 131 #[.slice a n cap] w (RowPost w 72 6 (sherdsL s).length (scs (sherdsL s))):=by
 obtain rfl:=hs.len
 have hsm:=hs.small
 have HP:=Lib.hid (show ∀ v w',Below w.heap.size w w'→w'.ownsRow w.heap.size 72 6 v (sherdsL s).length (scs (sherdsL s))→RowPost w 72 6 (sherdsL s).length (scs (sherdsL s)) (.returned v) w' from fun v w' h1 h2=>⟨v,rfl,h1,h2⟩)
 generalize RowPost w 72 6 (sherdsL s).length (scs (sherdsL s))=Post at *
 have hSl:∀ k,(shdsL (s.take k)).length≤300:=fun k=>by
  unfold shdsL
  rw [List.length_map]
  exact Nat.le_trans (List.length_filter_le _ _) Z8b
 have hSo:=fun v W (ho:W.ownsRow w.heap.size 72 6 v (shdsL s).length (scs (shdsL s)))=>ssort w.heap.size v (shdsL s) W ho (fun y hy=>by
  unfold shdsL at hy
  obtain ⟨x,hx,rfl⟩:=List.mem_map.1 hy
  exact hr x (List.mem_filter.1 hx).1) (shdsL_ids hn) (by have:=hSl s.length;rw [List.take_length] at this;omega)
 have HSo:=Lib.hid hSo
 have HSl:=Lib.hid hSl
 have Hn:=Lib.hid hn
 clear hSo hSl hn hr
 go_enter Tryz.func131,Tryz.ntmps131
 go_wp2_with fail
 go_loopw [3,10] (fun r i wr=>∃ k:Nat,k≤s.length∧i=.int .i64 k∧wr.ownsRow w.heap.size 72 6 r (shdsL (s.take k)).length (scs (shdsL (s.take k)))∧Below w.heap.size w wr) (fun _ i _=>s.length - (RowKit.intOf i).toNat)
 case atStart=>exact ⟨0,Nat.zero_le _,rfl,World.ownsRow_nil _ _ _ _,Below.refl _ _⟩
 case round =>
 obtain ⟨k,hk,rfl,hro,hB⟩:=hrel
 have hnn:(0:Int)≤k:=by omega
 by_cases hlt:k<s.length
 ·have i1:(k:Int)<(s.length:Int):=by omega
  have hx1:=hs.below hB
  obtain ⟨b,o,rfl,hbl,hdc⟩:=hx1.get hlt
  have Hsu:=Lib.hid (shdsL_succ hlt)
  have Hnx:=HSl.out k
  have hso:=sherdO_own Hn.out (Itm.mem hlt)
  have hsh:=fun W (hi:ItmsAt W (some ⟨b,o,none⟩) s.length cap s)=>ssherd_any (some ⟨b,o,none⟩) s.length cap s (s.getD k default).id W hi
  generalize s.getD k default=x at *
  generalize shdsL (s.take k)=L at *
  obtain ⟨va,vc,rfl,_⟩:=owns_slice hro
  have hal:=one_alloc wr (Obj.cells #[.int .i64 x.id,.int .i64 x.kn,.int .u8 x.kd,.string x.wa,.int .i64 x.pit,.int .i64 x.ly,.int .i64 x.co,.bool x.ft,.int .i64 x.sh,.int .i64 x.fr,.int .i64 x.tw,.int .i64 x.lo,.int .i64 x.hi,.string x.st,.int .i64 x.li,.int .i64 x.vo] 24)
  have hX:=(ItmCells.of_heap (World.alloc_heap_new wr (Obj.cells #[.int .i64 x.id,.int .i64 x.kn,.int .u8 x.kd,.string x.wa,.int .i64 x.pit,.int .i64 x.ly,.int .i64 x.co,.bool x.ft,.int .i64 x.sh,.int .i64 x.fr,.int .i64 x.tw,.int .i64 x.lo,.int .i64 x.hi,.string x.st,.int .i64 x.li,.int .i64 x.vo] 24))).1.c0
  have hcs:=hsh _ (hx1.below hal)
  unfold ShdPost at hcs
  rw [hso] at hcs
  have HR:=Lib.hid hro
  clear hx1 hsh hso hro
  by_cases hk1:x.kd=1
  ·rw [if_pos hk1] at hcs Hsu
   simp only [Option.getD_some,Option.isSome_some,Shd.v,Shd.cs,Itm.shd] at hcs
   clear hk1
   go_wp2_with (first
    | (refine wpList_loadI rfl _ rfl rfl hdc ?_)
    | (refine wpList_storeI_new rfl _ _ rfl rfl rfl rfl ?_)
    | (go_at_call 150;(with_reducible refine hcs.mono ?_);rintro e w2 ⟨rfl,hb2⟩;have hB2:=(hB.ch2 hal).ch2 hb2;have hr2:=(HR.out.up hal (Nat.le_refl _)).up hb2 (Nat.le_refl _);have hr3:=(hr2.up (one_alloc w2 (Obj.cells #[.int .i64 x.id,.string x.wa,.int .i64 x.pit,.int .i64 x.ly,.int .i64 x.co,.bool x.ft] 72)) (Nat.le_refl _)).up (one_alloc _ (Obj.cells #[.int .i64 x.id,.string x.wa,.int .i64 x.pit,.int .i64 x.ly,.int .i64 x.co,.bool x.ft] 72)) (Nat.le_refl _);have hsl:=World.alloc_heap_new (w2.alloc (Obj.cells #[.int .i64 x.id,.string x.wa,.int .i64 x.pit,.int .i64 x.ly,.int .i64 x.co,.bool x.ft] 72)) (Obj.cells #[.int .i64 x.id,.string x.wa,.int .i64 x.pit,.int .i64 x.ly,.int .i64 x.co,.bool x.ft] 72);rw [World.size_alloc] at hsl;have hz2:=hB2.size)
    | (at_builtin;refine wpList_app elemH rfl _ _ rfl hr3 rfl rfl (RowAt.of_heap hsl) (by simp) (fun u hu=>by simp at hu;rcases hu with rfl | rfl | rfl | rfl | rfl | rfl <;> rfl) Z1s (by omega) Zj ?_;intro v' w3 hr4 hg4 hb4 _ _))
   obtain ⟨wa,wc,rfl,_⟩:=owns_slice hr4
   have hb9:=((hB2.ch2 (one_alloc w2 (Obj.cells #[.int .i64 x.id,.string x.wa,.int .i64 x.pit,.int .i64 x.ly,.int .i64 x.co,.bool x.ft] 72))).ch2 (one_alloc _ (Obj.cells #[.int .i64 x.id,.string x.wa,.int .i64 x.pit,.int .i64 x.ly,.int .i64 x.co,.bool x.ft] 72))).trans hb4
   have HQ:=Lib.hid (And.intro hr4 hb9)
   clear hr4 hg4 hb4 hr2 hr3 hsl hB2 hb2 hcs hb9
   go_wp2_with fail
   go_roundw
   case rel=>exact ⟨k +1,by omega,by go_num,by rw [Hsu.out,List.length_append,scs_append];exact HQ.out.1,HQ.out.2⟩
   case measure=>simp [RowKit.intOf];omega
  ·rw [if_neg hk1] at hcs Hsu
   simp only [Option.getD_none,Option.isSome_none,Shd.v,Shd.cs,Shd.zero] at hcs
   clear hk1
   go_wp2_with (first
    | (refine wpList_loadI rfl _ rfl rfl hdc ?_)
    | (refine wpList_storeI_new rfl _ _ rfl rfl rfl rfl ?_)
    | (go_at_call 150;(with_reducible refine hcs.mono ?_);rintro e w2 ⟨rfl,hb2⟩))
   have hB2:=((hB.ch2 hal).ch2 hb2).ch2 (one_alloc w2 (Obj.cells #[.int .i64 0,.string ⟨#[]⟩,.int .i64 0,.int .i64 0,.int .i64 0,.bool false] 72))
   have hr2:=((HR.out.up hal (Nat.le_refl _)).up hb2 (Nat.le_refl _)).up (one_alloc w2 (Obj.cells #[.int .i64 0,.string ⟨#[]⟩,.int .i64 0,.int .i64 0,.int .i64 0,.bool false] 72)) (Nat.le_refl _)
   go_roundw
   case rel=>exact ⟨k +1,by omega,by go_num,by rw [Hsu.out,List.append_nil];exact hr2,hB2⟩
   case measure=>simp [RowKit.intOf];omega
 ·have hke:s.take k=s:=List.take_of_length_le (by omega)
  rw [hke] at hro
  have i1:¬ (k:Int)<(s.length:Int):=by omega
  have hS:=HSo.out _ _ hro
  have HR:=Lib.hid (SL.row_bounds hro)
  have HB:=Lib.hid hB
  obtain ⟨va,vc,rfl,_⟩:=owns_slice hro
  clear hro hke hlt hk hB
  have hln:(shdsL s).length=(sherdsL s).length:=(sortS_len _).symm
  rw [show sortS (shdsL s)=sherdsL s from rfl] at hS
  have Hln:=Lib.hid hln
  clear hln
  go_wp2_with (go_at_call 186;(with_reducible refine hS.mono ?_);rintro e w4 ⟨rfl,ho4,hc4⟩)
  exact HP.out _ _ (HB.out.trans (hc4.belowE_w HB.out.size (fun k hk=>(HR.out k hk).1))) (by rw [← Hln.out];exact ho4)
theorem eleven {W:World} {N:Nat} {a0 a1 a2 a3 a4 a5 a6 a7 a8 a9 a10:Value} {t:TypeId} (h:W.heap[N]?=some (.cells #[a0,a1,a2,a3,a4,a5,a6,a7,a8,a9,a10] t (0,0))) (b0 b1 b2 b3 b4 b5 b6 b7 b8 b9 b10:Value) :
 (((((((((((W.setCell ⟨N,0,none⟩ b0).setCell ⟨N,1,none⟩ b1).setCell ⟨N,2,none⟩ b2).setCell ⟨N,3,none⟩ b3).setCell ⟨N,4,none⟩ b4).setCell ⟨N,5,none⟩ b5).setCell ⟨N,6,none⟩ b6).setCell ⟨N,7,none⟩ b7).setCell ⟨N,8,none⟩ b8).setCell ⟨N,9,none⟩ b9).setCell ⟨N,10,none⟩ b10).heap[N]?=some (.cells #[b0,b1,b2,b3,b4,b5,b6,b7,b8,b9,b10] t (0,0)) ∧
   SL.Chg [N] W (((((((((((W.setCell ⟨N,0,none⟩ b0).setCell ⟨N,1,none⟩ b1).setCell ⟨N,2,none⟩ b2).setCell ⟨N,3,none⟩ b3).setCell ⟨N,4,none⟩ b4).setCell ⟨N,5,none⟩ b5).setCell ⟨N,6,none⟩ b6).setCell ⟨N,7,none⟩ b7).setCell ⟨N,8,none⟩ b8).setCell ⟨N,9,none⟩ b9).setCell ⟨N,10,none⟩ b10):=by
 have k:=SL.heap_set (SL.heap_set (SL.heap_set (SL.heap_set (SL.heap_set (SL.heap_set (SL.heap_set (SL.heap_set (SL.heap_set (SL.heap_set (SL.heap_set h b0 (i:=0)) b1 (i:=1)) b2 (i:=2)) b3 (i:=3)) b4 (i:=4)) b5 (i:=5)) b6 (i:=6)) b7 (i:=7)) b8 (i:=8)) b9 (i:=9)) b10 (i:=10)
 exact ⟨by simpa using k,((((((((((SL.Chg.setCell _ (by simp) b0).trans (.setCell _ (by simp) b1)).trans (.setCell _ (by simp) b2)).trans (.setCell _ (by simp) b3)).trans (.setCell _ (by simp) b4)).trans (.setCell _ (by simp) b5)).trans (.setCell _ (by simp) b6)).trans (.setCell _ (by simp) b7)).trans (.setCell _ (by simp) b8)).trans (.setCell _ (by simp) b9)).trans (.setCell _ (by simp) b10)⟩
theorem cell11 {W:World} {N:Nat} {a0 a1 a2 a3 a4 a5 a6 a7 a8 a9 a10:Value} {t:TypeId} (h:W.heap[N]?=some (.cells #[a0,a1,a2,a3,a4,a5,a6,a7,a8,a9,a10] t (0,0))) :
 W.cell? ⟨N,0,none⟩=some a0∧W.cell? ⟨N,1,none⟩=some a1∧W.cell? ⟨N,2,none⟩=some a2∧W.cell? ⟨N,3,none⟩=some a3∧W.cell? ⟨N,4,none⟩=some a4∧W.cell? ⟨N,5,none⟩=some a5∧W.cell? ⟨N,6,none⟩=some a6∧W.cell? ⟨N,7,none⟩=some a7∧W.cell? ⟨N,8,none⟩=some a8∧W.cell? ⟨N,9,none⟩=some a9∧W.cell? ⟨N,10,none⟩=some a10∧(∀ i,W.frozen? ⟨N,i,none⟩=false)∧N<W.heap.size:=by
 have k:=(SL.cells_of h).1
 exact ⟨k 0,k 1,k 2,k 3,k 4,k 5,k 6,k 7,k 8,k 9,k 10,(SL.cells_of h).2,(Array.getElem?_eq_some_iff.1 h).1⟩
def valV (y:Shd) (c:Spn) (u:List UInt8):Array Value:=#[.int .i64 y.id,.string y.wa,.int .i64 y.pit,.int .i64 y.ly,.int .i64 y.co,.bool y.ft,.int .i64 c.lo,.int .i64 c.hi,.int .i64 c.lob,.int .i64 c.hib,.string ⟨u.toArray⟩]
theorem svalues_any (a:Option Addr) (n cap:Nat) (s:List Itm) (y:Shd) (w:World) (hs:ItmsAt w a n cap s) (hl:s.length≤10000) :
 Calls Tryz.prog 191 #[.slice a n cap,y.v] w fun e w'=>e=.returned (.agg (valV y (valC s y.id) (valU s y.id)))∧Below w.heap.size w w':=by
 have hB0:=(one_alloc w (Obj.cells #[.int .i64 y.id,.string y.wa,.int .i64 y.pit,.int .i64 y.ly,.int .i64 y.co,.bool y.ft] 72)).ch2 (one_alloc _ (Obj.cells #[.int .i64 0,.string ⟨#[]⟩,.int .i64 0,.int .i64 0,.int .i64 0,.bool false,.int .i64 0,.int .i64 0,.int .i64 0,.int .i64 0,.string ⟨#[]⟩] 203))
 have hY0:=alKeep (o':=Obj.cells #[.int .i64 0,.string ⟨#[]⟩,.int .i64 0,.int .i64 0,.int .i64 0,.bool false,.int .i64 0,.int .i64 0,.int .i64 0,.int .i64 0,.string ⟨#[]⟩] 203) (World.alloc_heap_new w (Obj.cells #[.int .i64 y.id,.string y.wa,.int .i64 y.pit,.int .i64 y.ly,.int .i64 y.co,.bool y.ft] 72))
 have hZ0:=World.alloc_heap_new (w.alloc (Obj.cells #[.int .i64 y.id,.string y.wa,.int .i64 y.pit,.int .i64 y.ly,.int .i64 y.co,.bool y.ft] 72)) (Obj.cells #[.int .i64 0,.string ⟨#[]⟩,.int .i64 0,.int .i64 0,.int .i64 0,.bool false,.int .i64 0,.int .i64 0,.int .i64 0,.int .i64 0,.string ⟨#[]⟩] 203)
 rw [World.size_alloc] at hZ0
 have hCo:=fun W (hi:ItmsAt W a n cap s)=>scolour_any a n cap s y.id W hi hl
 have hSe:=fun W (hi:ItmsAt W a n cap s)=>ssets_any a n cap s y.id W hi hl
 unfold RowPost at hSe
 have hlk:(keptL s 5 y.id).length≤10000:=Nat.le_trans (List.length_filter_le _ _) hl
 have hCm:=fun W base xa xc (ho:W.ownsRow base 9 1 (.slice xa (keptL s 5 y.id).length xc) (keptL s 5 y.id).length (strL (keptL s 5 y.id)))=>scomS xa _ xc (keptL s 5 y.id) W base hlk rfl ho
 have hP:∀ w' V,V=valV y (valC s y.id) (valU s y.id)→Below w.heap.size w w'→(fun e w'=>e=Ending.returned (.agg (valV y (valC s y.id) (valU s y.id)))∧Below w.heap.size w w':Ending→World→Prop) (.returned (.agg V)) w':=fun w' V h1 h2=>⟨by rw [h1],h2⟩
 have HP:=Lib.hid hP
 clear hP
 generalize (fun e w'=>e=Ending.returned (.agg (valV y (valC s y.id) (valU s y.id)))∧Below w.heap.size w w':Ending→World→Prop)=Post at *
 unfold valC valU at HP
 generalize keptL s 5 y.id=K5 at *
 generalize colL (keptL s 4 y.id)=c at *
 have HU:=Lib.hid (rfl:comC (setsL K5)=comC (setsL K5))
 clear HU
 generalize comC (setsL K5)=U at *
 simp only [Spn.v,Spn.cs] at hCo
 have hz0:((w.alloc (Obj.cells #[.int .i64 y.id,.string y.wa,.int .i64 y.pit,.int .i64 y.ly,.int .i64 y.co,.bool y.ft] 72)).alloc (Obj.cells #[.int .i64 0,.string ⟨#[]⟩,.int .i64 0,.int .i64 0,.int .i64 0,.bool false,.int .i64 0,.int .i64 0,.int .i64 0,.int .i64 0,.string ⟨#[]⟩] 203)).heap.size=w.heap.size +1 +1:=by simp
 have hs0:=hs.below hB0
 simp only [Shd.v,Shd.cs]
 clear hs
 go_enter Tryz.func191,Tryz.ntmps191
 go_wp2_with fail
 generalize (w.alloc (Obj.cells #[.int .i64 y.id,.string y.wa,.int .i64 y.pit,.int .i64 y.ly,.int .i64 y.co,.bool y.ft] 72)).alloc (Obj.cells #[.int .i64 0,.string ⟨#[]⟩,.int .i64 0,.int .i64 0,.int .i64 0,.bool false,.int .i64 0,.int .i64 0,.int .i64 0,.int .i64 0,.string ⟨#[]⟩] 203)=w3 at *
 have zY:=(Array.getElem?_eq_some_iff.1 hY0).1
 have HY:=Lib.hid hY0
 obtain ⟨p0,p1,p2,p3,p4,p5,pf⟩:=cell6 hY0
 clear hY0
 apply SLG.rule0 ?hm [] [6,7,8,9,10,11,12,13,14,15,16,5] [SLF.pq 6 [] _,SLF.pq 7 [] _,SLF.pq 8 [] _,SLF.pq 9 [2] _,SL.pu 10 [1,3] (.agg #[.int .i64 c.lo,.int .i64 c.hi,.int .i64 c.lob,.int .i64 c.hib]),SLF.pq 11 [] _,SLF.pq 12 [] _,SLF.pq 13 [6] _,SL.row 14 [5,7] [] w3.heap.size 9 1 K5.length (strL K5),SL.pu 15 [8] (.string ⟨U.toArray⟩),SLF.pq 16 [0,4,9] _,SL.box 5 [] [] w3.heap.size 203 #[.int .i64 0,.string ⟨#[]⟩,.int .i64 0,.int .i64 0,.int .i64 0,.bool false,.int .i64 0,.int .i64 0,.int .i64 0,.int .i64 0,.string ⟨#[]⟩],SL.box 5 [10,11] [11] w3.heap.size 203 #[.int .i64 y.id,.string y.wa,.int .i64 y.pit,.int .i64 y.ly,.int .i64 y.co,.bool y.ft,.int .i64 c.lo,.int .i64 c.hi,.int .i64 c.lob,.int .i64 c.hib,.string ⟨U.toArray⟩]] [12] ?hck ?hkp (fun _=>[]) ?hin ?hdj ?hfr ?ob ?en1
 case hm=>kernel_rfl
 case hin=>exact SL.none_held rfl
 case hdj=>simp
 case hfr=>intro us;simp only [SL.frame,SL.put'];simp;exact rfl
 case ob =>
  refine ⟨?_,?_,?_,?_,?_,?_,?_,?_,?_,?_,?_,?_,?_,trivial⟩
  all_goals first
   | (exact Z7x)
   | skip
  ·refine SLG.ob_sp rfl rfl rfl fun us w' Fe hG hu hd Kx hK=>?_
   try dsimp only
   simp [SL.O] at hu
   have hB5:Below w3.heap.size w3 w':=hG.below'
   obtain ⟨hc5,hf5⟩:=bcell hB5
   have hs5:=hB5.size
   refine SLF.wpo_do (SLF.wanted_free rfl) ?hd ?_
   case hd=>intro c h;cases h
   have hc:=hCo w' (hs0.below hB5)
   clear hc5 hf5
   exact Z86
  ·refine SLG.ob_sp rfl rfl rfl fun us w' Fe hG hu hd Kx hK=>?_
   try dsimp only
   simp [SL.O] at hu
   have hB5:Below w3.heap.size w3 w':=hG.below'
   obtain ⟨hc5,hf5⟩:=bcell hB5
   have hs5:=hB5.size
   refine SLF.wpo_do (SLF.wanted_free rfl) ?hd ?_
   case hd=>intro c h;cases h
   have hc:=hSe w' (hs0.below hB5)
   clear hc5 hf5
   go_step
   refine hc.mono ?_
   rintro e w6 ⟨v6,rfl,hb6,ho6⟩
   exact hK _ v6 w6 _ Zh (.of_below hb6) ⟨SL.row_base ho6 hs5,rfl⟩ (fun k hk=>.inr (SL.row_bounds ho6 k hk))
  ·refine SLG.ob_sp rfl rfl rfl fun us w' Fe hG hu hd Kx hK=>?_
   try dsimp only
   simp [SL.O] at hu
   have hB5:Below w3.heap.size w3 w':=hG.below'
   obtain ⟨hc5,hf5⟩:=bcell hB5
   have hs5:=hB5.size
   refine SLF.wpo_do (SLF.wanted_free rfl) ?hd ?_
   case hd=>intro c h;cases h
   obtain ⟨ho,_⟩:=hu
   obtain ⟨xa,xc,hv,_⟩:=owns_slice ho
   rw [hv] at ho
   have hc:=hCm w' _ xa xc ho
   clear ho hc5 hf5
   exact Z86
  ·refine SLG.ob_sp rfl rfl rfl fun us w' Fe hG hu hd Kx hK=>?_
   try dsimp only
   simp [SL.O] at hu
   have hB5:Below w3.heap.size w3 w':=hG.below'
   exact Z7m
  ·refine SLG.ob_no rfl rfl rfl fun us w' Fe hG hu hd Kx hK=>?_
   try dsimp only
   simp [SL.O] at hu
   have hB5:Below w3.heap.size w3 w':=hG.below'
   obtain ⟨hc5,hf5⟩:=bcell hB5
   have hs5:=hB5.size
   refine SLF.wpo_do (SLF.wanted_free rfl) ?hd ?_
   case hd=>intro c h;cases h
   obtain ⟨⟨e10,_⟩,M,e5,hbM,hhM,eF⟩:=hu
   obtain ⟨y0,y1,y2,y3,y4,y5,y6,y7,y8,y9,y10,yf,yl⟩:=cell11 hhM
   have HS:=Lib.hid (eleven hhM (.int .i64 y.id) (.string y.wa) (.int .i64 y.pit) (.int .i64 y.ly) (.int .i64 y.co) (.bool y.ft) (.int .i64 c.lo) (.int .i64 c.hi) (.int .i64 c.lob) (.int .i64 c.hib) (.string ⟨U.toArray⟩))
   clear hc5 hf5 hhM
   go_step
   exact hK _ [M] (by simpa [SL.box,eF] using HS.out.2) ⟨M,e5,hbM,HS.out.1,rfl⟩ (fun k hk=>.inl (by simpa [SL.box,eF] using hk))
 case hck=>kernel_rfl
 case hkp=>kernel_rfl
 intro us7 w7 Fs7 hG hu hbd hd
 simp [SL.Used,SL.box] at hu
 obtain ⟨M,e5,hbM,hhM,_⟩:=hu
 have hb7:Below w3.heap.size w3 w7:=hG.below'
 have hB7:=hB0.ch2 hb7
 have hZ7:=(hb7.block _ (Array.getElem?_eq_some_iff.1 hZ0).1).trans hZ0
 have zZ:=(Array.getElem?_eq_some_iff.1 hZ0).1
 rw [e5]
 obtain ⟨y0,y1,y2,y3,y4,y5,y6,y7,y8,y9,y10,yf,yl⟩:=cell11 hhM
 have HM:=Lib.hid hhM
 have HZ7:=Lib.hid hZ7
 have HB7:=Lib.hid hB7
 have hne:M≠w.heap.size +1:=by omega
 have hne2:w.heap.size +1≠M:=by omega
 obtain ⟨z0,z1,z2,z3,z4,z5,z6,z7,z8,z9,z10,zf,zl⟩:=cell11 hZ7
 clear hG hbd hd hZ0 hb7 hZ7 hB7 hB0 e5 hhM hCo hSe hCm hs0 HY p0 p1 p2 p3 p4 p5 pf zY
 by_cases hlt:c.hi<c.lo
 ·have d1:decide (c.hi<c.lo)=true:=by simpa using hlt
  rw [if_pos hlt] at HP
  clear hlt
  go_wp2_with fail
  have c4:SL.Chg [M] w7 ((((w7.setCell ⟨M,6,none⟩ (.int .i64 (-1))).setCell ⟨M,7,none⟩ (.int .i64 0)).setCell ⟨M,8,none⟩ (.int .i64 0)).setCell ⟨M,9,none⟩ (.int .i64 0)):=(((SL.Chg.setCell _ (by simp) _).trans (.setCell _ (by simp) _)).trans (.setCell _ (by simp) _)).trans (.setCell _ (by simp) _)
  have hZ8:=(c4.block (w.heap.size +1) zl Zj).trans HZ7.out
  obtain ⟨e1,e2⟩:=eleven hZ8 (.int .i64 y.id) (.string y.wa) (.int .i64 y.pit) (.int .i64 y.ly) (.int .i64 y.co) (.bool y.ft) (.int .i64 (-1)) (.int .i64 0) (.int .i64 0) (.int .i64 0) (.string ⟨U.toArray⟩)
  have hb8:=HB7.out.trans (c4.belowE_w HB7.out.size Zj)
  have hBe:=hb8.trans (e2.belowE_w hb8.size (by simp))
  refine (fun W9 h1 h2=>?_:∀ W9:World,W9.heap[w.heap.size +1]?=some (.cells #[.int .i64 y.id,.string y.wa,.int .i64 y.pit,.int .i64 y.ly,.int .i64 y.co,.bool y.ft,.int .i64 (-1),.int .i64 0,.int .i64 0,.int .i64 0,.string ⟨U.toArray⟩] 203 (0,0))→Below w.heap.size w W9→bodyPost Tryz.prog Tryz.f191 Post Exit.ret _ W9) _ e1 hBe
  obtain ⟨q0,q1,q2,q3,q4,q5,q6,q7,q8,q9,q10,qf,ql⟩:=cell11 h1
  clear HM HZ7 z0 z1 z2 z3 z4 z5 z6 z7 z8 z9 z10 zf zl y0 y1 y2 y3 y4 y5 y6 y7 y8 y9 y10 yf yl e1 hBe
  exact bodyPost_ret (v:=.agg #[.int .i64 y.id,.string y.wa,.int .i64 y.pit,.int .i64 y.ly,.int .i64 y.co,.bool y.ft,.int .i64 (-1),.int .i64 0,.int .i64 0,.int .i64 0,.string ⟨U.toArray⟩]) Z8a rfl (HP.out _ _ rfl h2)
 ·have d1:decide (c.hi<c.lo)=false:=by simpa using hlt
  rw [if_neg hlt] at HP
  clear hlt
  go_wp2_with fail
  obtain ⟨e1,e2⟩:=eleven HZ7.out (.int .i64 y.id) (.string y.wa) (.int .i64 y.pit) (.int .i64 y.ly) (.int .i64 y.co) (.bool y.ft) (.int .i64 c.lo) (.int .i64 c.hi) (.int .i64 c.lob) (.int .i64 c.hib) (.string ⟨U.toArray⟩)
  have hBe:=HB7.out.trans (e2.belowE_w HB7.out.size (by simp))
  refine (fun W9 h1 h2=>?_:∀ W9:World,W9.heap[w.heap.size +1]?=some (.cells #[.int .i64 y.id,.string y.wa,.int .i64 y.pit,.int .i64 y.ly,.int .i64 y.co,.bool y.ft,.int .i64 c.lo,.int .i64 c.hi,.int .i64 c.lob,.int .i64 c.hib,.string ⟨U.toArray⟩] 203 (0,0))→Below w.heap.size w W9→bodyPost Tryz.prog Tryz.f191 Post Exit.ret _ W9) _ e1 hBe
  obtain ⟨q0,q1,q2,q3,q4,q5,q6,q7,q8,q9,q10,qf,ql⟩:=cell11 h1
  clear HM HZ7 z0 z1 z2 z3 z4 z5 z6 z7 z8 z9 z10 zf zl y0 y1 y2 y3 y4 y5 y6 y7 y8 y9 y10 yf yl e1 hBe
  exact bodyPost_ret (v:=.agg #[.int .i64 y.id,.string y.wa,.int .i64 y.pit,.int .i64 y.ly,.int .i64 y.co,.bool y.ft,.int .i64 c.lo,.int .i64 c.hi,.int .i64 c.lob,.int .i64 c.hib,.string ⟨U.toArray⟩]) Z8a rfl (HP.out _ _ rfl h2)
open Go
set_option maxHeartbeats 4000000
theorem eqV_all {x y:Shd} {c d:Spn} {u v:List UInt8}:(x.id=y.id∧x.wa.toList=y.wa.toList∧x.pit=y.pit∧x.ly=y.ly∧x.co=y.co∧x.ft=y.ft∧c.lo=d.lo∧c.hi=d.hi∧c.lob=d.lob∧c.hib=d.hib∧u=v) ↔ (eqS x y && (eqP c d && (u == v)))=true:=by
 unfold eqS eqP
 simp only [Bool.and_eq_true,beq_iff_eq,ByteArray.toList_eq,and_assoc]
theorem neqV_run (x y:Shd) (c d:Spn) (u v:List UInt8) (w:World):(binOp .neq 203 (.agg (valV x c u)) (.agg (valV y d v))).run Tryz.prog w=.ok (.bool (!(eqS x y && (eqP c d && (u == v))))) w:=by
 have h:=eqV_all (x:=x) (y:=y) (c:=c) (d:=d) (u:=u) (v:=v)
 generalize (eqS x y && (eqP c d && (u == v)))=B at *
 unfold valV
 rw [run_neq_struct,run_equalIn_agg _ _ _ _ _ Zk Zk]
 simp [go_sem,Tryz.underlying203]
 simp only [if_res,h]
 cases B <;> rfl
def encB (x:Bd):List Value:=Bd.cs x
theorem neqBd_run (x y:Bd) (w:World):(binOp .neq 69 (.agg (encB x).toArray) (.agg (encB y).toArray)).run Tryz.prog w=.ok (.bool (!(eqB x y))) w:=by
 have h:(x.frm=y.frm∧x.tow=y.tow∧x.most=y.most∧x.bid=y.bid) ↔ eqB x y=true:=by unfold eqB;simp only [Bool.and_eq_true,beq_iff_eq]
 generalize eqB x y=B at *
 unfold encB
 simp only [Bd.cs]
 rw [run_neq_struct,run_equalIn_agg _ _ _ _ _ Zk Zk]
 simp [go_sem,Tryz.underlying69]
 simp only [if_res,h]
 cases B <;> rfl
theorem allEq_eqBs:∀ (l m:List Bd),Lib.allEq eqB l m=eqBs l m
 | [],[]=>rfl
 | [],_::_=>rfl
 | _::_,[]=>rfl
 | x::l,y::m=>by simp only [Lib.allEq,eqBs,allEq_eqBs l m]
instance:Inhabited Bd:=⟨⟨0,0,0,0⟩⟩
theorem bds_enc {w:World} {b o n c:Nat} {xs:List Bd} (h:BdsAt w (some ⟨b,o,none⟩) n c xs):∀ j,j<xs.length→∀ i v,(encB xs[j]!)[i]?=some v→w.cell? ⟨b,o +j * 4 +i,none⟩=some v:=by
 intro j hj i v hv
 obtain ⟨_,_,h3⟩:=h.at_ _ rfl
 obtain ⟨k0,k1,k2,k3⟩:=h3 j hj
 simp only at k0 k1 k2 k3
 have e:xs[j]! =xs.getD j ⟨0,0,0,0⟩:=by rw [getElem!_pos xs j hj,List.getD_eq_getElem?_getD,List.getElem?_eq_getElem hj];rfl
 have e2:xs.getD j ⟨0,0,0,0⟩=xs.getD j default:=by rw [List.getD_eq_getElem?_getD,List.getD_eq_getElem?_getD,List.getElem?_eq_getElem hj];rfl
 rw [e,e2] at hv
 unfold encB at hv
 simp only [Bd.cs] at hv
 match i,hv with
 | 0,hv=>rw [← hv];exact k0
 | 1,hv=>rw [← hv];exact k1
 | 2,hv=>rw [← hv];exact k2
 | 3,hv=>rw [← hv];exact k3
 | i +4,hv=>simp at hv
theorem equalBd (a1 a2:Option Addr) (n1 n2 c1 c2:Nat) (xs ys:List Bd) (w:World) (hx:BdsAt w a1 n1 c1 xs) (hy:BdsAt w a2 n2 c2 ys) (hx0:xs≠[]) (hy0:ys≠[]) :
 Calls Tryz.prog 192 #[.slice a1 n1 c1,.slice a2 n2 c2] w fun e w'=>e=.returned (.bool (eqBs xs ys))∧Below w.heap.size w w':=by
 have hsx:=hx.small
 have hsy:=hy.small
 obtain rfl:=hx.len
 obtain rfl:=hy.len
 match a1,hx with
 | none,hx=>exact absurd (hx.nil rfl).1 hx0
 | some ⟨b1,o1,s1⟩,hx =>
   match a2,hy with
   | none,hy=>exact absurd (hy.nil rfl).1 hy0
   | some ⟨b2,o2,s2⟩,hy =>
     obtain rfl:s1=none:=(hx.at_ _ rfl).1
     obtain rfl:s2=none:=(hy.at_ _ rfl).1
     refine (AnyQ.slices_Equal Tryz.equalBA 4 ?_ ?_ encB (fun _=>rfl) eqB ⟨neqBd_run,.agg _ Zk⟩ b1 o1 xs.length c1 b2 o2 ys.length c2 xs ys w (Nat.le_refl _) (Nat.le_refl _) (by omega) (by omega) (bds_enc hx) (bds_enc hy)).mono ?_
     ·intro w;kernel_rfl
     ·intro w;kernel_rfl
     ·rintro e w' ⟨rfl,q,rfl⟩
      rw [List.take_length,List.take_length,allEq_eqBs]
      exact ⟨rfl,belowN (Below.refl _ _)⟩
open Go.RowKit Go.Shelf
set_option maxHeartbeats 8000000
set_option maxRecDepth 100000
/-- What is known of a shelf. -/
structure DifOk (s:List Itm):Prop where
 len:s.length≤300
 ids:s.Pairwise fun x y=>x.id≠y.id
 rng:∀ x ∈ s,1≤x.id∧x.id≤1000000
 shd:∀ id y,sherdO s id=some y→y.id=id∧(3≤y.co∧y.co≤16)∧∀ x ∈ s,x.kd=2∨x.kd=3→x.sh=y.id→ -10000≤x.lo∧x.lo≤10000
/-- The list of Ids that is being made. -/
structure DfI (w wI W:World) (L1:Nat) (r:Value) (ds:List Int):Prop where
 row:W.ownsRow w.heap.size 3 1 r ds.length (ds.map (.int .i64))
 own:∀ k ∈ r.ownBlock.toList,k<L1∨wI.heap.size≤k
 low:Below w.heap.size wI W
 mid:∀ k,L1≤k→k<wI.heap.size→W.heap[k]?=wI.heap[k]?
theorem DfI.up {w wI W W':World} {L1:Nat} {r:Value} {ds:List Int} (h:DfI w wI W L1 r ds) (hw:w.heap.size≤wI.heap.size) (hb:Below W.heap.size W W'):DfI w wI W' L1 r ds:=by
 have hz:=h.low.size
 exact ⟨h.row.up hb (Nat.le_refl _),h.own,h.low.trans (hb.mono (by omega)),fun k h1 h2=>(hb.block k (by omega)).trans (h.mid k h1 h2)⟩
theorem DfI.app {w wI W W':World} {L1:Nat} {r r':Value} {ds:List Int} {x:Int} (h:DfI w wI W L1 r ds) (hw:w.heap.size≤wI.heap.size) (hr:W'.ownsRow w.heap.size 3 1 r' (ds.length +1) (ds.map (.int .i64) ++[.int .i64 x])) (hg:W.grownBy W' r.ownBlock) (hat:r'.ownBlock=r.ownBlock∨r'.ownBlock=some W.heap.size):DfI w wI W' L1 r' (ds ++[x]):=by
 have hz:=h.low.size
 have hb:=SL.row_bounds h.row
 have hc:SL.Chg r.ownBlock.toList W W':=.of_own hg (fun k hk=>by simp [hk])
 refine ⟨by simpa using hr,fun k hk=>?_,h.low.trans (hc.belowE_w (by omega) (fun k hk=>(hb k hk).1)),fun k h1 h2=>(hc.block k (by omega) (fun hk=>?_)).trans (h.mid k h1 h2)⟩
 ·rcases hat with e | e
  ·rw [e] at hk;exact h.own k hk
  ·rw [e] at hk;simp at hk;subst hk;right;omega
 ·rcases h.own k hk with h3 | h3 <;> omega
/-- A sherd of a row. -/
theorem srow {w:World} {base:Nat} {t:TypeId} {n G cap:Nat} {l:List Shd} (h:w.ownsRow base t 6 (.slice (some ⟨G,0,none⟩) n cap) n (scs l)) {i:Nat} (hi:i<l.length) :
 w.cell? ⟨G,i * 6,none⟩=some (.int .i64 (l.getD i default).id)∧w.cell? ⟨G,i * 6 +1,none⟩=some (.string (l.getD i default).wa)∧w.cell? ⟨G,i * 6 +2,none⟩=some (.int .i64 (l.getD i default).pit) ∧
  w.cell? ⟨G,i * 6 +3,none⟩=some (.int .i64 (l.getD i default).ly)∧w.cell? ⟨G,i * 6 +4,none⟩=some (.int .i64 (l.getD i default).co)∧w.cell? ⟨G,i * 6 +5,none⟩=some (.bool (l.getD i default).ft)∧G<w.heap.size:=by
 have g:=fun j hj=>flatS_get (f:=Shd.cs) (k:=6) (fun _=>rfl) l i j hi hj
 have hl:=h.1
 rw [scs_length] at hl
 have k:=fun (j:Nat) (hj:j<6) (u:Value) (hu:(Shd.cs (l.getD i default))[j]?=some u)=>(show w.cell? ⟨G,i * 6 +j,none⟩=some u by
  rw [h.cellAt (i * 6 +j) (by omega)]
  exact (g j hj).trans hu)
 exact ⟨k 0 (by omega) _ rfl,k 1 (by omega) _ rfl,k 2 (by omega) _ rfl,k 3 (by omega) _ rfl,k 4 (by omega) _ rfl,k 5 (by omega) _ rfl,(SL.row_bounds h G (by simp [Value.ownBlock])).2⟩
/-- The first of the sherds, as far as they are others. -/
def difK (s t:List Itm) (j:Nat):List Int:=(((sherdsL s).take j).filter (otherB s t)).map (·.id)
theorem difK_succ {s t:List Itm} {j:Nat} (hj:j<(sherdsL s).length):difK s t (j +1)=difK s t j ++(if otherB s t ((sherdsL s).getD j default)=true then [((sherdsL s).getD j default).id] else []):=by
 unfold difK
 rw [List.take_succ_eq_append_getElem hj,List.filter_append,List.map_append,List.getD_eq_getElem?_getD,List.getElem?_eq_getElem hj]
 congr 1
 simp only [Option.getD_some]
 by_cases h:otherB s t (sherdsL s)[j]=true <;> simp [h]
theorem own_at {w:World} {base:Nat} {e:TypeId} {size n cap:Nat} {a:Option Addr} {xs:List Value} (h:w.ownsRow base e size (.slice a n cap) n xs) (hn:0<n):∃ G,a=some ⟨G,0,none⟩:=by
 obtain ⟨_,⟨hv,h0⟩ | ⟨g,c,cur,hv,_⟩⟩:=h
 ·omega
 ·injection hv with h1 _ _
  exact ⟨g,h1⟩
theorem sto3_g {Fe:Nat→List Nat} {p q:Nat} {w':World} {M base n1 n2:Nat} {a b c co v1 v2 x:Value} {b1 b2:List Value} {t t2:TypeId} {K:World→Prop} (hx:x=.pointer (some ⟨M,0,none⟩)) (hM:base≤M) (hh:w'.heap[M]?=some (.cells #[a,b,c] t (0,0))) (r1:w'.ownsRow base t2 4 v1 n1 b1) (r2:w'.ownsRow base t2 4 v2 n2 b2)
 (e5:Fe p=v1.ownBlock.toList ++v2.ownBlock.toList) (e6:Fe q=[M]) (hd:∀ k ∈ Fe p,k ∉ Fe q)
 (hK:∀ (w1:World) (F:List Nat),SL.Chg (List.flatMap Fe [p,q]) w' w1→(∃ M',∃ u1,∃ u2,∃ F1 F2,(x=.pointer (some ⟨M',0,none⟩)∧F1=[])∧(∃ F3 F4,(base≤M'∧w1.heap[M']?=some (.cells #[co,u1,u2] t (0,0))∧F3=[M'])∧(∃ F5 F6,(w1.ownsRow base t2 4 u1 n1 b1∧F5=u1.ownBlock.toList)∧(w1.ownsRow base t2 4 u2 n2 b2∧F6=u2.ownBlock.toList)∧F4=F5 ++F6)∧F2=F3 ++F4)∧F=F1 ++F2)→(∀ k ∈ F,k ∈ List.flatMap Fe [p,q]∨w'.heap.size≤k∧k<w1.heap.size)→K w1) :
 K (((w'.setCell ⟨M,0,none⟩ co).setCell ⟨M,1,none⟩ v1).setCell ⟨M,2,none⟩ v2):=by
 obtain ⟨k1,k2⟩:=set3 hh co v1 v2
 have e:List.flatMap Fe [p,q]=v1.ownBlock.toList ++v2.ownBlock.toList ++[M]:=by simp [e5,e6]
 have m1:M ∉ v1.ownBlock.toList:=fun h=>hd M (by rw [e5];exact List.mem_append.2 (.inl h)) (by rw [e6];simp)
 have m2:M ∉ v2.ownBlock.toList:=fun h=>hd M (by rw [e5];exact List.mem_append.2 (.inr h)) (by rw [e6];simp)
 refine hK _ ([] ++([M] ++(v1.ownBlock.toList ++v2.ownBlock.toList))) (k2.monoW fun k hk=>by rw [e];simp at hk;subst hk;simp) ⟨M,v1,v2,_,_,⟨hx,rfl⟩,⟨_,_,⟨hM,k1,rfl⟩,⟨_,_,⟨SL.row_stab r1 fun k hk=>k2.block k (SL.row_bounds r1 k hk).2 (by simp;rintro rfl;exact m1 hk),rfl⟩,⟨SL.row_stab r2 fun k hk=>k2.block k (SL.row_bounds r2 k hk).2 (by simp;rintro rfl;exact m2 hk),rfl⟩,rfl⟩,rfl⟩,rfl⟩ ?_
 intro k hk
 left
 rw [e]
 simp at hk ⊢
 rcases hk with h | h | h
 ·exact .inr (.inr h)
 ·exact .inl h
 ·exact .inr (.inl h)
/-- Of a shelf's sherds each is found. -/
theorem DifOk.sh {s:List Itm} (h:DifOk s) {x:Shd} (hx:x ∈ sherdsL s):sherdO s x.id=some x:=by
 have hx2:x ∈ shdsL s:=(sortS_perm _).mem_iff.1 hx
 unfold shdsL at hx2
 obtain ⟨y,hy,rfl⟩:=List.mem_map.1 hx2
 obtain ⟨hy1,hy2⟩:=List.mem_filter.1 hy
 have:=sherdO_own h.ids hy1
 rw [if_pos (by simpa using hy2)] at this
 exact this
theorem sherds_len (s:List Itm):(sherdsL s).length≤s.length:=by
 unfold sherdsL
 rw [sortS_len]
 unfold shdsL
 rw [List.length_map]
 exact List.length_filter_le _ _
theorem difK_len (s t:List Itm) (j:Nat):(difK s t j).length≤s.length:=by
 unfold difK
 rw [List.length_map]
 exact Nat.le_trans (List.length_filter_le _ _) (Nat.le_trans Z8b (sherds_len s))
theorem ways_ne {co:Int} {ms:List Itm} (h:3≤co):waysB co ms≠[]:=by
 intro e
 have:=congrArg List.length e
 unfold waysB at this
 rw [List.length_append,sidesL_len] at this
 simp at this
 omega
theorem turns_ne {co:Int} {ms:List Itm} (h:3≤co):turnsB co ms≠[]:=by
 intro e
 have:=congrArg List.length e
 unfold turnsB at this
 rw [List.length_append,bendsL_len] at this
 simp at this
 omega
theorem bds_len {s:List Itm} {y:Shd} (h:s.length≤300) (hc:y.co≤16):(waysB y.co (keptL s 2 y.id)).length≤1000∧(turnsB y.co (keptL s 3 y.id)).length≤1000:=by
 have h2:(keptL s 2 y.id).length≤s.length:=List.length_filter_le _ _
 have h3:(keptL s 3 y.id).length≤s.length:=List.length_filter_le _ _
 unfold waysB turnsB
 rw [List.length_append,List.length_append,sidesL_len,bendsL_len,msB_len,msB_len]
 omega
/-- The Ids after so many of the two passes. -/
def difD (s t:List Itm) (q:Nat):List Int:=if q=0 then [] else if q=1 then difK s t (sherdsL s).length else difK s t (sherdsL s).length ++difK t s (sherdsL t).length
theorem difD_all (s t:List Itm):differL s t=ascOf (difD s t 2):=by
 unfold differL difD difK
 simp
theorem sdiffer_any (a:Option Addr) (n cap:Nat) (s:List Itm) (b:Option Addr) (m d:Nat) (t:List Itm) (w:World) (hs:ItmsAt w a n cap s) (ht:ItmsAt w b m d t) (hS:DifOk s) (hT:DifOk t) :
 Calls Tryz.prog 133 #[.slice a n cap,.slice b m d] w (RowPost w 3 1 (differL s t).length ((differL s t).map (.int .i64))):=by
 have hP1:=World.alloc_heap_new w (Obj.cells #[.slice a n cap,.slice b m d,.slice b m d,.slice a n cap] 200)
 have hB1:=one_alloc w (Obj.cells #[.slice a n cap,.slice b m d,.slice b m d,.slice a n cap] 200)
 have HP:=Lib.hid (show ∀ v w',Below w.heap.size w w'→w'.ownsRow w.heap.size 3 1 v (differL s t).length ((differL s t).map (.int .i64))→RowPost w 3 1 (differL s t).length ((differL s t).map (.int .i64)) (.returned v) w' from fun v w' h1 h2=>⟨v,rfl,h1,h2⟩)
 generalize RowPost w 3 1 (differL s t).length ((differL s t).map (.int .i64))=Post at *
 have hs1:=hs.below hB1
 have ht1:=ht.below hB1
 have Hs:=Lib.hid hS
 have Ht:=Lib.hid hT
 have zP:=(Array.getElem?_eq_some_iff.1 hP1).1
 clear hs ht hS hT
 go_enter Tryz.func133,Tryz.ntmps133
 go_wp2_with fail
 generalize w.alloc (Obj.cells #[.slice a n cap,.slice b m d,.slice b m d,.slice a n cap] 200)=W1 at *
 go_loopw [5,22] (fun r i wr=>∃ q:Nat,q≤2∧i=.int .i64 q∧wr.ownsRow W1.heap.size 3 1 r (difD s t q).length ((difD s t q).map (.int .i64))∧Below W1.heap.size W1 wr) (fun _ i _=>2 - (RowKit.intOf i).toNat)
 case atStart=>exact ⟨0,by omega,rfl,World.ownsRow_nil _ _ _ _,Below.refl _ _⟩
 case round =>
 obtain ⟨q,hq,hqi,hro,hB⟩:=hrel
 have hq3:q=0∨q=1∨q=2:=by omega
 have hs:=hs1
 have ht:=ht1
 rcases hq3 with rfl | rfl | rfl
 ·have hqv:_=Value.int .i64 0:=hqi
  subst hqv
  clear hqi hq
  have HD0:(difD s t 0).length≤1000:=by simp [difD]
  have c0:=(SL.cells_of ((hB.block w.heap.size zP).trans hP1)).1 0
  have c1:=(SL.cells_of ((hB.block w.heap.size zP).trans hP1)).1 1
  have c2:=(SL.cells_of ((hB.block w.heap.size zP).trans hP1)).1 2
  have c3:=(SL.cells_of ((hB.block w.heap.size zP).trans hP1)).1 3
  simp at c0 c1 c2 c3
  have zPw:=Nat.lt_of_lt_of_le zP hB.size
  have hbx:=World.alloc_heap_new wr (Obj.cells #[.slice a n cap,.slice b m d] 200)
  have hal:=one_alloc wr (Obj.cells #[.slice a n cap,.slice b m d] 200)
  have hSh:=ssherds_any a n cap s _ (hs.below (hB.ch2 hal)) Hs.out.len Hs.out.ids Hs.out.rng
  unfold RowPost at hSh
  have HR:=Lib.hid hro
  clear hro
  go_wp2_with (go_at_call 131;(with_reducible refine hSh.mono ?_);rintro e wI ⟨xv,rfl,hbI,hoX⟩;obtain ⟨xa,xc,rfl,_⟩:=owns_slice hoX)
  have HDn:=Lib.hid (show difD s t 1=difD s t 0 ++difK s t (sherdsL s).length by simp [difD])
  generalize difD s t 0=D0 at *
  have hBI:=(hB.ch2 hal).ch2 hbI
  have hbxI:=(hbI.block wr.heap.size (by simp)).trans hbx
  have hrI:=(HR.out.up hal (Nat.le_refl _)).up hbI (Nat.le_refl _)
  have hrB:=SL.row_bounds HR.out
  have hzI:=hbI.size
  rw [World.size_alloc] at hzI hoX
  have hzB:=hB.size
  have hlX:=Nat.le_trans (sherds_len s) Hs.out.len
  clear hbI hbx hal hSh HR c0 c1 c2 c3
  generalize wr.heap.size=L1 at *
  go_loopw [5,30] (fun r i wr=>∃ j:Nat,j≤(sherdsL s).length∧i=.int .i64 j∧DfI W1 wI wr L1 r (D0 ++difK s t j)) (fun _ i _=>(sherdsL s).length - (RowKit.intOf i).toNat)
  case atStart=>exact ⟨0,Nat.zero_le _,rfl,⟨by simpa [difK] using hrI,fun k hk=>.inl (hrB k hk).2,Below.refl _ _,fun _ _ _=>rfl⟩⟩
  case round =>
  clear hrI hrB
  obtain ⟨j,hj,rfl,hD⟩:=hrel
  have hnn:(0:Int)≤j:=by omega
  have hBw:=hBI.trans hD.low
  have hzw:=hD.low.size
  by_cases hlt:j<(sherdsL s).length
  ·have i1:(j:Int)<((sherdsL s).length:Int):=by omega
   obtain ⟨XG,rfl⟩:=own_at hoX (by omega)
   have hbX:=SL.row_bounds hoX
   have hoXw:=SL.row_stab hoX (fun k hk=>hD.mid k (by have:=(hbX k hk).1;omega) (hbX k hk).2)
   obtain ⟨x0,x1,x2,x3,x4,x5,xG⟩:=srow hoXw hlt
   have hbxw:=(hD.mid L1 (Nat.le_refl _) (by omega)).trans hbxI
   have HsS:=Hs.out.sh (x:=(sherdsL s).getD j default) Z89
   have Hsu:=Lib.hid (difK_succ (t:=t) hlt)
   have hdl:=difK_len s t j
   have hD0:D0.length≤1000:=HD0
   generalize (sherdsL s).getD j default=x at *
   have b0:=(SL.cells_of hbxw).1 0
   have b1:=(SL.cells_of hbxw).1 1
   simp at b0 b1
   have hal:=one_alloc wr (Obj.cells #[.int .i64 x.id,.string x.wa,.int .i64 x.pit,.int .i64 x.ly,.int .i64 x.co,.bool x.ft] 72)
   have hX:=World.alloc_heap_new wr (Obj.cells #[.int .i64 x.id,.string x.wa,.int .i64 x.pit,.int .i64 x.ly,.int .i64 x.co,.bool x.ft] 72)
   have hSd:=ssherd_any b m d t x.id _ (ht.below (hBw.ch2 hal))
   unfold ShdPost at hSd
   have HbX:=Lib.hid hbxw
   have HX:=Lib.hid hX
   have HD:=Lib.hid hD
   have zb:=(Array.getElem?_eq_some_iff.1 hbxw).1
   have zb2:=Nat.lt_of_lt_of_le zb hal.size
   obtain ⟨q0,q1,q2,q3,q4,q5,qf,ql⟩:=cell6 hX
   have bb0:=(hal.block L1 zb)
   have hbx2:=(hal.block L1 zb).trans hbxw
   have b2:=(SL.cells_of hbx2).1 0
   have b3:=(SL.cells_of hbx2).1 1
   simp at b2 b3
   clear hbxw hX hD hoXw bb0 hbX
   cases hO:sherdO t x.id with
   | none =>
     rw [hO] at hSd
     simp only [Option.getD_none,Option.isSome_none,Shd.v,Shd.cs,Shd.zero] at hSd
     have HO:=Lib.hid (show otherB s t x=true by unfold otherB;rw [hO])
     clear hO
     go_wp2_with (go_at_call 150;(with_reducible refine hSd.mono ?_);rintro e w2 ⟨rfl,hb2⟩)
     have hal2:=one_alloc w2 (Obj.cells #[.int .i64 0,.string ⟨#[]⟩,.int .i64 0,.int .i64 0,.int .i64 0,.bool false] 72)
     have hX3:=alKeep (o':=Obj.cells #[.int .i64 0,.string ⟨#[]⟩,.int .i64 0,.int .i64 0,.int .i64 0,.bool false] 72) ((hb2.block wr.heap.size (by simp)).trans HX.out)
     have hD3:=((HD.out.up hBI.size hal).up hBI.size hb2).up hBI.size hal2
     have hzX:=(Array.getElem?_eq_some_iff.1 hX3).1
     have hDn:=fun q=>hD3.up hBI.size (belowN (n:=q) (Below.refl _ _))
     have hXn:=fun q=>((belowN (n:=q) (Below.refl _ _):Below (w2.alloc (Obj.cells #[.int .i64 0,.string ⟨#[]⟩,.int .i64 0,.int .i64 0,.int .i64 0,.bool false] 72)).heap.size _ _).block _ hzX).trans hX3
     clear q0 q1 q2 q3 q4 q5 qf ql b2 b3
     go_quiet (fail)
     have hD4:=hDn nq
     have hX4:=hXn nq
     clear hDn hXn hD3 hX3 hzX
     generalize (w2.alloc (Obj.cells #[.int .i64 0,.string ⟨#[]⟩,.int .i64 0,.int .i64 0,.int .i64 0,.bool false] 72)).drewN nq=w4 at *
     exact Z8f
   | some z =>
     rw [hO] at hSd
     simp only [Option.getD_some,Option.isSome_some,Shd.v,Shd.cs] at hSd
     have Hz:=Lib.hid (Ht.out.shd x.id z hO)
     have Hx:=Lib.hid (Hs.out.shd x.id x HsS)
     have HO:=Lib.hid (show otherB s t x=(!(eqS x z && (eqP (valC s x.id) (valC t z.id) && (valU s x.id == valU t z.id))) || !(eqBs (waysB x.co (keptL s 2 x.id)) (waysB z.co (keptL t 2 z.id)) && eqBs (turnsB x.co (keptL s 3 x.id)) (turnsB z.co (keptL t 3 z.id)))) by unfold otherB;rw [hO])
     clear hO
     have hV1:=fun W (hb:Below W1.heap.size W1 W)=>svalues_any a n cap s x W (hs.below hb) (by have:=Hs.out.len;omega)
     have hV2:=fun W (hb:Below W1.heap.size W1 W)=>svalues_any b m d t z W (ht.below hb) (by have:=Ht.out.len;omega)
     have hne:=fun W=>neqV_run x z (valC s x.id) (valC t z.id) (valU s x.id) (valU t z.id) W
     generalize (eqS x z && (eqP (valC s x.id) (valC t z.id) && (valU s x.id == valU t z.id)))=B1 at *
     generalize valV x (valC s x.id) (valU s x.id)=V1 at *
     generalize valV z (valC t z.id) (valU t z.id)=V2 at *
     simp only [Shd.v,Shd.cs] at hV1 hV2
     go_wp2_with (go_at_call 150;(with_reducible refine hSd.mono ?_);rintro e w2 ⟨rfl,hb2⟩)
     have hal2:=one_alloc w2 (Obj.cells #[.int .i64 z.id,.string z.wa,.int .i64 z.pit,.int .i64 z.ly,.int .i64 z.co,.bool z.ft] 72)
     have hX3:=alKeep (o':=Obj.cells #[.int .i64 z.id,.string z.wa,.int .i64 z.pit,.int .i64 z.ly,.int .i64 z.co,.bool z.ft] 72) ((hb2.block wr.heap.size (by simp)).trans HX.out)
     have hZ3:=World.alloc_heap_new w2 (Obj.cells #[.int .i64 z.id,.string z.wa,.int .i64 z.pit,.int .i64 z.ly,.int .i64 z.co,.bool z.ft] 72)
     have hP3:=alKeep (o':=Obj.cells #[.int .i64 z.id,.string z.wa,.int .i64 z.pit,.int .i64 z.ly,.int .i64 z.co,.bool z.ft] 72) ((hb2.block L1 zb2).trans hbx2)
     have HD3:=Lib.hid (((HD.out.up hBI.size hal).up hBI.size hb2).up hBI.size hal2)
     have hB3:=((hBw.ch2 hal).ch2 hb2).ch2 hal2
     clear q0 q1 q2 q3 q4 q5 qf ql b0 b1 b2 b3 hSd hal hb2 hal2 hbx2 zb zb2 HD HX HbX
     generalize w2.alloc (Obj.cells #[.int .i64 z.id,.string z.wa,.int .i64 z.pit,.int .i64 z.ly,.int .i64 z.co,.bool z.ft] 72)=w3 at *
     generalize w2.heap.size=ZB at *
     generalize wr.heap.size=XB at *
     obtain ⟨q0,q1,q2,q3,q4,q5,qf,ql⟩:=cell6 hX3
     obtain ⟨r0,r1,r2,r3,r4,r5,rf,rl⟩:=cell6 hZ3
     have b0:=(SL.cells_of hP3).1 0
     have b1:=(SL.cells_of hP3).1 1
     simp at b0 b1
     have zb:=(Array.getElem?_eq_some_iff.1 hP3).1
     apply SLG.rule0 ?hm [] [42,43,44,45,46,47,48,49,50,51,52,53,54] [SLF.pq 42 [] _,SLF.pq 43 [0] _,SLF.pq 44 [1] _,SLF.pq 45 [2] _,SLF.pq 46 [2,3] _,SLF.pq 47 [2] _,SL.pu 48 [2,4,5] (.agg V1),SLF.pq 49 [2] _,SLF.pq 50 [2,7] _,SLF.pq 51 [2] _,SL.pu 52 [2,8,9] (.agg V2),SLF.pq 53 [2,6,10] _,SLF.pq 54 [2,11] _] [12] ?hck ?hkp (fun _=>[]) ?hin ?hdj ?hfr ?ob ?en2
     case hm=>kernel_rfl
     case hin=>exact SL.none_held rfl
     case hdj=>simp
     case hfr=>intro us;simp only [SL.frame,SL.put'];simp;exact rfl
     case ob =>
      exact Z85
     case hck=>kernel_rfl
     case hkp=>kernel_rfl
     intro us w7 Fs hG hu hbd hd
     simp [SL.Used,SLF.pq] at hu
     obtain ⟨h12,_⟩:=hu
     rw [h12]
     have hb7:=(hG.below':Below w3.heap.size w3 w7)
     have hX7:=(hb7.block XB ql).trans hX3
     have hZ7:=(hb7.block ZB rl).trans hZ3
     have hP7:=(hb7.block L1 zb).trans hP3
     have HD7:=Lib.hid (HD3.out.up hBI.size hb7)
     have hB7:=hB3.ch2 hb7
     clear hG hbd hd h12 hV1 hV2 hne b0 b1 zb q0 q1 q2 q3 q4 q5 qf ql r0 r1 r2 r3 r4 r5 rf rl hX3 hZ3 hP3 HD3 hB3 hb7
     cases B1 with
     | false =>
       have HO:=Lib.hid (show otherB s t x=true by rw [HO.out];rfl)
       obtain ⟨w4,rfl⟩:∃ w4,w4=w7:=⟨w7,rfl⟩
       have hX4:=hX7
       have hD4:=HD7.out
       clear hX7 hZ7 hP7 HD7
       exact Z8f
     | true =>
       have HO:=Lib.hid (HO.out.trans (Bool.false_or _))
       have hO1:=fun W (hb:Below W1.heap.size W1 W)=>soutline a n cap s x W (hs.below hb) Hs.out.len Hx.out.2.1 Hx.out.2.2
       have hO2:=fun W (hb:Below W1.heap.size W1 W)=>soutline b m d t z W (ht.below hb) Ht.out.len Hz.out.2.1 Hz.out.2.2
       have hWa:=ways_ne (ms:=keptL s 2 x.id) Hx.out.2.1.1
       have hTa:=turns_ne (ms:=keptL s 3 x.id) Hx.out.2.1.1
       have hWb:=ways_ne (ms:=keptL t 2 z.id) Hz.out.2.1.1
       have hTb:=turns_ne (ms:=keptL t 3 z.id) Hz.out.2.1.1
       have hla:=bds_len (s:=s) (y:=x) Hs.out.len Hx.out.2.1.2
       have hlb:=bds_len (s:=t) (y:=z) Ht.out.len Hz.out.2.1.2
       unfold OutPost at hO1 hO2
       generalize waysB x.co (keptL s 2 x.id)=WA at *
       generalize turnsB x.co (keptL s 3 x.id)=TA at *
       generalize waysB z.co (keptL t 2 z.id)=WB at *
       generalize turnsB z.co (keptL t 3 z.id)=TB at *
       simp only [Shd.v,Shd.cs] at hO1 hO2
       obtain ⟨q0,q1,q2,q3,q4,q5,qf,ql⟩:=cell6 hX7
       obtain ⟨r0,r1,r2,r3,r4,r5,rf,rl⟩:=cell6 hZ7
       have b0:=(SL.cells_of hP7).1 0
       have b1:=(SL.cells_of hP7).1 1
       simp at b0 b1
       have zb:=(Array.getElem?_eq_some_iff.1 hP7).1
       go_wp2_with fail
       apply SLG.rule0 ?hm [] [60,61,62,63,64,65,66,67,12,13] [SLF.pq 60 [] _,SLF.pq 61 [0] _,SLF.pq 62 [] _,SL.aw 63 [1,2] [] (fun p=>.ex fun v1:Value=>.ex fun v2:Value=>.sep (.pure (p=.agg #[.int .i64 x.co,v1,v2])) (.sep (.row w7.heap.size 69 4 v1 WA.length (bcs WA)) (.row w7.heap.size 69 4 v2 TA.length (bcs TA)))),SLF.pq 64 [] _,SLF.pq 65 [4] _,SLF.pq 66 [] _,SL.aw 67 [5,6] [] (fun p=>.ex fun v1:Value=>.ex fun v2:Value=>.sep (.pure (p=.agg #[.int .i64 z.co,v1,v2])) (.sep (.row w7.heap.size 69 4 v1 WB.length (bcs WB)) (.row w7.heap.size 69 4 v2 TB.length (bcs TB)))),SL.box 12 [] [] w7.heap.size 52 #[.int .i64 0,.slice none 0 0,.slice none 0 0],SL.box 13 [] [] w7.heap.size 52 #[.int .i64 0,.slice none 0 0,.slice none 0 0],SL.aw 12 [3,8] [3,8] (fun p=>.ex fun M:Nat=>.ex fun v1:Value=>.ex fun v2:Value=>.sep (.pure (p=.pointer (some ⟨M,0,none⟩))) (.sep (.blk w7.heap.size M 52 #[.int .i64 x.co,v1,v2]) (.sep (.row w7.heap.size 69 4 v1 WA.length (bcs WA)) (.row w7.heap.size 69 4 v2 TA.length (bcs TA))))),SL.aw 13 [7,9] [7,9] (fun p=>.ex fun M:Nat=>.ex fun v1:Value=>.ex fun v2:Value=>.sep (.pure (p=.pointer (some ⟨M,0,none⟩))) (.sep (.blk w7.heap.size M 52 #[.int .i64 z.co,v1,v2]) (.sep (.row w7.heap.size 69 4 v1 WB.length (bcs WB)) (.row w7.heap.size 69 4 v2 TB.length (bcs TB)))))] [10,11] ?hck ?hkp (fun _=>[]) ?hin ?hdj ?hfr ?ob ?en3
       case hm=>kernel_rfl
       case hin=>exact SL.none_held rfl
       case hdj=>simp
       case hfr=>intro us;simp only [SL.frame,SL.put'];simp;exact rfl
       case ob =>
        exact Z81
       case hck=>kernel_rfl
       case hkp=>kernel_rfl
       intro us2 w8 Fs2 hG hu hbd hd
       simp [SL.Used,SL.aw_sub] at hu
       obtain ⟨hu1,hu2⟩:=hu
       obtain ⟨M1,v1,v2,F1,F2,⟨e12,rfl⟩,⟨F3,F4,⟨_,hM1,rfl⟩,⟨F5,F6,⟨ra1,rfl⟩,⟨ra2,rfl⟩,rfl⟩,rfl⟩,_⟩:=SL.aw_out hu1
       obtain ⟨M2,v3,v4,G1,G2,⟨e13,rfl⟩,⟨G3,G4,⟨_,hM2,rfl⟩,⟨G5,G6,⟨rb1,rfl⟩,⟨rb2,rfl⟩,rfl⟩,rfl⟩,_⟩:=SL.aw_out hu2
       obtain ⟨wa1,wc1,rfl,_⟩:=owns_slice ra1
       obtain ⟨ta1,tc1,rfl,_⟩:=owns_slice ra2
       obtain ⟨wa2,wc2,rfl,_⟩:=owns_slice rb1
       obtain ⟨ta2,tc2,rfl,_⟩:=owns_slice rb2
       have hb8:Below w7.heap.size w7 w8:=hG.below'
       have hX8:=(hb8.block XB ql).trans hX7
       have HD8:=Lib.hid (HD7.out.up hBI.size hb8)
       rw [e12,e13]
       have kE1:=BdsAt.of_owns ra1 (by omega)
       have kE2:=BdsAt.of_owns ra2 (by omega)
       have kE3:=BdsAt.of_owns rb1 (by omega)
       have kE4:=BdsAt.of_owns rb2 (by omega)
       have hE1:=fun W (hb:Below w8.heap.size w8 W)=>equalBd _ _ _ _ _ _ WA WB W (kE1.below hb) (kE3.below hb) hWa hWb
       have hE2:=fun W (hb:Below w8.heap.size w8 W)=>equalBd _ _ _ _ _ _ TA TB W (kE2.below hb) (kE4.below hb) hTa hTb
       have hE0:=Below.refl w8.heap.size w8
       obtain ⟨m0,m1,m2,mf,ml⟩:=cell3s hM1
       obtain ⟨n0,n1,n2,nf,nl⟩:=cell3s hM2
       have HM1:=Lib.hid hM1
       have HM2:=Lib.hid hM2
       generalize eqBs WA WB=Q1 at *
       generalize eqBs TA TB=Q2 at *
       clear hG hbd hd hu1 hu2 e12 e13 ra1 ra2 rb1 rb2 hO1 hO2 hM1 hM2 b0 b1 zb q0 q1 q2 q3 q4 q5 qf ql r0 r1 r2 r3 r4 r5 rf rl hX7 hZ7 hP7 HD7 hb8 hWa hTa hWb hTb kE1 kE2 kE3 kE4
       cases Q1 with
       | false =>
         have HO:=Lib.hid (show otherB s t x=true by rw [HO.out];rfl)
         go_upto_region 13 with (go_at_call 192;(with_reducible refine (hE1 _ hE0).mono ?_);rintro e w4 ⟨rfl,hb9⟩)
         have hX4:=(hb9.block XB (Array.getElem?_eq_some_iff.1 hX8).1).trans hX8
         have hD4:=HD8.out.up hBI.size hb9
         clear hX8 HD8 hb9 hE0 hE1 hE2 m0 m1 m2 mf ml n0 n1 n2 nf nl
         exact Z8f
       | true =>
         cases Q2 with
         | false =>
           have HO:=Lib.hid (show otherB s t x=true by rw [HO.out];rfl)
           go_upto_region 13 with (first
            | (go_at_call 192;(with_reducible refine (hE1 _ hE0).mono ?_);rintro e w9 ⟨rfl,hb9⟩;obtain ⟨g0,g1,g2,gf,gl⟩:=cell3s ((hb9.block _ ml).trans HM1.out);obtain ⟨k0,k1,k2,kf,kl⟩:=cell3s ((hb9.block _ nl).trans HM2.out))
            | (go_at_call 192;(with_reducible refine (hE2 _ hb9).mono ?_);rintro e w4 ⟨rfl,hb10⟩;have hc9:=hb9.ch2 hb10))
           have hX4:=(hc9.block XB (Array.getElem?_eq_some_iff.1 hX8).1).trans hX8
           have hD4:=HD8.out.up hBI.size hc9
           clear hX8 HD8 hc9 hb9 hE0 hE1 hE2 m0 m1 m2 mf ml n0 n1 n2 nf nl g0 g1 g2 gf gl k0 k1 k2 kf kl
           exact Z8f
         | true =>
           have HO:=Lib.hid (show otherB s t x=false by rw [HO.out];rfl)
           exact Z87
  ·have hje:j=(sherdsL s).length:=by omega
   have i1:¬ (j:Int)<((sherdsL s).length:Int):=by omega
   have HQ:=Lib.hid (And.intro (show wr.ownsRow W1.heap.size 3 1 _ (difD s t 1).length ((difD s t 1).map (.int .i64)) by rw [HDn.out,← hje];exact hD.row) hBw)
   clear hje hlt hj hD hoX hbxI hBI hBw
   go_wp2_with fail
   go_roundw
   case rel=>exact ⟨1,by omega,by go_num,HQ.out.1,HQ.out.2⟩
   case measure=>simp [RowKit.intOf]
 ·have hqv:_=Value.int .i64 1:=hqi
  subst hqv
  clear hqi hq
  have HD0:(difD s t 1).length≤1000:=by
   have:=difK_len s t (sherdsL s).length
   have:=Hs.out.len
   simp [difD]
   omega
  have c0:=(SL.cells_of ((hB.block w.heap.size zP).trans hP1)).1 0
  have c1:=(SL.cells_of ((hB.block w.heap.size zP).trans hP1)).1 1
  have c2:=(SL.cells_of ((hB.block w.heap.size zP).trans hP1)).1 2
  have c3:=(SL.cells_of ((hB.block w.heap.size zP).trans hP1)).1 3
  simp at c0 c1 c2 c3
  have zPw:=Nat.lt_of_lt_of_le zP hB.size
  have hbx:=World.alloc_heap_new wr (Obj.cells #[.slice b m d,.slice a n cap] 200)
  have hal:=one_alloc wr (Obj.cells #[.slice b m d,.slice a n cap] 200)
  have hSh:=ssherds_any b m d t _ (ht.below (hB.ch2 hal)) Ht.out.len Ht.out.ids Ht.out.rng
  unfold RowPost at hSh
  have HR:=Lib.hid hro
  clear hro
  go_wp2_with (go_at_call 131;(with_reducible refine hSh.mono ?_);rintro e wI ⟨xv,rfl,hbI,hoX⟩;obtain ⟨xa,xc,rfl,_⟩:=owns_slice hoX)
  have HDn:=Lib.hid (show difD s t 2=difD s t 1 ++difK t s (sherdsL t).length by simp [difD])
  generalize difD s t 1=D0 at *
  have hBI:=(hB.ch2 hal).ch2 hbI
  have hbxI:=(hbI.block wr.heap.size (by simp)).trans hbx
  have hrI:=(HR.out.up hal (Nat.le_refl _)).up hbI (Nat.le_refl _)
  have hrB:=SL.row_bounds HR.out
  have hzI:=hbI.size
  rw [World.size_alloc] at hzI hoX
  have hzB:=hB.size
  have hlX:=Nat.le_trans (sherds_len t) Ht.out.len
  clear hbI hbx hal hSh HR c0 c1 c2 c3
  generalize wr.heap.size=L1 at *
  go_loopw [5,30] (fun r i wr=>∃ j:Nat,j≤(sherdsL t).length∧i=.int .i64 j∧DfI W1 wI wr L1 r (D0 ++difK t s j)) (fun _ i _=>(sherdsL t).length - (RowKit.intOf i).toNat)
  case atStart=>exact ⟨0,Nat.zero_le _,rfl,⟨by simpa [difK] using hrI,fun k hk=>.inl (hrB k hk).2,Below.refl _ _,fun _ _ _=>rfl⟩⟩
  case round =>
  clear hrI hrB
  obtain ⟨j,hj,rfl,hD⟩:=hrel
  have hnn:(0:Int)≤j:=by omega
  have hBw:=hBI.trans hD.low
  have hzw:=hD.low.size
  by_cases hlt:j<(sherdsL t).length
  ·have i1:(j:Int)<((sherdsL t).length:Int):=by omega
   obtain ⟨XG,rfl⟩:=own_at hoX (by omega)
   have hbX:=SL.row_bounds hoX
   have hoXw:=SL.row_stab hoX (fun k hk=>hD.mid k (by have:=(hbX k hk).1;omega) (hbX k hk).2)
   obtain ⟨x0,x1,x2,x3,x4,x5,xG⟩:=srow hoXw hlt
   have hbxw:=(hD.mid L1 (Nat.le_refl _) (by omega)).trans hbxI
   have HsS:=Ht.out.sh (x:=(sherdsL t).getD j default) Z89
   have Hsu:=Lib.hid (difK_succ (t:=s) hlt)
   have hdl:=difK_len t s j
   have hD0:D0.length≤1000:=HD0
   generalize (sherdsL t).getD j default=x at *
   have b0:=(SL.cells_of hbxw).1 0
   have b1:=(SL.cells_of hbxw).1 1
   simp at b0 b1
   have hal:=one_alloc wr (Obj.cells #[.int .i64 x.id,.string x.wa,.int .i64 x.pit,.int .i64 x.ly,.int .i64 x.co,.bool x.ft] 72)
   have hX:=World.alloc_heap_new wr (Obj.cells #[.int .i64 x.id,.string x.wa,.int .i64 x.pit,.int .i64 x.ly,.int .i64 x.co,.bool x.ft] 72)
   have hSd:=ssherd_any a n cap s x.id _ (hs.below (hBw.ch2 hal))
   unfold ShdPost at hSd
   have HbX:=Lib.hid hbxw
   have HX:=Lib.hid hX
   have HD:=Lib.hid hD
   have zb:=(Array.getElem?_eq_some_iff.1 hbxw).1
   have zb2:=Nat.lt_of_lt_of_le zb hal.size
   obtain ⟨q0,q1,q2,q3,q4,q5,qf,ql⟩:=cell6 hX
   have bb0:=(hal.block L1 zb)
   have hbx2:=(hal.block L1 zb).trans hbxw
   have b2:=(SL.cells_of hbx2).1 0
   have b3:=(SL.cells_of hbx2).1 1
   simp at b2 b3
   clear hbxw hX hD hoXw bb0 hbX
   cases hO:sherdO s x.id with
   | none =>
     rw [hO] at hSd
     simp only [Option.getD_none,Option.isSome_none,Shd.v,Shd.cs,Shd.zero] at hSd
     have HO:=Lib.hid (show otherB t s x=true by unfold otherB;rw [hO])
     clear hO
     go_wp2_with (go_at_call 150;(with_reducible refine hSd.mono ?_);rintro e w2 ⟨rfl,hb2⟩)
     have hal2:=one_alloc w2 (Obj.cells #[.int .i64 0,.string ⟨#[]⟩,.int .i64 0,.int .i64 0,.int .i64 0,.bool false] 72)
     have hX3:=alKeep (o':=Obj.cells #[.int .i64 0,.string ⟨#[]⟩,.int .i64 0,.int .i64 0,.int .i64 0,.bool false] 72) ((hb2.block wr.heap.size (by simp)).trans HX.out)
     have hD3:=((HD.out.up hBI.size hal).up hBI.size hb2).up hBI.size hal2
     have hzX:=(Array.getElem?_eq_some_iff.1 hX3).1
     have hDn:=fun q=>hD3.up hBI.size (belowN (n:=q) (Below.refl _ _))
     have hXn:=fun q=>((belowN (n:=q) (Below.refl _ _):Below (w2.alloc (Obj.cells #[.int .i64 0,.string ⟨#[]⟩,.int .i64 0,.int .i64 0,.int .i64 0,.bool false] 72)).heap.size _ _).block _ hzX).trans hX3
     clear q0 q1 q2 q3 q4 q5 qf ql b2 b3
     go_quiet (fail)
     have hD4:=hDn nq
     have hX4:=hXn nq
     clear hDn hXn hD3 hX3 hzX
     generalize (w2.alloc (Obj.cells #[.int .i64 0,.string ⟨#[]⟩,.int .i64 0,.int .i64 0,.int .i64 0,.bool false] 72)).drewN nq=w4 at *
     exact Z8e
   | some z =>
     rw [hO] at hSd
     simp only [Option.getD_some,Option.isSome_some,Shd.v,Shd.cs] at hSd
     have Hz:=Lib.hid (Hs.out.shd x.id z hO)
     have Hx:=Lib.hid (Ht.out.shd x.id x HsS)
     have HO:=Lib.hid (show otherB t s x=(!(eqS x z && (eqP (valC t x.id) (valC s z.id) && (valU t x.id == valU s z.id))) || !(eqBs (waysB x.co (keptL t 2 x.id)) (waysB z.co (keptL s 2 z.id)) && eqBs (turnsB x.co (keptL t 3 x.id)) (turnsB z.co (keptL s 3 z.id)))) by unfold otherB;rw [hO])
     clear hO
     have hV1:=fun W (hb:Below W1.heap.size W1 W)=>svalues_any b m d t x W (ht.below hb) (by have:=Ht.out.len;omega)
     have hV2:=fun W (hb:Below W1.heap.size W1 W)=>svalues_any a n cap s z W (hs.below hb) (by have:=Hs.out.len;omega)
     have hne:=fun W=>neqV_run x z (valC t x.id) (valC s z.id) (valU t x.id) (valU s z.id) W
     generalize (eqS x z && (eqP (valC t x.id) (valC s z.id) && (valU t x.id == valU s z.id)))=B1 at *
     generalize valV x (valC t x.id) (valU t x.id)=V1 at *
     generalize valV z (valC s z.id) (valU s z.id)=V2 at *
     simp only [Shd.v,Shd.cs] at hV1 hV2
     go_wp2_with (go_at_call 150;(with_reducible refine hSd.mono ?_);rintro e w2 ⟨rfl,hb2⟩)
     have hal2:=one_alloc w2 (Obj.cells #[.int .i64 z.id,.string z.wa,.int .i64 z.pit,.int .i64 z.ly,.int .i64 z.co,.bool z.ft] 72)
     have hX3:=alKeep (o':=Obj.cells #[.int .i64 z.id,.string z.wa,.int .i64 z.pit,.int .i64 z.ly,.int .i64 z.co,.bool z.ft] 72) ((hb2.block wr.heap.size (by simp)).trans HX.out)
     have hZ3:=World.alloc_heap_new w2 (Obj.cells #[.int .i64 z.id,.string z.wa,.int .i64 z.pit,.int .i64 z.ly,.int .i64 z.co,.bool z.ft] 72)
     have hP3:=alKeep (o':=Obj.cells #[.int .i64 z.id,.string z.wa,.int .i64 z.pit,.int .i64 z.ly,.int .i64 z.co,.bool z.ft] 72) ((hb2.block L1 zb2).trans hbx2)
     have HD3:=Lib.hid (((HD.out.up hBI.size hal).up hBI.size hb2).up hBI.size hal2)
     have hB3:=((hBw.ch2 hal).ch2 hb2).ch2 hal2
     clear q0 q1 q2 q3 q4 q5 qf ql b0 b1 b2 b3 hSd hal hb2 hal2 hbx2 zb zb2 HD HX HbX
     generalize w2.alloc (Obj.cells #[.int .i64 z.id,.string z.wa,.int .i64 z.pit,.int .i64 z.ly,.int .i64 z.co,.bool z.ft] 72)=w3 at *
     generalize w2.heap.size=ZB at *
     generalize wr.heap.size=XB at *
     obtain ⟨q0,q1,q2,q3,q4,q5,qf,ql⟩:=cell6 hX3
     obtain ⟨r0,r1,r2,r3,r4,r5,rf,rl⟩:=cell6 hZ3
     have b0:=(SL.cells_of hP3).1 0
     have b1:=(SL.cells_of hP3).1 1
     simp at b0 b1
     have zb:=(Array.getElem?_eq_some_iff.1 hP3).1
     apply SLG.rule0 ?hm [] [42,43,44,45,46,47,48,49,50,51,52,53,54] [SLF.pq 42 [] _,SLF.pq 43 [0] _,SLF.pq 44 [1] _,SLF.pq 45 [2] _,SLF.pq 46 [2,3] _,SLF.pq 47 [2] _,SL.pu 48 [2,4,5] (.agg V1),SLF.pq 49 [2] _,SLF.pq 50 [2,7] _,SLF.pq 51 [2] _,SL.pu 52 [2,8,9] (.agg V2),SLF.pq 53 [2,6,10] _,SLF.pq 54 [2,11] _] [12] ?hck ?hkp (fun _=>[]) ?hin ?hdj ?hfr ?ob ?en4
     case hm=>kernel_rfl
     case hin=>exact SL.none_held rfl
     case hdj=>simp
     case hfr=>intro us;simp only [SL.frame,SL.put'];simp;exact rfl
     case ob =>
      exact Z85
     case hck=>kernel_rfl
     case hkp=>kernel_rfl
     intro us w7 Fs hG hu hbd hd
     simp [SL.Used,SLF.pq] at hu
     obtain ⟨h12,_⟩:=hu
     rw [h12]
     have hb7:=(hG.below':Below w3.heap.size w3 w7)
     have hX7:=(hb7.block XB ql).trans hX3
     have hZ7:=(hb7.block ZB rl).trans hZ3
     have hP7:=(hb7.block L1 zb).trans hP3
     have HD7:=Lib.hid (HD3.out.up hBI.size hb7)
     have hB7:=hB3.ch2 hb7
     clear hG hbd hd h12 hV1 hV2 hne b0 b1 zb q0 q1 q2 q3 q4 q5 qf ql r0 r1 r2 r3 r4 r5 rf rl hX3 hZ3 hP3 HD3 hB3 hb7
     cases B1 with
     | false =>
       have HO:=Lib.hid (show otherB t s x=true by rw [HO.out];rfl)
       obtain ⟨w4,rfl⟩:∃ w4,w4=w7:=⟨w7,rfl⟩
       have hX4:=hX7
       have hD4:=HD7.out
       clear hX7 hZ7 hP7 HD7
       exact Z8e
     | true =>
       have HO:=Lib.hid (HO.out.trans (Bool.false_or _))
       have hO1:=fun W (hb:Below W1.heap.size W1 W)=>soutline b m d t x W (ht.below hb) Ht.out.len Hx.out.2.1 Hx.out.2.2
       have hO2:=fun W (hb:Below W1.heap.size W1 W)=>soutline a n cap s z W (hs.below hb) Hs.out.len Hz.out.2.1 Hz.out.2.2
       have hWa:=ways_ne (ms:=keptL t 2 x.id) Hx.out.2.1.1
       have hTa:=turns_ne (ms:=keptL t 3 x.id) Hx.out.2.1.1
       have hWb:=ways_ne (ms:=keptL s 2 z.id) Hz.out.2.1.1
       have hTb:=turns_ne (ms:=keptL s 3 z.id) Hz.out.2.1.1
       have hla:=bds_len (s:=t) (y:=x) Ht.out.len Hx.out.2.1.2
       have hlb:=bds_len (s:=s) (y:=z) Hs.out.len Hz.out.2.1.2
       unfold OutPost at hO1 hO2
       generalize waysB x.co (keptL t 2 x.id)=WA at *
       generalize turnsB x.co (keptL t 3 x.id)=TA at *
       generalize waysB z.co (keptL s 2 z.id)=WB at *
       generalize turnsB z.co (keptL s 3 z.id)=TB at *
       simp only [Shd.v,Shd.cs] at hO1 hO2
       obtain ⟨q0,q1,q2,q3,q4,q5,qf,ql⟩:=cell6 hX7
       obtain ⟨r0,r1,r2,r3,r4,r5,rf,rl⟩:=cell6 hZ7
       have b0:=(SL.cells_of hP7).1 0
       have b1:=(SL.cells_of hP7).1 1
       simp at b0 b1
       have zb:=(Array.getElem?_eq_some_iff.1 hP7).1
       go_wp2_with fail
       apply SLG.rule0 ?hm [] [60,61,62,63,64,65,66,67,12,13] [SLF.pq 60 [] _,SLF.pq 61 [0] _,SLF.pq 62 [] _,SL.aw 63 [1,2] [] (fun p=>.ex fun v1:Value=>.ex fun v2:Value=>.sep (.pure (p=.agg #[.int .i64 x.co,v1,v2])) (.sep (.row w7.heap.size 69 4 v1 WA.length (bcs WA)) (.row w7.heap.size 69 4 v2 TA.length (bcs TA)))),SLF.pq 64 [] _,SLF.pq 65 [4] _,SLF.pq 66 [] _,SL.aw 67 [5,6] [] (fun p=>.ex fun v1:Value=>.ex fun v2:Value=>.sep (.pure (p=.agg #[.int .i64 z.co,v1,v2])) (.sep (.row w7.heap.size 69 4 v1 WB.length (bcs WB)) (.row w7.heap.size 69 4 v2 TB.length (bcs TB)))),SL.box 12 [] [] w7.heap.size 52 #[.int .i64 0,.slice none 0 0,.slice none 0 0],SL.box 13 [] [] w7.heap.size 52 #[.int .i64 0,.slice none 0 0,.slice none 0 0],SL.aw 12 [3,8] [3,8] (fun p=>.ex fun M:Nat=>.ex fun v1:Value=>.ex fun v2:Value=>.sep (.pure (p=.pointer (some ⟨M,0,none⟩))) (.sep (.blk w7.heap.size M 52 #[.int .i64 x.co,v1,v2]) (.sep (.row w7.heap.size 69 4 v1 WA.length (bcs WA)) (.row w7.heap.size 69 4 v2 TA.length (bcs TA))))),SL.aw 13 [7,9] [7,9] (fun p=>.ex fun M:Nat=>.ex fun v1:Value=>.ex fun v2:Value=>.sep (.pure (p=.pointer (some ⟨M,0,none⟩))) (.sep (.blk w7.heap.size M 52 #[.int .i64 z.co,v1,v2]) (.sep (.row w7.heap.size 69 4 v1 WB.length (bcs WB)) (.row w7.heap.size 69 4 v2 TB.length (bcs TB)))))] [10,11] ?hck ?hkp (fun _=>[]) ?hin ?hdj ?hfr ?ob ?en5
       case hm=>kernel_rfl
       case hin=>exact SL.none_held rfl
       case hdj=>simp
       case hfr=>intro us;simp only [SL.frame,SL.put'];simp;exact rfl
       case ob =>
        exact Z81
       case hck=>kernel_rfl
       case hkp=>kernel_rfl
       intro us2 w8 Fs2 hG hu hbd hd
       simp [SL.Used,SL.aw_sub] at hu
       obtain ⟨hu1,hu2⟩:=hu
       obtain ⟨M1,v1,v2,F1,F2,⟨e12,rfl⟩,⟨F3,F4,⟨_,hM1,rfl⟩,⟨F5,F6,⟨ra1,rfl⟩,⟨ra2,rfl⟩,rfl⟩,rfl⟩,_⟩:=SL.aw_out hu1
       obtain ⟨M2,v3,v4,G1,G2,⟨e13,rfl⟩,⟨G3,G4,⟨_,hM2,rfl⟩,⟨G5,G6,⟨rb1,rfl⟩,⟨rb2,rfl⟩,rfl⟩,rfl⟩,_⟩:=SL.aw_out hu2
       obtain ⟨wa1,wc1,rfl,_⟩:=owns_slice ra1
       obtain ⟨ta1,tc1,rfl,_⟩:=owns_slice ra2
       obtain ⟨wa2,wc2,rfl,_⟩:=owns_slice rb1
       obtain ⟨ta2,tc2,rfl,_⟩:=owns_slice rb2
       have hb8:Below w7.heap.size w7 w8:=hG.below'
       have hX8:=(hb8.block XB ql).trans hX7
       have HD8:=Lib.hid (HD7.out.up hBI.size hb8)
       rw [e12,e13]
       have kE1:=BdsAt.of_owns ra1 (by omega)
       have kE2:=BdsAt.of_owns ra2 (by omega)
       have kE3:=BdsAt.of_owns rb1 (by omega)
       have kE4:=BdsAt.of_owns rb2 (by omega)
       have hE1:=fun W (hb:Below w8.heap.size w8 W)=>equalBd _ _ _ _ _ _ WA WB W (kE1.below hb) (kE3.below hb) hWa hWb
       have hE2:=fun W (hb:Below w8.heap.size w8 W)=>equalBd _ _ _ _ _ _ TA TB W (kE2.below hb) (kE4.below hb) hTa hTb
       have hE0:=Below.refl w8.heap.size w8
       obtain ⟨m0,m1,m2,mf,ml⟩:=cell3s hM1
       obtain ⟨n0,n1,n2,nf,nl⟩:=cell3s hM2
       have HM1:=Lib.hid hM1
       have HM2:=Lib.hid hM2
       generalize eqBs WA WB=Q1 at *
       generalize eqBs TA TB=Q2 at *
       clear hG hbd hd hu1 hu2 e12 e13 ra1 ra2 rb1 rb2 hO1 hO2 hM1 hM2 b0 b1 zb q0 q1 q2 q3 q4 q5 qf ql r0 r1 r2 r3 r4 r5 rf rl hX7 hZ7 hP7 HD7 hb8 hWa hTa hWb hTb kE1 kE2 kE3 kE4
       cases Q1 with
       | false =>
         have HO:=Lib.hid (show otherB t s x=true by rw [HO.out];rfl)
         go_upto_region 13 with (go_at_call 192;(with_reducible refine (hE1 _ hE0).mono ?_);rintro e w4 ⟨rfl,hb9⟩)
         have hX4:=(hb9.block XB (Array.getElem?_eq_some_iff.1 hX8).1).trans hX8
         have hD4:=HD8.out.up hBI.size hb9
         clear hX8 HD8 hb9 hE0 hE1 hE2 m0 m1 m2 mf ml n0 n1 n2 nf nl
         exact Z8e
       | true =>
         cases Q2 with
         | false =>
           have HO:=Lib.hid (show otherB t s x=true by rw [HO.out];rfl)
           go_upto_region 13 with (first
            | (go_at_call 192;(with_reducible refine (hE1 _ hE0).mono ?_);rintro e w9 ⟨rfl,hb9⟩;obtain ⟨g0,g1,g2,gf,gl⟩:=cell3s ((hb9.block _ ml).trans HM1.out);obtain ⟨k0,k1,k2,kf,kl⟩:=cell3s ((hb9.block _ nl).trans HM2.out))
            | (go_at_call 192;(with_reducible refine (hE2 _ hb9).mono ?_);rintro e w4 ⟨rfl,hb10⟩;have hc9:=hb9.ch2 hb10))
           have hX4:=(hc9.block XB (Array.getElem?_eq_some_iff.1 hX8).1).trans hX8
           have hD4:=HD8.out.up hBI.size hc9
           clear hX8 HD8 hc9 hb9 hE0 hE1 hE2 m0 m1 m2 mf ml n0 n1 n2 nf nl g0 g1 g2 gf gl k0 k1 k2 kf kl
           exact Z8e
         | true =>
           have HO:=Lib.hid (show otherB t s x=false by rw [HO.out];rfl)
           exact Z87
  ·have hje:j=(sherdsL t).length:=by omega
   have i1:¬ (j:Int)<((sherdsL t).length:Int):=by omega
   have HQ:=Lib.hid (And.intro (show wr.ownsRow W1.heap.size 3 1 _ (difD s t 2).length ((difD s t 2).map (.int .i64)) by rw [HDn.out,← hje];exact hD.row) hBw)
   clear hje hlt hj hD hoX hbxI hBI hBw
   go_wp2_with fail
   go_roundw
   case rel=>exact ⟨2,by omega,by go_num,HQ.out.1,HQ.out.2⟩
   case measure=>simp [RowKit.intOf]
 ·have hqv:_=Value.int .i64 2:=hqi
  subst hqv
  clear hqi hq
  have hl2:(difD s t 2).length≤100000:=by
   have:=difK_len s t (sherdsL s).length
   have:=difK_len t s (sherdsL t).length
   have:=Hs.out.len
   have:=Ht.out.len
   simp [difD]
   omega
  rw [difD_all s t] at HP
  generalize difD s t 2=D2 at *
  obtain ⟨ra,rc,rfl,_⟩:=owns_slice hro
  have hU:=sunique_any ra _ rc D2 wr (IntsAt.of_owns hro (by omega)) hl2
  unfold RowPost at hU
  have hz1:=hB1.size
  have hz2:=hB.size
  have HB:=Lib.hid (hB1.ch2 hB)
  clear hro hB
  go_wp2_with (go_at_call 107;(with_reducible refine hU.mono ?_);rintro e w4 ⟨v4,rfl,hb4,ho4⟩)
  exact HP.out _ _ (HB.out.ch2 hb4) (SL.row_base ho4 (by omega))
theorem dif_ok {l:List Itm} (h:CatOk l) (day:Int):DifOk (countL l day) where
 len:=Nat.le_trans (countL_len l day) h.few
 ids:=countL_ids h.ids day
 rng:=fun x hx=>by
  have:=itemB_id (h.item x (mem_count.1 hx).1)
  omega
 shd:=fun id y hy=>by
  obtain ⟨k1,k2,k3,k4⟩:=kept_ok h hy
  refine ⟨k2,k1,fun x hx hk hs=>?_⟩
  rw [k2] at hs
  rcases hk with hk | hk
  ·exact (k3 x (kept_mem.2 ⟨hx,hk,hs⟩)).lo
  ·exact (k4 x (kept_mem.2 ⟨hx,hk,hs⟩)).lo
theorem sChanged_any (a:Option Addr) (n cap:Nat) (l:List Itm) (fr tw:Int) (w:World) (h:ItmsAt w a n cap l) (hcap:l.length≤cap) :
 Calls Tryz.prog 67 #[.slice a n cap,.int .i64 fr,.int .i64 tw] w (IntE w (chkI l).2 (changedL l fr tw)):=by
 have hO1:=fun W hi=>sopened_any a n cap l fr W hi hcap
 have hO2:=fun W hi=>sopened_any a n cap l tw W hi hcap
 unfold RowE at hO1 hO2
 have hw:=h.wide
 by_cases h0:(chkI l).2=0
 ·have hc:=chk_ok.1 h0
  have h1:=dif_ok hc fr
  have h2:=dif_ok hc tw
  have e1:cntL l fr=countL l fr:=by unfold cntL;rw [if_pos h0]
  have e2:cntL l tw=countL l tw:=by unfold cntL;rw [if_pos h0]
  have e3:changedL l fr tw=differL (countL l fr) (countL l tw):=by unfold changedL;rw [if_pos h0]
  have hw1:=wides hw (fun x (hx:x ∈ countL l fr)=>(countL_sub hx).1)
  have hw2:=wides hw (fun x (hx:x ∈ countL l tw)=>(countL_sub hx).1)
  rw [h0,e1] at hO1
  rw [h0,e2] at hO2
  rw [e3,h0]
  have hl1:=h1.len
  have hl2:=h2.len
  generalize countL l fr=S at *
  generalize countL l tw=T at *
  have hD:=fun W a b c d (hi:ItmsAt W a S.length b S) (hj:ItmsAt W c T.length d T)=>sdiffer_any a _ b S c _ d T W hi hj h1 h2
  unfold RowPost at hD
  have HP:=Lib.hid (show ∀ v w',Below w.heap.size w w'→w'.ownsRow w.heap.size 3 1 v (differL S T).length ((differL S T).map (.int .i64))→IntE w 0 (differL S T) (.returned (.tuple #[v,.int .i64 0])) w' from fun v w' k1 k2=>⟨v,rfl,k1,k2⟩)
  generalize IntE w 0 (differL S T)=Post at *
  generalize differL S T=D at *
  clear h1 h2 e1 e2 e3 hc h0 hw
  go_enter Tryz.func67,Tryz.ntmps67
  have tok1:True:=trivial
  go_wp2_with (first
   | (go_at_call 130;clear tok1;(with_reducible refine (hO1 _ h).mono ?_);rintro e w2 ⟨v2,rfl,hb2,ho2⟩;obtain ⟨a2,c2,rfl,_⟩:=owns_slice ho2;have hi2:=ItmsAt.of_owns ho2 (by omega) hw1;have h3:=h.below hb2)
   | (go_at_call 130;(with_reducible refine (hO2 _ h3).mono ?_);rintro e w3 ⟨v3,rfl,hb3,ho3⟩;obtain ⟨a3,c3,rfl,_⟩:=owns_slice ho3;have hi3:=ItmsAt.of_owns ho3 (by omega) hw2;have hi4:=hi2.below hb3)
   | (go_at_call 133;(with_reducible refine (hD _ _ _ _ _ hi4 hi3).mono ?_);rintro e w4 ⟨v4,rfl,hb4,ho4⟩))
  have hB:=hb2.ch2 hb3
  exact HP.out _ _ (hB.ch2 hb4) (SL.row_base ho4 hB.size)
 ·have e3:changedL l fr tw=[]:=by unfold changedL;rw [if_neg h0]
  rw [e3]
  have HP:=Lib.hid (show ∀ w',Below w.heap.size w w'→IntE w (chkI l).2 [] (.returned (.tuple #[.slice none 0 0,.int .i64 (chkI l).2])) w' from fun w' k1=>⟨_,rfl,k1,World.ownsRow_nil _ _ _ _⟩)
  generalize IntE w (chkI l).2 []=Post at *
  generalize (chkI l).2=E at *
  have e2:(E != 0)=true:=by simpa using h0
  clear h0 e3
  go_enter Tryz.func67,Tryz.ntmps67
  go_wp2_with (go_at_call 130;(with_reducible refine (hO1 _ h).mono ?_);rintro e w2 ⟨v2,rfl,hb2,ho2⟩;obtain ⟨a2,c2,rfl,_⟩:=owns_slice ho2)
  exact HP.out _ hb2
open Go
theorem early_take {l:List Itm} (day:Int) (h:l.Pairwise fun x y=>x.kn≤y.kn):∃ k,earlyL l day=l.take k:=by
 induction l with
 | nil=>exact ⟨0,rfl⟩
 | cons x l ih =>
   rw [List.pairwise_cons] at h
   obtain ⟨k,e⟩:=ih h.2
   unfold earlyL at e ⊢
   by_cases hx:x.kn≤day
   ·exact ⟨k +1,by rw [List.filter_cons,if_pos (by simpa using hx),e];rfl⟩
   ·refine ⟨0,?_⟩
    rw [List.take_zero,List.filter_eq_nil_iff]
    intro y hy
    rcases List.mem_cons.1 hy with rfl | hy
    ·simpa using hx
    ·have:=h.1 y hy
     simp
     omega
theorem early_ok {l:List Itm} (h:CatOk l) (day:Int):CatOk (earlyL l day):=by
 obtain ⟨k,e⟩:=early_take day h.days
 rw [e]
 exact h.take k
theorem early_early (l:List Itm) (day:Int):earlyL (earlyL l day) day=earlyL l day:=by
 unfold earlyL
 rw [List.filter_filter]
 exact List.filter_congr fun x _=>by simp
theorem count_early (l:List Itm) (day:Int):countL (earlyL l day) day=countL l day:=by
 unfold countL
 rw [early_early]
structure KnownAs (l e:List Itm) (day:Int):Prop where
 c:countL e day=countL l day
 k1:(chkI l).2=0
 k2:(chkI e).2=0
theorem known_as {l:List Itm} (h:CatOk l) (day:Int):KnownAs l (earlyL l day) day:=⟨count_early l day,chk_ok.2 h,chk_ok.2 (early_ok h day)⟩
theorem KnownAs.lookE {l e:List Itm} {day:Int} (h:KnownAs l e day) (id:Int):lookE e day id=lookE l day id:=by
 unfold Proofs.YtelkcohhagblaaaGreat.lookE
 rw [h.c,h.k1,h.k2]
theorem KnownAs.lookS {l e:List Itm} {day:Int} (h:KnownAs l e day) (id:Int):lookS e day id=lookS l day id:=by
 unfold Proofs.YtelkcohhagblaaaGreat.lookS
 rw [h.c]
theorem KnownAs.wayB {l e:List Itm} {day:Int} (h:KnownAs l e day) (id:Int):wayB e day id=wayB l day id:=by
 unfold Proofs.YtelkcohhagblaaaGreat.wayB
 rw [h.lookS,h.c]
theorem KnownAs.turnB {l e:List Itm} {day:Int} (h:KnownAs l e day) (id:Int):turnB e day id=turnB l day id:=by
 unfold Proofs.YtelkcohhagblaaaGreat.turnB
 rw [h.lookS,h.c]
theorem KnownAs.wayP {l e:List Itm} {day:Int} (h:KnownAs l e day) (id:Int):wayP e day id=wayP l day id:=by
 unfold Proofs.YtelkcohhagblaaaGreat.wayP
 rw [h.lookS]
theorem KnownAs.wayE {l e:List Itm} {day:Int} (h:KnownAs l e day) (id a b:Int):wayE e day id a b=wayE l day id a b:=by
 unfold Proofs.YtelkcohhagblaaaGreat.wayE
 rw [h.lookE,h.lookS,h.wayB,h.wayP]
theorem KnownAs.wayK {l e:List Itm} {day:Int} (h:KnownAs l e day) (id a b:Int):wayK e day id a b=wayK l day id a b:=by
 unfold Proofs.YtelkcohhagblaaaGreat.wayK
 rw [h.wayE,h.wayB,h.wayP]
theorem KnownAs.wayLo {l e:List Itm} {day:Int} (h:KnownAs l e day) (id a b:Int):wayLo e day id a b=wayLo l day id a b:=by
 unfold Proofs.YtelkcohhagblaaaGreat.wayLo
 rw [h.wayK,h.wayB,h.wayP]
theorem KnownAs.wayHi {l e:List Itm} {day:Int} (h:KnownAs l e day) (id a b:Int):wayHi e day id a b=wayHi l day id a b:=by
 unfold Proofs.YtelkcohhagblaaaGreat.wayHi
 rw [h.wayK,h.wayB,h.wayP]
theorem KnownAs.colE {l e:List Itm} {day:Int} (h:KnownAs l e day) (id:Int):colE e day id=colE l day id:=by
 unfold Proofs.YtelkcohhagblaaaGreat.colE
 rw [h.lookE,h.c]
theorem KnownAs.colR {l e:List Itm} {day:Int} (h:KnownAs l e day) (id:Int):colR e day id=colR l day id:=by
 unfold Proofs.YtelkcohhagblaaaGreat.colR
 rw [h.colE,h.c]
theorem eqBs_refl (l:List Bd):eqBs l l=true:=eqBs_iff.2 rfl
/-- No sherd of a shelf is another in the shelf itself. -/
theorem other_self {s:List Itm} {x:Shd} (h:sherdO s x.id=some x):otherB s s x=false:=by
 unfold otherB
 rw [h]
 simp only
 rw [eqS_iff.2 rfl,eqP_iff.2 rfl,eqBs_refl,eqBs_refl]
 simp
theorem differ_self {s:List Itm} (h:∀ x ∈ sherdsL s,sherdO s x.id=some x):differL s s=[]:=by
 unfold differL
 have e:(sherdsL s).filter (otherB s s)=[]:=List.filter_eq_nil_iff.2 fun x hx=>by rw [other_self (h x hx)];simp
 rw [e]
 rfl
/-- An item became known between two days. -/
def betweenB (l:List Itm) (a b:Int):Bool:=l.any fun x=>decide (min a b<x.kn) && decide (x.kn≤max a b)
theorem count_same {l:List Itm} {a b:Int} (h:betweenB l a b=false):countL l a=countL l b:=by
 unfold countL
 have e:earlyL l a=earlyL l b:=by
  unfold earlyL
  refine List.filter_congr fun x hx=>?_
  unfold betweenB at h
  rw [List.any_eq_false] at h
  have:=h x hx
  simp only [Bool.and_eq_true,decide_eq_true_eq,not_and] at this
  rw [decide_eq_decide]
  omega
 rw [e]
open Go.RowKit Go.Shelf
set_option maxHeartbeats 8000000
set_option maxRecDepth 100000
theorem r2sameO (co:Int) (a1 a2 a3 a4:Option Addr) (n1 n2 n3 n4 c1 c2 c3 c4:Nat) (ws ts:List Bd) (w:World) (h1:BdsAt w a1 n1 c1 ws) (h2:BdsAt w a2 n2 c2 ts) (h3:BdsAt w a3 n3 c3 ws) (h4:BdsAt w a4 n4 c4 ts) :
 Calls Tryz.prog 38 #[.agg #[.int .i64 co,.slice a1 n1 c1,.slice a2 n2 c2],.agg #[.int .i64 co,.slice a3 n3 c3,.slice a4 n4 c4]] w fun e w'=>e=.returned (.bool true)∧Below w.heap.size w w':=by
 have hB:=(one_alloc w (Obj.cells #[.int .i64 co,.slice a1 n1 c1,.slice a2 n2 c2] 52)).ch2 (one_alloc _ (Obj.cells #[.int .i64 co,.slice a3 n3 c3,.slice a4 n4 c4] 52))
 have k1:=alKeep (o':=Obj.cells #[.int .i64 co,.slice a3 n3 c3,.slice a4 n4 c4] 52) (World.alloc_heap_new w (Obj.cells #[.int .i64 co,.slice a1 n1 c1,.slice a2 n2 c2] 52))
 have k2:=World.alloc_heap_new (w.alloc (Obj.cells #[.int .i64 co,.slice a1 n1 c1,.slice a2 n2 c2] 52)) (Obj.cells #[.int .i64 co,.slice a3 n3 c3,.slice a4 n4 c4] 52)
 rw [World.size_alloc] at k2
 have hS1:=fun W (hb:Below w.heap.size w W)=>r2sameB a1 a3 n1 n3 c1 c3 ws W (h1.below hb) (h3.below hb)
 have hS2:=fun W (hb:Below w.heap.size w W)=>r2sameB a2 a4 n2 n4 c2 c4 ts W (h2.below hb) (h4.below hb)
 obtain ⟨x0,x1,x2,xf,xl⟩:=cell3s k1
 obtain ⟨y0,y1,y2,yf,yl⟩:=cell3s k2
 have K1:=Lib.hid k1
 have K2:=Lib.hid k2
 have tok1:True:=trivial
 clear k1 k2 h1 h2 h3 h4
 go_enter Tryz.func38,Tryz.ntmps38
 go_wp2_with (first
  | (go_at_call 43;clear tok1;(with_reducible refine (hS1 _ hB).mono ?_);rintro e w2 ⟨rfl,hb2⟩;have hB2:=hB.ch2 hb2;obtain ⟨z0,z1,z2,zf,zl⟩:=cell3s ((hb2.block _ xl).trans K1.out);obtain ⟨u0,u1,u2,uf,ul⟩:=cell3s ((hb2.block _ yl).trans K2.out))
  | (go_at_call 43;(with_reducible refine (hS2 _ hB2).mono ?_);rintro e w3 ⟨rfl,hb3⟩))
 go_ret
 exact ⟨rfl,hB2.ch2 hb3⟩
theorem neqS_run (x y z u:Int) (w:World):(binOp .neq 43 (.agg #[.int .i64 x,.int .i64 y,.int .i64 z,.int .i64 u]) (.agg #[.int .i64 x,.int .i64 y,.int .i64 z,.int .i64 u])).run Tryz.prog w=.ok (.bool false) w:=by
 rw [run_neq_struct,run_equalIn_agg _ _ _ _ _ Zk Zk]
 simp [go_sem,Tryz.underlying43]
theorem outW_len (l:List Itm) (day id:Int):(outW l day id).length≤400:=by
 unfold outW
 split
 ·rename_i h
  exact chk_len (look_ok h).ways
 ·simp
theorem outT_len (l:List Itm) (day id:Int):(outT l day id).length≤400:=by
 unfold outT
 split
 ·rename_i h
  exact chk_len (look_ok h).turns
 ·simp
theorem early_succ {l:List Itm} {day:Int} {k:Nat} (hk:k<l.length):earlyL (l.take (k +1)) day=earlyL (l.take k) day ++(if (l.getD k default).kn≤day then [l.getD k default] else []):=by
 unfold earlyL
 rw [List.take_succ_eq_append_getElem hk,List.filter_append,List.getD_eq_getElem?_getD,List.getElem?_eq_getElem hk]
 congr 1
 by_cases h:l[k].kn≤day <;> simp [h]
theorem between_succ {l:List Itm} {a b:Int} {k:Nat} (hk:k<l.length):betweenB (l.take (k +1)) a b=(betweenB (l.take k) a b || (decide (min a b<(l.getD k default).kn) && decide ((l.getD k default).kn≤max a b))):=by
 unfold betweenB
 rw [List.take_succ_eq_append_getElem hk,List.any_append,List.getD_eq_getElem?_getD,List.getElem?_eq_getElem hk]
 simp
theorem lknown (a:Option Addr) (n cap:Nat) (l:List Itm) (day id fr tw lt:Int) (w:World) (h:ItmsAt w a n cap l) (hcap:l.length≤cap) :
 Calls Tryz.prog 15 #[.slice a n cap,.int .i64 day,.int .i64 id,.int .i64 fr,.int .i64 tw,.int .i64 lt] w fun e w'=>e=.returned (.bool true)∧Below w.heap.size w w':=by
 have hSh:=fun W=>lshelved W
 have hFe:=lfew 25 a n cap l w h (by omega)
 have h25:((25:Nat):Int)=25:=rfl
 rw [h25] at hFe
 have hCh:=fun W (h1:ItmsAt W a n cap l)=>sCheck_any a n cap l W h1 hcap (fun y hy w2=>sCheckItem_any y w2 (h.wide y hy))
 unfold PairI at hCh
 have hlen:=fun (hF:fewB l 25=true)=>fewB_len hF
 generalize fewB l 25=F at *
 cases F with
 | false =>
   clear hlen hCh
   go_enter Tryz.func15,Tryz.ntmps15
   go_wp2_with (first
    | (go_at_call 18;(with_reducible refine hFe.mono ?_);rintro e w1 ⟨rfl,hb1⟩)
    | (go_at_call 20;(with_reducible refine (hSh _).mono ?_);rintro e w2 ⟨rfl,hb2⟩))
   go_ret
   exact ⟨rfl,hb1.ch2 hb2⟩
 | true =>
   have hl25:=hlen rfl
   clear hlen
   generalize (chkI l).1=C1 at *
   by_cases h0:(chkI l).2=0
   ·have hcat:=chk_ok.1 h0
    have hKA:=known_as hcat day
    rw [h0] at hCh
    have Hl:=Lib.hid h.len
    have hwd:=h.wide
    have hel:∀ k,(earlyL (l.take k) day).length≤25:=fun k=>Nat.le_trans (List.length_filter_le _ _) Z8b
    have HEl:=Lib.hid hel
    have H0:=Lib.hid h0
    have HKA:=Lib.hid hKA
    have Hcat:=Lib.hid hcat
    clear h0 hcat hKA hel
    go_enter Tryz.func15,Tryz.ntmps15
    go_wp2_with (first
     | (go_at_call 18;(with_reducible refine hFe.mono ?_);rintro e w1 ⟨rfl,hb1⟩)
     | (go_at_call 21;(with_reducible refine (hCh _ (h.below hb1)).mono ?_);rintro e wA ⟨rfl,hb2⟩))
    have hBA:=hb1.ch2 hb2
    clear hb1 hb2 hCh hFe
    go_loopw [15,16,17] (fun r bt i wr=>∃ k:Nat,k≤l.length∧i=.int .i64 k∧wr.ownsRow wA.heap.size 24 16 r (earlyL (l.take k) day).length (ics (earlyL (l.take k) day))∧bt=.bool (betweenB (l.take k) day lt)∧Below wA.heap.size wA wr) (fun _ _ i _=>l.length - (RowKit.intOf i).toNat)
    case atStart=>exact ⟨0,Nat.zero_le _,rfl,World.ownsRow_nil _ _ _ _,rfl,Below.refl _ _⟩
    case round =>
    obtain ⟨k,hk,rfl,hro,hbt,hB⟩:=hrel
    have hnn:(0:Int)≤k:=by omega
    by_cases hlt:k<l.length
    ·have i1:(k:Int)<(n:Int):=by rw [Hl.out];omega
     obtain ⟨ab,ao,rfl,habl,hdc⟩:=(h.below (hBA.ch2 hB)).get hlt
     have Hes:=Lib.hid (early_succ (day:=day) hlt)
     have Hbs:=Lib.hid (between_succ (a:=day) (b:=lt) hlt)
     have hln:=HEl.out k
     have hbv:=hbt
     generalize betweenB (l.take k) day lt=B0 at *
     subst hbv
     clear hbt
     generalize earlyL (l.take k) day=L at *
     generalize hxx:l.getD k default=x at *
     have Hx:=Lib.hid hxx
     clear hxx
     obtain ⟨d0,d1,d2,d3,d4,d5,d6,d7,d8,d9,d10,d11,d12,d13,d14,d15⟩:=hdc
     obtain ⟨va,vc,rfl,_⟩:=owns_slice hro
     have HR:=Lib.hid hro
     have HB:=Lib.hid hB
     clear hro hB
     cases B0 with
     | true =>
       have Hb:Hid (betweenB (l.take (k +1)) day lt=true):=Lib.hid (by rw [Hbs.out];rfl)
       exact Z82
     | false =>
       cases hc1:decide (min day lt<x.kn) with
       | false =>
         have Hb:Hid (betweenB (l.take (k +1)) day lt=false):=Lib.hid (by rw [Hbs.out,hc1];rfl)
         exact Z82
       | true =>
         cases hc2:decide (x.kn≤max day lt) with
         | false =>
           have Hb:Hid (betweenB (l.take (k +1)) day lt=false):=Lib.hid (by rw [Hbs.out,hc1,hc2];rfl)
           exact Z82
         | true =>
           have Hb:Hid (betweenB (l.take (k +1)) day lt=true):=Lib.hid (by rw [Hbs.out,hc1,hc2];rfl)
           exact Z82
    ·have hke:l.take k=l:=List.take_of_length_le (by omega)
     rw [hke] at hro hbt
     subst hbt
     have i1:¬ (k:Int)<(n:Int):=by rw [Hl.out];omega
     have hel:=HEl.out l.length
     rw [List.take_length] at hel
     obtain ⟨ea,ec,rfl,_⟩:=owns_slice hro
     have hec:=row_cap hro
     have hie:=ItmsAt.of_owns hro (by omega) (fun y hy=>hwd y (List.mem_filter.1 hy).1)
     clear hro hke hlt hk
     have KA:=HKA.out
     have oc:outC (earlyL l day) day id=outC l day id:=by unfold outC;rw [KA.lookE,KA.lookS]
     have ow:outW (earlyL l day) day id=outW l day id:=by unfold outW;rw [KA.lookE,KA.wayB]
     have ot:outT (earlyL l day) day id=outT l day id:=by unfold outT;rw [KA.lookE,KA.turnB]
     have hO1:=fun W hi=>sOutline_any a n cap l day id W hi hcap
     have hO2:=fun W (hi:ItmsAt W ea (earlyL l day).length ec (earlyL l day))=>sOutline_any ea _ ec (earlyL l day) day id W hi hec
     have hW1:=fun W hi=>sWay_any soutline a n cap l day id fr tw W hi hcap
     have hW2:=fun W (hi:ItmsAt W ea (earlyL l day).length ec (earlyL l day))=>sWay_any soutline ea _ ec (earlyL l day) day id fr tw W hi hec
     have hC1:=fun W hi=>sColour_any a n cap l day id W hi hcap
     have hC2:=fun W (hi:ItmsAt W ea (earlyL l day).length ec (earlyL l day))=>sColour_any ea _ ec (earlyL l day) day id W hi hec
     have hCg:=fun W hi=>sChanged_any a n cap l day lt W hi hcap
     rw [oc,ow,ot,KA.lookE] at hO2
     rw [KA.wayLo,KA.wayHi,KA.wayK,KA.wayE] at hW2
     rw [KA.colR,KA.colE] at hC2
     rw [H0.out] at hCg
     unfold OutE at hO1 hO2
     unfold QuadI at hW1 hW2
     unfold IntE at hCg
     simp only [Spn.v,Spn.cs] at hC1 hC2
     have hWl:=outW_len l day id
     have hTl:=outT_len l day id
     have HBT:Hid (betweenB l day lt=false→changedL l day lt=[]):=Lib.hid (fun hb=>by
      unfold changedL
      rw [if_pos H0.out,count_same hb]
      exact differ_self (fun y hy=>(dif_ok Hcat.out lt).sh hy))
     have hcl:(changedL l day lt).length≤1000:=by
      unfold changedL
      split
      ·unfold differL
       refine Nat.le_trans (ascOf_len _) ?_
       have h1:=(dif_ok Hcat.out day).len
       have h2:=(dif_ok Hcat.out lt).len
       have h3:=sherds_len (countL l day)
       have h4:=sherds_len (countL l lt)
       have h5:=List.length_filter_le (otherB (countL l day) (countL l lt)) (sherdsL (countL l day))
       have h6:=List.length_filter_le (otherB (countL l lt) (countL l day)) (sherdsL (countL l lt))
       simp only [List.length_append,List.length_map]
       omega
      ·simp
     clear KA oc ow ot
     generalize changedL l day lt=CH at *
     generalize outC l day id=co at *
     generalize outW l day id=WB at *
     generalize outT l day id=TB at *
     generalize lookE l day id=E3 at *
     generalize wayLo l day id fr tw=lo1 at *
     generalize wayHi l day id fr tw=hi1 at *
     generalize wayK l day id fr tw=K1 at *
     generalize wayE l day id fr tw=E1 at *
     generalize colE l day id=E5 at *
     generalize (colR l day id).lo=s0 at *
     generalize (colR l day id).hi=s1 at *
     generalize (colR l day id).lob=s2 at *
     generalize (colR l day id).hib=s3 at *
     generalize betweenB l day lt=BT at *
     have hEL:=hie.len
     have HEL:=Lib.hid hEL
     clear hEL
     generalize earlyL l day=EL at *
     have hBx:=hBA.ch2 hB
     have hix:=h.below hBx
     have hne:=fun W=>neqS_run s0 s1 s2 s3 W
     have tokA:True:=trivial
     have tokB:True:=trivial
     have tokC:True:=trivial
     clear h hBA hB HEl HKA Hcat hwd H0
     have hLen:=Lib.hid (HBT.out)
     cases BT with
     | false =>
       have hch:=HBT.out rfl
       subst hch
       exact Z84
     | true =>
       exact Z84
   ·have e2:((chkI l).2 != 0)=true:=by simpa using h0
    clear h0
    generalize (chkI l).2=E at *
    go_enter Tryz.func15,Tryz.ntmps15
    go_wp2_with (first
     | (go_at_call 18;(with_reducible refine hFe.mono ?_);rintro e w1 ⟨rfl,hb1⟩)
     | (go_at_call 21;(with_reducible refine (hCh _ (h.below hb1)).mono ?_);rintro e w2 ⟨rfl,hb2⟩)
     | (go_at_call 20;(with_reducible refine (hSh _).mono ?_);rintro e w3 ⟨rfl,hb3⟩))
    go_ret
    exact ⟨rfl,(hb1.ch2 hb2).ch2 hb3⟩
open Go.ChangeShapes Go.WideShapes Go.ChangeAt Go.RowKit Go.Joins Go.Deep
set_option maxRecDepth 100000 in
theorem sherdKnown_lifted (os:Os) (started:os.Started) (H:Type) (enc:TypeId × Value→H) :
 ReturnsInHanded {} Tryz.checked os 15 .any (Rows.sherdKnownSpec.pre6 enc Tryz.prog Tryz.f15 Rows.sherdKnownRow.domain false) (Rows.sherdKnownSpec.post enc Tryz.prog Tryz.f15 false true false false):=by
 refine returnsInHanded_of_change_sized (C:=Tryz.checked) Tryz.own started Zk Tryz.func15
  (ChangeSpec.witness6 (enc:=enc) (C:=Tryz.checked) false ⟨#[],#[.slice none 0 0,.int .i64 0,.int .i64 0,.int .i64 0,.int .i64 0,.int .i64 0],[]⟩ 8 Zk Zk Zk Zk) ?_
 intro W base args ds gs before hval0 hW _ hsz0 _
 have hsz:(DataW.weightsEach Tryz.prog (Tryz.f15.params.toList ++Rows.sherdKnownSpec.plain.varTypes Tryz.prog) (ds ++gs)).all (·≤reachBytes)=true:=hsz0
 clear hsz0
 have hval:∀ (j:Nat) t v,Tryz.f15.params[j]?=some t→args[j]?=some v→Value.okWide Tryz.prog W .any base t v:=hval0
 have hW':=hW
 obtain ⟨p,q,hA0,hV,rfl,_,_⟩:=hW
 have hA:DataW.TrodAll enc Tryz.prog W 0 (fun _=>true) true Tryz.f15.params.toList args.toList ds p:=hA0
 rw [Tryz.params15] at hA hval hsz
 obtain ⟨v0,vs0,d0,ds0,p0,q0,hargs,rfl,rfl,h0,r0⟩:=trodAll_cons hA
 obtain ⟨v1,vs1,d1,ds1,p1,q1,rfl,rfl,rfl,h1,r1⟩:=trodAll_cons r0
 obtain ⟨v2,vs2,d2,ds2,p2,q2,rfl,rfl,rfl,h2,r2⟩:=trodAll_cons r1
 obtain ⟨v3,vs3,d3,ds3,p3,q3,rfl,rfl,rfl,h3,r3⟩:=trodAll_cons r2
 obtain ⟨v4,vs4,d4,ds4,p4,q4,rfl,rfl,rfl,h4,r4⟩:=trodAll_cons r3
 obtain ⟨v5,vs5,d5,ds5,p5,q5,rfl,rfl,rfl,h5,r5⟩:=trodAll_cons r4
 obtain ⟨rfl,rfl,rfl⟩:=trodAll_nil r5
 obtain rfl:args=#[v0,v1,v2,v3,v4,v5]:=by cases args;simp_all
 obtain ⟨rfl,rfl⟩:=trodVars_none hV
 clear hA0 hval0
 have hlt:∀ x ∈ p0 ++p1 ++p2 ++p3 ++p4 ++p5,x.block<W.heap.size:=fun x hx=>by have:=hW'.lt x (by simpa using hx);simpa using this
 obtain ⟨a0,n0,k0,xs0,rfl,hb0,hn0⟩:=items_open (hval 0 22 v0 rfl rfl) h0 (fun n hn=>by
  have:=List.all_eq_true.1 hsz _ (DataW.weights_mem_each (j:=0) rfl rfl n hn)
  simpa using this)
 obtain ⟨x1,rfl⟩:=okWide_int Tryz.underlying3 (hval 1 3 v1 rfl rfl)
 obtain ⟨x2,rfl⟩:=okWide_int Tryz.underlying3 (hval 2 3 v2 rfl rfl)
 obtain ⟨x3,rfl⟩:=okWide_int Tryz.underlying3 (hval 3 3 v3 rfl rfl)
 obtain ⟨x4,rfl⟩:=okWide_int Tryz.underlying3 (hval 4 3 v4 rfl rfl)
 obtain ⟨x5,rfl⟩:=okWide_int Tryz.underlying3 (hval 5 3 v5 rfl rfl)
 refine (lknown a0 n0 k0 xs0 x1 x2 x3 x4 x5 W hb0 hn0).mono fun e W' ⟨he,hw⟩=>?_
 subst he
 exact ⟨_,rfl,⟨_,_,_,[],_,[],hW',trodAll_mk1 (shut_bool Tryz.underlying4 _),(trodAll_cons_mk (Below.trod Tryz.laidOut Zk (of_decide_eq_true Zk) h0 hw (fun x hx=>hlt x Z8c)) (trodAll_cons_mk (Below.trod Tryz.laidOut Zk (of_decide_eq_true Zk) h1 hw (fun x hx=>hlt x Z8c)) (trodAll_cons_mk (Below.trod Tryz.laidOut Zk (of_decide_eq_true Zk) h2 hw (fun x hx=>hlt x Z8c)) (trodAll_cons_mk (Below.trod Tryz.laidOut Zk (of_decide_eq_true Zk) h3 hw (fun x hx=>hlt x Z8c)) (trodAll_cons_mk (Below.trod Tryz.laidOut Zk (of_decide_eq_true Zk) h4 hw (fun x hx=>hlt x Z8c)) (trodAll_cons_mk (Below.trod Tryz.laidOut Zk (of_decide_eq_true Zk) h5 hw (fun x hx=>hlt x Z8c)) trodAll_mk0)))))),rfl,hw.frame _,fun h=>by cases h⟩⟩
set_option maxRecDepth 100000 in
set_option maxHeartbeats 8000000 in
theorem sherdKnown_closed:joinedFacts Tryz.prog 15 Tryz.f15 Rows.sherdKnownSpec Rows.sherdKnownRow=true:=by
 unfold joinedFacts
 repeat' (with_reducible refine (Bool.and_eq_true _ _).mpr ⟨?_,?_⟩)
 all_goals as_aux_lemma=>kernel_rfl
theorem sherdKnown_holds:Rows.SherdKnownSaid :=
 OpenClaim.holds_of_wide 15 Tryz.f15 rfl rfl rfl rfl rfl rfl rfl ⟨rfl,rfl,rfl,rfl,rfl⟩ rfl rfl rfl rfl rfl Zk Tryz.func15 sherdKnown_closed
  (of_decide_eq_true Zk) (by unfold Func.isWrapper;rw [if_neg (of_decide_eq_false Zk)];exact ⟨rfl,rfl⟩)
  (fun os started H enc _=>sherdKnown_lifted os started H enc)
#print axioms sherdKnown_holds
end Go.Proofs.YtelkcohhagblaaaGreat
