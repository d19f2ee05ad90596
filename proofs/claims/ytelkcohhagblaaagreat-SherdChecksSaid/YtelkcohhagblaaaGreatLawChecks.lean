/-
  The law Checks, walked, and its statement.
-/
import Derived.Test.YtelkcohhagblaaaGreatChecked
import Derived.Test.YtelkcohhagblaaaGreatSe07
import Derived.ProofKit
import Derived.SizedLaws
import Derived.Lib.SmallJoins
import Derived.Deep.Slices
import Derived.Deep.Fields
import Derived.OpenShut
import Derived.Test.YtelkcohhagblaaaGreatSe44
import Derived.Test.YtelkcohhagblaaaGreatSe26
import Derived.Test.YtelkcohhagblaaaGreatSe27
import Derived.Test.YtelkcohhagblaaaGreatSe43
import Derived.Test.YtelkcohhagblaaaGreatSe08
import Derived.Test.YtelkcohhagblaaaGreatSe02
import Derived.Test.YtelkcohhagblaaaGreatLawChecksF
import Derived.Test.YtelkcohhagblaaaGreatSe31
import Derived.Test.YtelkcohhagblaaaGreatSe10
import Derived.Test.YtelkcohhagblaaaGreatLawChecksA
import Derived.Test.YtelkcohhagblaaaGreatRows
set_option linter.unusedSimpArgs false
set_option linter.unusedVariables false
set_option linter.unnecessarySimpa false
namespace Go.Proofs.YtelkcohhagblaaaGreat
theorem Z8s {P:Prop}(h:P:=by
 obtain ⟨⟨y0,y1,y2,y3,y4,y5,y6,y7,y8,y9,y10,y11,y12,y13,y14,y15⟩,yf,yl⟩:=ItmCells.of_heap ((hG.block _ zX (by simp)).trans HX.out)
 exact Z72):P:=h
theorem Z8q {P:Prop}(h:P:=by
 refine hK _ v' w6 _ Zh (.of_own hg6 (fun k e=>by simp [SL.row,e1,e])) ⟨ho6,rfl⟩ ?_
 intro k hk
 simp [SL.row,e1] at hk ⊢
 exact Z1a):P:=h
theorem Z8b {P:Prop}(h:P:=by
 refine SLG.ob_sp rfl rfl rfl fun us w' Fe hG hu hd Kx hK=>?_
 try dsimp only
 simp [SL.O] at hu
 have hB5:Below w6.heap.size w6 w':=hG.below'
 obtain ⟨hc5,hf5⟩:=bcell hB5
 have hs5:=hB5.size
 first
  | (refine SLF.wpo_do (SLF.wanted_free rfl) ?hd ?_;(case hd=>intro c h;cases h))
  | (refine SLF.wpo_do (SLF.wanted_by rfl rfl ?hv) ?hd ?_;(case hv=>simp [hu];done);(case hd=>intro c h;cases h))
  | (refine' SLF.wpo_not (SLG.wanted_not rfl rfl ?hv ?hn) ?_;(case hv=>simp [hu];exact rfl);(case hn=>first | (simp;done) | (simp [undef];done)))
 exact Z8s):P:=h
theorem Z8d {P:Prop}(h:P:=by
 clear hlen hOn2
 as_aux_lemma =>
  go_enter Tryz.func3,Tryz.ntmps3
  go_wp2_with (first
   | (go_at_call 18;(with_reducible refine (hFe _ hB0).mono ?_);rintro e w1 ⟨rfl,hb1⟩;obtain ⟨⟨d0,d1,d2,d3,d4,d5,d6,d7,d8,d9,d10,d11,d12,d13,d14,d15⟩,_,_⟩:=ItmCells.of_heap ((hb1.block w.heap.size (by simp)).trans hX0);have hB1:=hB0.ch2 hb1)
   | (go_at_call 19;(with_reducible refine (hOn _).mono ?_);rintro e w2 ⟨rfl,hb2⟩;have hB1:=hB1.ch2 hb2)
   | (go_at_call 20;(with_reducible refine (hSh _).mono ?_);rintro e w3 ⟨rfl,hb3⟩))
  go_ret
  exact ⟨rfl,hB1.ch2 hb3⟩):P:=h
theorem Z8e {P:Prop}(h:P:=by
 rintro e w7 ⟨rfl,hb7⟩
 exact hK _ _ _ [] Zh (.of_below hb7) ⟨rfl,rfl⟩ (fun j hj=>by cases hj)):P:=h
theorem Z8j {P:Prop}(h:P:=by
 go_enter Tryz.func19,Tryz.ntmps19
 go_wp2_with fail
 go_ret
 exact ⟨rfl,hal⟩):P:=h
open Go.ChangeShapes Go.WideShapes Go.ChangeAt Go.RowKit Go.Joins Go.Deep
set_option maxRecDepth 100000
set_option maxHeartbeats 2000000
theorem Tryz.own:ownKnob Tryz.prog.godebug=none:=by kernel_rfl
theorem Tryz.laidOut:laidOutB Tryz.prog=true:=by kernel_rfl
theorem Tryz.cI:Tryz.prog.cellsOf 3=1:=by kernel_rfl
theorem Tryz.cU:Tryz.prog.cellsOf 5=1:=by kernel_rfl
theorem Tryz.cS:Tryz.prog.cellsOf 9=1:=by kernel_rfl
theorem Tryz.cB:Tryz.prog.cellsOf 4=1:=by kernel_rfl
theorem Tryz.cItem:Tryz.prog.cellsOf 24=16:=by kernel_rfl
theorem Tryz.bItem:Tryz.prog.bytesOf 24=144:=by kernel_rfl
theorem itm_add {b o:Nat} (k:Nat):(⟨b,o,none⟩:Addr).add k=⟨b,o +k,none⟩:=by
 unfold Addr.add
 split
 ·rename_i h;subst h;simp
 ·rfl
theorem itm_where {W:World} {base:Nat} {t e:TypeId} {a:Addr} {n cap:Nat} (ht:Tryz.prog.underlying t=some (.slice e)) (hv:Value.okWide Tryz.prog W .any base t (.slice (some a) n cap)):a.spot=none∧a.block<W.heap.size:=by
 simp only [Value.okWide,ht,Cell.okWide,Cell.ok] at hv
 obtain ⟨_,_,_,hsp,row,cells,hsh,_⟩:=hv
 refine ⟨hsp,?_⟩
 simp only [World.shape?] at hsh
 by_cases hlt:a.block<W.heap.size
 ·exact hlt
 ·rw [Array.getElem?_eq_none (by omega)] at hsh
  simp at hsh
theorem itm_slice {W:World} {base:Nat} {t e:TypeId} {v:Value} (ht:Tryz.prog.underlying t=some (.slice e)) (hv:Value.okWide Tryz.prog W .any base t v):∃ a n cap,v=.slice a n cap:=by
 simp only [Value.okWide,ht,Cell.okWide,Cell.ok] at hv
 cases v <;> simp at hv
 exact ⟨_,_,_,rfl⟩
theorem u8_in {x:Int} (h:(Lit.int .u8 x).wf=true):0≤x∧x≤255:=by
 have h1:IntKind.u8.min=0:=by decide
 have h2:IntKind.u8.max=255:=by decide
 have h3:(decide (IntKind.u8.min≤x) && decide (x≤IntKind.u8.max))=true:=h
 rw [h1,h2] at h3
 simpa using h3
section
variable {H:Type} {enc:TypeId × Value→H} {w:World} {base:Nat}
theorem int_cw {t:TypeId} {k:IntKind} {n i:Nat} {v:Value} {xs:List (DataW H × List MemPlace)} (ht:Tryz.prog.underlying t=some (.int k)) (h:DataW.trod enc Tryz.prog w base (fun _=>true) true n t [v]=xs[i]?) (hi:i<xs.length):∃ x,v=.int k x∧(Lit.int k x).wf=true:=by
 rw [List.getElem?_eq_getElem hi] at h
 obtain ⟨x,e0,_,e2⟩:=DataW.trod_int ht h
 simp at e0
 exact ⟨x,e0,e2⟩
theorem str_cw {t:TypeId} {n i:Nat} {v:Value} {xs:List (DataW H × List MemPlace)} (ht:Tryz.prog.underlying t=some .string) (h:DataW.trod enc Tryz.prog w base (fun _=>true) true n t [v]=xs[i]?) (hi:i<xs.length):∃ x:ByteArray,v=.string x∧x.size≤maxLen:=by
 rw [List.getElem?_eq_getElem hi] at h
 obtain ⟨x,e0,_,e2⟩:=DataW.trod_string ht h
 simp at e0
 exact ⟨x,e0,e2⟩
theorem bool_cw {t:TypeId} {n i:Nat} {v:Value} {xs:List (DataW H × List MemPlace)} (ht:Tryz.prog.underlying t=some .bool) (h:DataW.trod enc Tryz.prog w base (fun _=>true) true n t [v]=xs[i]?) (hi:i<xs.length):∃ x,v=.bool x:=by
 rw [List.getElem?_eq_getElem hi] at h
 obtain ⟨x,e0,_⟩:=DataW.trod_bool ht h
 simp at e0
 exact ⟨x,e0⟩
theorem list16 {l:List Value} (h:l.length=16):∃ c0 c1 c2 c3 c4 c5 c6 c7 c8 c9 c10 c11 c12 c13 c14 c15,l=[c0,c1,c2,c3,c4,c5,c6,c7,c8,c9,c10,c11,c12,c13,c14,c15]:=by
 match l,h with
 | [c0,c1,c2,c3,c4,c5,c6,c7,c8,c9,c10,c11,c12,c13,c14,c15],_=>exact ⟨c0,c1,c2,c3,c4,c5,c6,c7,c8,c9,c10,c11,c12,c13,c14,c15,rfl⟩
/-- An item in its cells. -/
theorem item_cells {n:Nat} {cs:List Value} {y:DataW H × List MemPlace} (h:DataW.trod enc Tryz.prog w base (fun _=>true) true n 24 cs=some y):∃ x:Itm,cs=x.cs∧x.Wide:=by
 obtain ⟨xs,m,rfl,rfl,hl,hxl,hf⟩:=DataW.trod_struct Tryz.underlying24 h
 rw [Tryz.cItem] at hl
 obtain ⟨c0,c1,c2,c3,c4,c5,c6,c7,c8,c9,c10,c11,c12,c13,c14,c15,rfl⟩:=list16 hl
 have hx:xs.length=16:=hxl
 have f0:DataW.trod enc Tryz.prog w base (fun _=>true) true m 3 [c0]=xs[0]?:=by have:=hf 0 _ rfl;simpa [Tryz.cI] using this
 have f1:DataW.trod enc Tryz.prog w base (fun _=>true) true m 3 [c1]=xs[1]?:=by have:=hf 1 _ rfl;simpa [Tryz.cI] using this
 have f2:DataW.trod enc Tryz.prog w base (fun _=>true) true m 5 [c2]=xs[2]?:=by have:=hf 2 _ rfl;simpa [Tryz.cU] using this
 have f3:DataW.trod enc Tryz.prog w base (fun _=>true) true m 9 [c3]=xs[3]?:=by have:=hf 3 _ rfl;simpa [Tryz.cS] using this
 have f4:DataW.trod enc Tryz.prog w base (fun _=>true) true m 3 [c4]=xs[4]?:=by have:=hf 4 _ rfl;simpa [Tryz.cI] using this
 have f5:DataW.trod enc Tryz.prog w base (fun _=>true) true m 3 [c5]=xs[5]?:=by have:=hf 5 _ rfl;simpa [Tryz.cI] using this
 have f6:DataW.trod enc Tryz.prog w base (fun _=>true) true m 3 [c6]=xs[6]?:=by have:=hf 6 _ rfl;simpa [Tryz.cI] using this
 have f7:DataW.trod enc Tryz.prog w base (fun _=>true) true m 4 [c7]=xs[7]?:=by have:=hf 7 _ rfl;simpa [Tryz.cB] using this
 have f8:DataW.trod enc Tryz.prog w base (fun _=>true) true m 3 [c8]=xs[8]?:=by have:=hf 8 _ rfl;simpa [Tryz.cI] using this
 have f9:DataW.trod enc Tryz.prog w base (fun _=>true) true m 3 [c9]=xs[9]?:=by have:=hf 9 _ rfl;simpa [Tryz.cI] using this
 have f10:DataW.trod enc Tryz.prog w base (fun _=>true) true m 3 [c10]=xs[10]?:=by have:=hf 10 _ rfl;simpa [Tryz.cI] using this
 have f11:DataW.trod enc Tryz.prog w base (fun _=>true) true m 3 [c11]=xs[11]?:=by have:=hf 11 _ rfl;simpa [Tryz.cI] using this
 have f12:DataW.trod enc Tryz.prog w base (fun _=>true) true m 3 [c12]=xs[12]?:=by have:=hf 12 _ rfl;simpa [Tryz.cI] using this
 have f13:DataW.trod enc Tryz.prog w base (fun _=>true) true m 9 [c13]=xs[13]?:=by have:=hf 13 _ rfl;simpa [Tryz.cS] using this
 have f14:DataW.trod enc Tryz.prog w base (fun _=>true) true m 3 [c14]=xs[14]?:=by have:=hf 14 _ rfl;simpa [Tryz.cI] using this
 have f15:DataW.trod enc Tryz.prog w base (fun _=>true) true m 3 [c15]=xs[15]?:=by have:=hf 15 _ rfl;simpa [Tryz.cI] using this
 obtain ⟨x0,rfl,e0⟩:=int_cw Tryz.underlying3 f0 (by omega)
 obtain ⟨x1,rfl,e1⟩:=int_cw Tryz.underlying3 f1 (by omega)
 obtain ⟨x2,rfl,e2⟩:=int_cw Tryz.underlying5 f2 (by omega)
 obtain ⟨x3,rfl,e3⟩:=str_cw Tryz.underlying9 f3 (by omega)
 obtain ⟨x4,rfl,e4⟩:=int_cw Tryz.underlying3 f4 (by omega)
 obtain ⟨x5,rfl,e5⟩:=int_cw Tryz.underlying3 f5 (by omega)
 obtain ⟨x6,rfl,e6⟩:=int_cw Tryz.underlying3 f6 (by omega)
 obtain ⟨x7,rfl⟩:=bool_cw Tryz.underlying4 f7 (by omega)
 obtain ⟨x8,rfl,e8⟩:=int_cw Tryz.underlying3 f8 (by omega)
 obtain ⟨x9,rfl,e9⟩:=int_cw Tryz.underlying3 f9 (by omega)
 obtain ⟨x10,rfl,e10⟩:=int_cw Tryz.underlying3 f10 (by omega)
 obtain ⟨x11,rfl,e11⟩:=int_cw Tryz.underlying3 f11 (by omega)
 obtain ⟨x12,rfl,e12⟩:=int_cw Tryz.underlying3 f12 (by omega)
 obtain ⟨x13,rfl,e13⟩:=str_cw Tryz.underlying9 f13 (by omega)
 obtain ⟨x14,rfl,e14⟩:=int_cw Tryz.underlying3 f14 (by omega)
 obtain ⟨x15,rfl,e15⟩:=int_cw Tryz.underlying3 f15 (by omega)
 have hu:0≤x2∧x2≤255:=u8_in e2
 exact ⟨⟨x0,x1,x2,x3,x4,x5,x6,x7,x8,x9,x10,x11,x12,x13,x14,x15⟩,rfl,⟨e3,e13,hu,e0,e15⟩⟩
end
theorem items_open {H:Type} {enc:TypeId × Value→H} {W:World} {base:Nat} {v:Value} {d:DataW H} {p:List MemPlace} (hv:Value.okWide Tryz.prog W .any base 22 v)
 (h:DataW.Trod enc Tryz.prog W 0 (fun _=>true) true 22 v d p) (hs:∀ n ∈ d.weights Tryz.prog 22,n≤reachBytes):∃ a n cap l,v=.slice a n cap∧ItmsAt W a n cap l∧l.length≤cap:=by
 obtain ⟨a0,n0,c0,rfl⟩:=itm_slice Tryz.underlying22 hv
 obtain ⟨fuel,hf⟩:=h
 rcases open_slice Tryz.underlying22 (show DataW.trod enc Tryz.prog W 0 (fun _=>true) true fuel 22 [.slice a0 n0 c0]=some (d,p) from hf) with ⟨hc,_⟩ | ⟨a,len,cap,m',k,D,Pl,hc,_,hl,_,hm,hx,hat⟩
 ·simp at hc
  obtain ⟨rfl,rfl,rfl⟩:=hc
  exact ⟨none,0,0,[],rfl,ItmsAt.nilAt _,Nat.le_refl _⟩
 ·simp only [List.cons.injEq,Value.slice.injEq,and_true] at hc
  obtain ⟨rfl,rfl,rfl⟩:=hc
  simp only [if_true] at hm
  subst hm
  simp only [Prod.mk.injEq] at hx
  obtain ⟨rfl,_⟩:=hx
  have hb:m' * 144≤reachBytes:=by
   have:=hs _ (by simp only [DataW.weights,Tryz.underlying22];exact List.mem_cons_self ..)
   rw [Tryz.bItem] at this
   simp only [List.length_map,List.length_range] at this
   rw [show n0 +(m' - n0)=m' by omega] at this
   exact this
  unfold reachBytes at hb
  obtain ⟨h1,h2⟩:=itm_where Tryz.underlying22 hv
  obtain ⟨ab,ao,sp⟩:=a
  simp only at h1 h2
  subst h1
  have hex:∀ i,∃ x:Itm,i<n0→x.Wide∧∀ j,j<16→W.cell? ⟨ab,ao +i * 16 +j,none⟩=x.cs[j]?:=fun i=>by
   by_cases hi:i<n0
   ·obtain ⟨cs,e1,e2⟩:=hat i (by omega)
    rw [Tryz.cItem] at e1
    obtain ⟨_,hcl,hct⟩:=World.cells?_some e1
    obtain ⟨x,rfl,hw⟩:=item_cells e2
    refine ⟨x,fun _=>⟨hw,fun j hj=>?_⟩⟩
    have:=hct j hj
    rw [itm_add,itm_add] at this
    rw [this]
   ·exact ⟨Itm.zero,fun h=>absurd h hi⟩
  obtain ⟨F,hF⟩:=Classical.axiomOfChoice hex
  refine ⟨_,n0,m',(List.range n0).map F,rfl,⟨by simp,by simp;omega,⟨fun h=>(by cases h),fun x hx=>?_⟩,fun x hx=>?_⟩,by simp;omega⟩
  ·obtain rfl:=Option.some.inj hx
   refine ⟨rfl,h2,fun i u hu=>?_⟩
   have hil:=(List.getElem?_eq_some_iff.1 hu).1
   rw [ics_length] at hil
   simp at hil
   have hk:i / 16<n0:=by omega
   have hfg:=flatS_get (f:=Itm.cs) (k:=16) (fun _=>rfl) ((List.range n0).map F) (i / 16) (i % 16) Z46 (by omega)
   rw [show i / 16 * 16 +i % 16=i by omega] at hfg
   have hu:=hfg.symm.trans hu
   have hgd:((List.range n0).map F).getD (i / 16) default=F (i / 16):=by simp [List.getD_eq_getElem?_getD,hk]
   rw [hgd] at hu
   have:=(hF (i / 16) hk).2 (i % 16) (by omega)
   simp only
   rw [show ao +i=ao +i / 16 * 16 +i % 16 by omega,this,hu]
  ·obtain ⟨i,hi,rfl⟩:=List.mem_map.1 hx
   rw [List.mem_range] at hi
   exact (hF i hi).1
open Go.RowKit Go.Shelf
set_option maxHeartbeats 8000000
set_option maxRecDepth 100000
def shortB (x:Itm):Bool:=decide (x.wa.size≤100) && decide (x.st.size≤100)
theorem lone (x:Itm) (w:World):Calls Tryz.prog 19 #[x.v] w fun e w'=>e=.returned (.bool (shortB x))∧Below w.heap.size w w':=by
 have hal:=one_alloc w (Obj.cells #[.int .i64 x.id,.int .i64 x.kn,.int .u8 x.kd,.string x.wa,.int .i64 x.pit,.int .i64 x.ly,.int .i64 x.co,.bool x.ft,.int .i64 x.sh,.int .i64 x.fr,.int .i64 x.tw,.int .i64 x.lo,.int .i64 x.hi,.string x.st,.int .i64 x.li,.int .i64 x.vo] 24)
 have hX:=World.alloc_heap_new w (Obj.cells #[.int .i64 x.id,.int .i64 x.kn,.int .u8 x.kd,.string x.wa,.int .i64 x.pit,.int .i64 x.ly,.int .i64 x.co,.bool x.ft,.int .i64 x.sh,.int .i64 x.fr,.int .i64 x.tw,.int .i64 x.lo,.int .i64 x.hi,.string x.st,.int .i64 x.li,.int .i64 x.vo] 24)
 have d3:=(ItmCells.of_heap hX).1.c3
 have d13:=(ItmCells.of_heap hX).1.c13
 simp only [Itm.v,Itm.cs]
 unfold shortB
 obtain ⟨A,hA⟩:∃ A,x.wa.size=A:=⟨_,rfl⟩
 obtain ⟨B,hB⟩:∃ B,x.st.size=B:=⟨_,rfl⟩
 rw [hA,hB]
 clear hX
 by_cases h1:A≤100
 ·have e1:(A:Int)≤100:=by omega
  have d1:decide (A≤100)=true:=decide_eq_true h1
  rw [d1,Bool.true_and]
  by_cases h2:B≤100
  ·have e2:(B:Int)≤100:=by omega
   have d2:decide (B≤100)=true:=decide_eq_true h2
   rw [d2]
   exact Z8j
  ·have e2:¬ (B:Int)≤100:=by omega
   have d2:decide (B≤100)=false:=decide_eq_false h2
   rw [d2]
   exact Z8j
 ·have e1:¬ (A:Int)≤100:=by omega
  have d1:decide (A≤100)=false:=decide_eq_false h1
  rw [d1,Bool.false_and]
  exact Z8j
def fewB (l:List Itm) (m:Nat):Bool:=(l.take m).all shortB && decide (l.length≤m)
theorem fewB_len {l:List Itm} {m:Nat} (h:fewB l m=true):l.length≤m:=by
 unfold fewB at h
 rw [Bool.and_eq_true] at h
 exact of_decide_eq_true h.2
theorem all_succ {l:List Itm} {k:Nat} (hk:k<l.length):(l.take (k +1)).all shortB=((l.take k).all shortB && shortB (l.getD k default)):=by
 rw [List.take_succ_eq_append_getElem hk,List.all_append,List.getD_eq_getElem?_getD,List.getElem?_eq_getElem hk]
 simp
theorem all_no {l:List Itm} {k m:Nat} (hk:k<l.length) (hm:k<m) (h:shortB (l.getD k default)=false):(l.take m).all shortB=false:=by
 rw [List.all_eq_false]
 refine ⟨l.getD k default,?_,by rw [h];simp⟩
 rw [List.getD_eq_getElem?_getD,List.getElem?_eq_getElem hk]
 have:l[k] ∈ l.take m:=List.mem_take_iff_getElem.2 ⟨k,by omega,rfl⟩
 exact this
theorem lfew (m:Nat) (a:Option Addr) (n cap:Nat) (l:List Itm) (w:World) (h:ItmsAt w a n cap l) (hm:m≤1000):Calls Tryz.prog 18 #[.slice a n cap,.int .i64 m] w fun e w'=>e=.returned (.bool (fewB l m))∧Below w.heap.size w w':=by
 obtain rfl:=h.len
 have hsm:=h.small
 have HP:=Lib.hid (show ∀ w' b,fewB l m=b→Below w.heap.size w w'→(fun e w'=>e=Ending.returned (.bool (fewB l m))∧Below w.heap.size w w':Ending→World→Prop) (.returned (.bool b)) w' from fun w' b h1 h2=>⟨by rw [h1],h2⟩)
 generalize (fun e w'=>e=Ending.returned (.bool (fewB l m))∧Below w.heap.size w w':Ending→World→Prop)=Post at *
 go_enter Tryz.func18,Tryz.ntmps18
 go_wp2_with fail
 go_loopw [5] (fun i wr=>∃ k:Nat,k≤l.length∧k≤m∧i=.int .i64 k∧Hid ((l.take k).all shortB=true)∧Below w.heap.size w wr) (fun i _=>l.length - (RowKit.intOf i).toNat)
 case atStart=>exact ⟨0,Nat.zero_le _,Nat.zero_le _,rfl,Lib.hid rfl,Below.refl _ _⟩
 case round =>
  obtain ⟨k,hk,hkm,rfl,hall,hB⟩:=hrel
  have hnn:(0:Int)≤k:=by omega
  by_cases hlt:k<l.length
  ·have i1:(k:Int)<(l.length:Int):=by omega
   by_cases hlm:k<m
   ·have i2:(k:Int)<(m:Int):=by omega
    obtain ⟨b,o,rfl,hb,hdc⟩:=(h.below hB).get hlt
    have Hs:=Lib.hid (all_succ hlt)
    have Hn:=Lib.hid (all_no hlt hlm)
    generalize l.getD k default=x at *
    have hcl:=lone x wr
    cases hv:shortB x with
    | true =>
      rw [hv] at hcl Hs
      have h2:=Lib.hid (show (l.take (k +1)).all shortB=true by rw [Hs.out,hall.out];rfl)
      clear hv Hn
      go_wp2_with (first
       | (refine wpList_loadI rfl _ rfl rfl hdc ?_)
       | (go_at_call 19;(with_reducible refine hcl.mono ?_);rintro e w2 ⟨rfl,hb2⟩))
      go_roundw
      case rel=>exact ⟨k +1,by omega,by omega,by go_num,h2,hB.ch2 hb2⟩
      case measure=>simp [RowKit.intOf];omega
    | false =>
      have HE:=Lib.hid (fun w' hb=>HP.out w' false (by unfold fewB;rw [Hn.out hv];rfl) hb)
      rw [hv] at hcl
      clear hv Hn Hs
      go_wp2_with (first
       | (refine wpList_loadI rfl _ rfl rfl hdc ?_)
       | (go_at_call 19;(with_reducible refine hcl.mono ?_);rintro e w2 ⟨rfl,hb2⟩))
      exact HE.out _ (hB.ch2 hb2)
   ·have i2:¬ (k:Int)<(m:Int):=by omega
    have i3:¬ (l.length:Int)≤(m:Int):=by omega
    have HE:=Lib.hid (HP.out wr false (by unfold fewB;rw [decide_eq_false (by omega),Bool.and_false]) hB)
    exact Z36
  ·have i1:¬ (k:Int)<(l.length:Int):=by omega
   have hkl:k=l.length:=by omega
   have i3:(l.length:Int)≤(m:Int):=by omega
   have HE:=Lib.hid (HP.out wr true (by unfold fewB;rw [decide_eq_true (by omega),Bool.and_true,List.take_of_length_le (by omega)];have:=hall.out;rw [hkl,List.take_length] at this;exact this) hB)
   clear hkl
   exact Z36
theorem r2same (a1 a2:Option Addr) (n1 n2 c1 c2:Nat) (xs:List Itm) (w:World) (hx:ItmsAt w a1 n1 c1 xs) (hy:ItmsAt w a2 n2 c2 xs) :
 Calls Tryz.prog 25 #[.slice a1 n1 c1,.slice a2 n2 c2] w fun e w'=>e=.returned (.bool true)∧Below w.heap.size w w':=by
 have hlx:=hx.small
 obtain rfl:=hx.len
 obtain rfl:=hy.len
 go_enter Tryz.func25,Tryz.ntmps25
 go_wp2_with fail
 go_loopw [5] (fun i wr=>∃ k:Nat,k≤xs.length∧i=.int .i64 k∧Below w.heap.size w wr) (fun i _=>xs.length - (RowKit.intOf i).toNat)
 case atStart=>exact ⟨0,Nat.zero_le _,rfl,Below.refl _ _⟩
 case round =>
  obtain ⟨k,hk,rfl,hB⟩:=hrel
  have hnn:(0:Int)≤k:=by omega
  by_cases hlt:k<xs.length
  ·obtain ⟨b1,o1,rfl,_,⟨d0,d1,d2,d3,d4,d5,d6,d7,d8,d9,d10,d11,d12,d13,d14,d15⟩⟩:=(hx.below hB).get hlt
   obtain ⟨b2,o2,rfl,_,⟨g0,g1,g2,g3,g4,g5,g6,g7,g8,g9,g10,g11,g12,g13,g14,g15⟩⟩:=(hy.below hB).get hlt
   have i1:(k:Int)<(xs.length:Int):=by omega
   generalize xs.getD k default=x at *
   have hne:∀ W,(binOp .neq 24 x.v x.v).run Tryz.prog W=.ok (.bool false) W:=fun W=>by rw [neqI_run,eqI_refl];rfl
   simp only [Itm.v,Itm.cs] at hne
   go_wp2_with fail
   go_quiet (fail)
   go_wp2
   go_roundw
   case rel=>exact ⟨k +1,by omega,by go_num,belowN hB⟩
   case measure=>simp [RowKit.intOf];omega
  ·go_wp2_with fail
   go_ret
   exact ⟨rfl,hB⟩
open Go.ChangeShapes Go.WideShapes Go.ChangeAt Go.RowKit Go.Joins Go.Deep
set_option maxRecDepth 100000
set_option maxHeartbeats 2000000
theorem item_open {H:Type} {enc:TypeId × Value→H} {W:World} {base:Nat} {v:Value} {d:DataW H} {p:List MemPlace} (hv:Value.okWide Tryz.prog W .any base 24 v)
 (h:DataW.Trod enc Tryz.prog W 0 (fun _=>true) true 24 v d p):∃ x:Itm,v=x.v∧x.Wide:=by
 simp only [Value.okWide,Tryz.underlying24] at hv
 obtain ⟨cs,he,_⟩:=hv
 subst he
 obtain ⟨fuel,hf⟩:=h
 obtain ⟨x,hx,hw⟩:=item_cells (show DataW.trod enc Tryz.prog W 0 (fun _=>true) true fuel 24 cs.toList=some (d,p) from hf)
 refine ⟨x,?_,hw⟩
 unfold Itm.v
 rw [← hx]
open Go.RowKit Go.Shelf
set_option maxHeartbeats 8000000
set_option maxRecDepth 100000
theorem r2Check_any (a:Option Addr) (n cap:Nat) (l:List Itm) (w:World) (h:ItmsAt w a n cap l) (hcap:l.length≤cap) :
 Calls Tryz.prog 22 #[.slice a n cap] w (PairI w (chkI l).1 (chkI l).2):=by
 obtain rfl:=h.len
 have hsm:=h.small
 have HP:=Lib.hid (show ∀ w',Below w.heap.size w w'→∀ p:Nat × Int,p=chkI l→PairI w (chkI l).1 (chkI l).2 (.returned (.tuple #[.int .i64 p.1,.int .i64 p.2])) w' from fun w' h1 p hp=>by subst hp;exact ⟨rfl,h1⟩)
 generalize PairI w (chkI l).1 (chkI l).2=Post at *
 have hF:=fun (i:Nat) (hi:i<l.length) (hok:∀ y ∈ l.take i,itemB y=true) (w1:World) (h1:ItmsAt w1 a l.length cap l) b o (e:a=some ⟨b,o,none⟩)=>r2refused_any (l.getD i default) a i i (l.take i) w1 (h1.take i i (by omega) (fun h0=>by rw [h0] at e;cases e)) (h.wide _ (Itm.mem hi)) hok
 unfold EPost at hF
 have HF:=Lib.hid hF
 clear hF
 go_enter Tryz.func22,Tryz.ntmps22
 go_wp2_with fail
 go_loopw [4] (fun i wr=>∃ k:Nat,k≤l.length∧i=.int .i64 k∧Below w.heap.size w wr∧chkFrom l (l.length - k) k=chkI l∧∀ y ∈ l.take k,itemB y=true) (fun i _=>l.length - (RowKit.intOf i).toNat)
 case atStart=>exact ⟨0,Nat.zero_le _,rfl,Below.refl _ _,rfl,fun y hy=>by simp at hy⟩
 case round =>
  obtain ⟨k,hk,rfl,hB,hch,hok⟩:=hrel
  have hnn:(0:Int)≤k:=by omega
  by_cases hlt:k<l.length
  ·have i1:(k:Int)<(l.length:Int):=by omega
   have hx1:=h.below hB
   have hst:refE (l.take k) (l.getD k default)=0→∀ y ∈ l.take (k +1),itemB y=true:=fun e y hy=>by
    rw [List.take_succ_eq_append_getElem hlt,List.mem_append] at hy
    rcases hy with hy | hy
    ·exact hok y hy
    ·have:=(refE_zero e).2.1
     rw [List.getD_eq_getElem?_getD,List.getElem?_eq_getElem hlt] at this
     simp at hy
     rw [hy];exact this
   obtain ⟨b,o,rfl,hbl,⟨d0,d1,d2,d3,d4,d5,d6,d7,d8,d9,d10,d11,d12,d13,d14,d15⟩⟩:=hx1.get hlt
   have hfo:=fun W (hw:Below wr.heap.size wr W)=>HF.out k hlt hok W (hx1.below hw) b o rfl
   have Hst:=Lib.hid (fun h=>(chkFrom_step hlt h).symm.trans hch)
   have Hno:=Lib.hid (fun h=>(chkFrom_stop hlt h).symm.trans hch)
   have Hok:=Lib.hid hst
   clear hst hok
   generalize refE (l.take k) (l.getD k default)=E at *
   generalize l.getD k default=x at *
   simp only [Itm.v,Itm.cs] at hfo
   clear hx1 hch
   have i2:(k:Int)≤(cap:Int):=by omega
   go_wp2_with fail
   have hdC:=Lib.hid (And.intro hbl (ItmCells.mk d0 d1 d2 d3 d4 d5 d6 d7 d8 d9 d10 d11 d12 d13 d14 d15))
   clear d0 d1 d2 d3 d4 d5 d6 d7 d8 d9 d10 d11 d12 d13 d14 d15
   apply SLG.rule0 ?hm [] [12,13,14,15,16,17,18,19,20,5] [SLF.pq 12 [] _,SLF.pq 13 [] _,SLF.pq 14 [] _,SLF.pq 15 [0,1,2] _,SLF.pq 16 [] _,SLF.pq 17 [] _,SLF.pq 18 [4,5] _,SL.pu 19 [6] (.agg #[.int .i64 x.id,.int .i64 x.kn,.int .u8 x.kd,.string x.wa,.int .i64 x.pit,.int .i64 x.ly,.int .i64 x.co,.bool x.ft,.int .i64 x.sh,.int .i64 x.fr,.int .i64 x.tw,.int .i64 x.lo,.int .i64 x.hi,.string x.st,.int .i64 x.li,.int .i64 x.vo]),SL.pu 20 [3,7] (.int .i64 E),SLF.pq 5 [8] _] [9] ?hck ?hkp (fun _=>[]) ?hin ?hdj ?hfr ?ob ?en1
   case hm=>kernel_rfl
   case hin=>exact SL.none_held rfl
   case hdj=>simp
   case hfr=>intro us;simp only [SL.frame,SL.put'];simp;exact rfl
   case ob =>
    refine ⟨?_,?_,?_,?_,?_,?_,?_,?_,?_,?_,trivial⟩
    all_goals first
     | (intro us w' Fe hG hu hd hv Kx hK
        try dsimp only
        simp [SL.O] at hu hK
        have hB5:Below wr.heap.size wr w':=hG.below'
        exact Z7r)
     | skip
    ·refine SLG.ob_sp rfl rfl rfl fun us w' Fe hG hu hd Kx hK=>?_
     try dsimp only
     simp [SL.O] at hu
     have hB5:Below wr.heap.size wr w':=hG.below'
     obtain ⟨hc5,hf5⟩:=bcell hB5
     have hs5:=hB5.size
     refine SLF.wpo_do (SLF.wanted_free rfl) ?hd ?_
     case hd=>intro c h;cases h
     obtain ⟨e18,_⟩:=hu
     obtain ⟨zb,⟨y0,y1,y2,y3,y4,y5,y6,y7,y8,y9,y10,y11,y12,y13,y14,y15⟩⟩:=hdC.out
     have q:=fun i=>hc5 b i zb
     clear hc5 hf5
     simp only [← q] at y0 y1 y2 y3 y4 y5 y6 y7 y8 y9 y10 y11 y12 y13 y14 y15
     clear q
     go_step
     exact Z8
    ·refine SLG.ob_sp rfl rfl rfl fun us w' Fe hG hu hd Kx hK=>?_
     try dsimp only
     simp [SL.O] at hu
     have hB5:Below wr.heap.size wr w':=hG.below'
     obtain ⟨hc5,hf5⟩:=bcell hB5
     have hs5:=hB5.size
     refine SLF.wpo_do (SLF.wanted_free rfl) ?hd ?_
     case hd=>intro c h;cases h
     obtain ⟨⟨q1,_⟩,q2,_⟩:=hu
     have hcc:=hfo w' hB5
     clear hc5 hf5 hfo
     go_step
     refine hcc.mono ?_
     rintro e w6 ⟨rfl,hb6⟩
     exact hK _ _ _ [] Zh (.of_below hb6) ⟨rfl,rfl⟩ (fun j hj=>by cases hj)
   case hck=>kernel_rfl
   case hkp=>kernel_rfl
   intro us w7 Fs hG hu hbd hd
   simp [SL.Used,SLF.pq] at hu
   obtain ⟨h6,_⟩:=hu
   have hB7:=hB.ch2 (hG.below':Below wr.heap.size wr w7)
   rw [h6]
   clear hG hbd hd h6 hfo hdC
   by_cases hE:E=0
   ·subst hE
    have Hs:=Lib.hid (Hst.out rfl)
    have Hk:=Lib.hid (Hok.out rfl)
    clear Hno Hst Hok
    go_wp2_with fail
    go_roundw
    case rel=>exact ⟨k +1,by omega,by go_num,hB7,Hs.out,Hk.out⟩
    case measure=>simp [RowKit.intOf];omega
   ·have e2:(E != 0)=true:=by simpa using hE
    have Hs:=Lib.hid (Hno.out hE)
    clear Hno Hst hE Hok
    go_wp2_with fail
    exact HP.out _ hB7 (k,E) Hs.out
  ·have hk2:k=l.length:=by omega
   subst hk2
   rw [chkFrom_end] at hch
   have Hch:=Lib.hid hch
   clear hch hok
   go_wp2_with fail
   exact HP.out _ hB _ Hch.out
theorem r2Append_any (x:Itm) (a:Option Addr) (n cap:Nat) (l:List Itm) (w:World) (h:ItmsAt w a n cap l) (hcap:l.length≤cap) (hx:x.Wide) :
 Calls Tryz.prog 24 #[.slice a n cap,x.v] w (RowE w (apE l x) (apL l x)):=by
 have hsm:=h.small
 have hCh:=fun w1 (h1:ItmsAt w1 a n cap l)=>r2Check_any a n cap l w1 h1 hcap
 have hFo:=fun w1 (h1:ItmsAt w1 a n cap l) (hc:CatOk l)=>r2refused_any x a n cap l w1 h1 hx hc.item
 have hR0:refE l x=0→l.length<300:=fun h0=>(refE_zero h0).1
 have hE:apE l x=if (chkI l).2=0 then refE l x else (chkI l).2:=rfl
 have hL:apL l x=if apE l x=0 then l ++[x] else []:=rfl
 have HP:=Lib.hid (show (apE l x≠0→∀ w',Below w.heap.size w w'→RowE w (apE l x) (apL l x) (.returned (.tuple #[.slice none 0 0,.int .i64 (apE l x)])) w')∧(apE l x=0→∀ w' v,Below w.heap.size w w'→w'.ownsRow w.heap.size 24 16 v (l.length +1) (ics l ++x.cs)→RowE w (apE l x) (apL l x) (.returned (.tuple #[v,.int .i64 (apE l x)])) w') from
  ⟨fun h0 w' hb=>by rw [hL,if_neg h0];exact RowE.nil _ _ _ hb,fun h0 w' v hb ho=>by rw [hL,if_pos h0];exact ⟨v,rfl,hb,by rw [List.length_append,ics_append,ics_one1];exact ho⟩⟩)
 have hCk:(chkI l).2=0→CatOk l:=fun h=>chk_ok.1 h
 generalize RowE w (apE l x) (apL l x)=Post at *
 generalize apE l x=AE at *
 unfold PairI at hCh
 unfold EPost at hFo
 clear hL
 generalize (chkI l).1=C1 at *
 generalize (chkI l).2=C2 at *
 generalize refE l x=R at *
 have hB0:=one_alloc w (Obj.cells #[.int .i64 x.id,.int .i64 x.kn,.int .u8 x.kd,.string x.wa,.int .i64 x.pit,.int .i64 x.ly,.int .i64 x.co,.bool x.ft,.int .i64 x.sh,.int .i64 x.fr,.int .i64 x.tw,.int .i64 x.lo,.int .i64 x.hi,.string x.st,.int .i64 x.li,.int .i64 x.vo] 24)
 have hA0:=World.alloc_heap_new w (Obj.cells #[.int .i64 x.id,.int .i64 x.kn,.int .u8 x.kd,.string x.wa,.int .i64 x.pit,.int .i64 x.ly,.int .i64 x.co,.bool x.ft,.int .i64 x.sh,.int .i64 x.fr,.int .i64 x.tw,.int .i64 x.lo,.int .i64 x.hi,.string x.st,.int .i64 x.li,.int .i64 x.vo] 24)
 simp only [Itm.v,Itm.cs] at hFo ⊢
 by_cases h1:C2=0
 ·subst h1
  rw [if_pos rfl] at hE
  subst hE
  have hFo:=fun w1 h1=>hFo w1 h1 (hCk rfl)
  clear hCk
  by_cases h2:AE=0
  ·subst h2
   have hP:=Lib.hid (HP.out.2 rfl)
   have hl:=hR0 rfl
   clear HP hR0
   go_enter Tryz.func24,Tryz.ntmps24
   go_wp2_with (first
    | (go_at_call 22;(with_reducible refine (hCh _ (h.below hB0)).mono ?_);rintro e w1 ⟨rfl,hb1⟩;obtain ⟨⟨y0,y1,y2,y3,y4,y5,y6,y7,y8,y9,y10,y11,y12,y13,y14,y15⟩,_,_⟩:=ItmCells.of_heap ((hb1.block w.heap.size (by simp)).trans hA0))
    | (go_at_call 74;(with_reducible refine (hFo _ ((h.below hB0).below hb1)).mono ?_);rintro e w2 ⟨rfl,hb2⟩))
   have hB2:=(hB0.ch2 hb1).ch2 hb2
   have hX2:=(hb2.block w.heap.size (lt_size hb1 (by simp))).trans ((hb1.block w.heap.size (by simp)).trans hA0)
   have h2:=h.below hB2
   have zX:=(Array.getElem?_eq_some_iff.1 hX2).1
   have HX:=Lib.hid hX2
   have H2:=Lib.hid h2
   obtain rfl:=h.len
   clear hb1 hb2 hX2 hA0 hCh hFo h y0 y1 y2 y3 y4 y5 y6 y7 y8 y9 y10 y11 y12 y13 y14 y15 h2
   apply SLG.rule0 ?hm [] [21,22,23,24,25,26,4,5] [SL.row 21 [] [] w2.heap.size 24 16 0 [],SLF.pq 22 [] _,SL.row 23 [0,1] [0] w2.heap.size 24 16 l.length (ics l),SL.pu 24 [] (.agg #[.int .i64 x.id,.int .i64 x.kn,.int .u8 x.kd,.string x.wa,.int .i64 x.pit,.int .i64 x.ly,.int .i64 x.co,.bool x.ft,.int .i64 x.sh,.int .i64 x.fr,.int .i64 x.tw,.int .i64 x.lo,.int .i64 x.hi,.string x.st,.int .i64 x.li,.int .i64 x.vo]),SL.aw 25 [3] [] (fun v=>.ex fun N:Nat=>.sep (.pure (v=.slice (some ⟨N,0,none⟩) 1 1)) (.blk w2.heap.size N 24 x.cs.toArray)),SL.row 26 [2,4] [2] w2.heap.size 24 16 (l.length +1) (ics l ++x.cs),SL.row 4 [5] [5] w2.heap.size 24 16 (l.length +1) (ics l ++x.cs),SLF.pq 5 [] _] [6,7] ?hck ?hkp (fun _=>[]) ?hin ?hdj ?hfr ?ob ?en2
   case hm=>kernel_rfl
   case hin=>exact SL.none_held rfl
   case hdj=>simp
   case hfr=>intro us;simp only [SL.frame,SL.put'];simp;exact rfl
   case ob =>
    refine ⟨?_,?_,?_,?_,?_,?_,?_,?_,trivial⟩
    all_goals first
     | (intro us w' Fe hG hu hd hv Kx hK
        try dsimp only
        simp [SL.O] at hu hK
        have hB5:Below w2.heap.size w2 w':=hG.below'
        exact Z7r)
     | skip
    ·refine SLG.ob_sp rfl rfl rfl fun us w' Fe hG hu hd Kx hK=>?_
     try dsimp only
     simp [SL.O] at hu
     have hB5:Below w2.heap.size w2 w':=hG.below'
     obtain ⟨hc5,hf5⟩:=bcell hB5
     have hs5:=hB5.size
     refine SLF.wpo_do (SLF.wanted_free rfl) ?hd ?_
     case hd=>intro c h;cases h
     clear hu hc5 hf5
     go_step
     exact hK _ (.slice (some ⟨w'.heap.size,0,none⟩) 0 0) _ _ Zh (.alloc _ _ _) ⟨World.ownsRow_lit w' #[] 0 hs5 (by decide) rfl,rfl⟩ (fun j hj=>.inr (by simp [Value.ownBlock] at hj;subst hj;simp))
    ·refine SLG.ob_sp rfl rfl rfl fun us w' Fe hG hu hd Kx hK=>?_
     try dsimp only
     simp [SL.O] at hu
     have hB5:Below w2.heap.size w2 w':=hG.below'
     obtain ⟨hc5,hf5⟩:=bcell hB5
     have hs5:=hB5.size
     refine SLF.wpo_do (SLF.wanted_free rfl) ?hd ?_
     case hd=>intro c h;cases h
     obtain ⟨⟨ho,e1⟩,e2,_⟩:=hu
     have hsr:=(H2.out.below hB5).row
     clear hc5 hf5
     refine wp_app elemT _ _ rfl ho rfl e2 hsr (ics_length l) (ics_one l) Z1s (by omega) (by omega) ?_
     intro v' w6 ho6 hg6 hb6 _ hat
     rw [Nat.zero_add,List.nil_append] at ho6
     exact Z8q
    ·refine SLG.ob_sp rfl rfl rfl fun us w' Fe hG hu hd Kx hK=>?_
     try dsimp only
     simp [SL.O] at hu
     have hB5:Below w2.heap.size w2 w':=hG.below'
     obtain ⟨hc5,hf5⟩:=bcell hB5
     have hs5:=hB5.size
     refine SLF.wpo_do (SLF.wanted_free rfl) ?hd ?_
     case hd=>intro c h;cases h
     clear hu
     exact Z8s
    ·refine SLG.ob_sp rfl rfl rfl fun us w' Fe hG hu hd Kx hK=>?_
     try dsimp only
     simp [SL.O] at hu
     have hB5:Below w2.heap.size w2 w':=hG.below'
     obtain ⟨hc5,hf5⟩:=bcell hB5
     have hs5:=hB5.size
     refine SLF.wpo_do (SLF.wanted_free rfl) ?hd ?_
     case hd=>intro c h;cases h
     obtain ⟨e2,_⟩:=hu
     clear hc5 hf5
     exact Z6r
    ·refine SLG.ob_sp rfl rfl rfl fun us w' Fe hG hu hd Kx hK=>?_
     try dsimp only
     simp [SL.O] at hu
     have hB5:Below w2.heap.size w2 w':=hG.below'
     obtain ⟨hc5,hf5⟩:=bcell hB5
     have hs5:=hB5.size
     refine SLF.wpo_do (SLF.wanted_free rfl) ?hd ?_
     case hd=>intro c h;cases h
     obtain ⟨⟨ho,e1⟩,hu3⟩:=hu
     obtain ⟨N,F1,F2,⟨hx,rfl⟩,⟨hN,hbl,rfl⟩,hF⟩:=SL.aw_out hu3
     clear hc5 hf5
     refine wp_app elemT _ _ rfl ho rfl hx (RowAt.of_heap hbl) (by rfl) (fun u hu=>ics_one [x] u Z3w) Z1s (by omega) (by omega) ?_
     intro v' w6 ho6 hg6 hb6 _ hat
     exact Z8q
    ·refine SLG.ob_sp rfl rfl rfl fun us w' Fe hG hu hd Kx hK=>?_
     try dsimp only
     simp [SL.O] at hu
     have hB5:Below w2.heap.size w2 w':=hG.below'
     obtain ⟨hc5,hf5⟩:=bcell hB5
     have hs5:=hB5.size
     refine SLF.wpo_do (SLF.wanted_free rfl) ?hd ?_
     case hd=>intro c h;cases h
     obtain ⟨ho,e4⟩:=hu
     clear hc5 hf5
     go_step
     exact hK _ _ _ _ Zh (SL.Chg.refl _ _) ⟨ho,rfl⟩ (fun k hk=>.inl (by simp [SL.row,e4] at hk ⊢;exact hk))
   case hck=>kernel_rfl
   case hkp=>kernel_rfl
   intro us w7 Fs hG hu hbd hd
   simp [SL.Used,SL.row,SLF.pq] at hu
   obtain ⟨⟨ho7,_⟩,h5,_⟩:=hu
   rw [h5]
   obtain ⟨va,vc,hv,_⟩:=owns_slice ho7
   have hB7:=hB2.ch2 (hG.below':Below w2.heap.size w2 w7)
   have HO:=Lib.hid (SL.row_base ho7 hB2.size)
   clear hG hbd hd ho7
   go_wp2_with fail
   exact hP.out _ _ hB7 HO.out
  ·have e2:(AE != 0)=true:=by simpa using h2
   have hP:=Lib.hid (HP.out.1 h2)
   clear h2 HP hR0
   go_enter Tryz.func24,Tryz.ntmps24
   go_wp2_with (first
    | (go_at_call 22;(with_reducible refine (hCh _ (h.below hB0)).mono ?_);rintro e w1 ⟨rfl,hb1⟩;obtain ⟨⟨y0,y1,y2,y3,y4,y5,y6,y7,y8,y9,y10,y11,y12,y13,y14,y15⟩,_,_⟩:=ItmCells.of_heap ((hb1.block w.heap.size (by simp)).trans hA0))
    | (go_at_call 74;(with_reducible refine (hFo _ ((h.below hB0).below hb1)).mono ?_);rintro e w2 ⟨rfl,hb2⟩))
   exact hP.out _ ((hB0.ch2 hb1).ch2 hb2)
 ·have e2:(C2 == 0)=false:=by simpa using h1
  have e3:(C2 != 0)=true:=by simpa using h1
  rw [if_neg h1] at hE
  subst hE
  have hP:=Lib.hid (HP.out.1 h1)
  clear HP hR0 hFo hCk h1
  go_enter Tryz.func24,Tryz.ntmps24
  go_wp2_with (go_at_call 22;(with_reducible refine (hCh _ (h.below hB0)).mono ?_);rintro e w1 ⟨rfl,hb1⟩)
  exact hP.out _ (hB0.ch2 hb1)
theorem lchecks (a:Option Addr) (n cap:Nat) (l:List Itm) (x:Itm) (w:World) (h:ItmsAt w a n cap l) (hcap:l.length≤cap) (hxw:x.Wide) :
 Calls Tryz.prog 3 #[.slice a n cap,x.v] w fun e w'=>e=.returned (.bool true)∧Below w.heap.size w w':=by
 have hSh:=fun W=>lshelved W
 have hB0:=one_alloc w (Obj.cells #[.int .i64 x.id,.int .i64 x.kn,.int .u8 x.kd,.string x.wa,.int .i64 x.pit,.int .i64 x.ly,.int .i64 x.co,.bool x.ft,.int .i64 x.sh,.int .i64 x.fr,.int .i64 x.tw,.int .i64 x.lo,.int .i64 x.hi,.string x.st,.int .i64 x.li,.int .i64 x.vo] 24)
 have hX0:=World.alloc_heap_new w (Obj.cells #[.int .i64 x.id,.int .i64 x.kn,.int .u8 x.kd,.string x.wa,.int .i64 x.pit,.int .i64 x.ly,.int .i64 x.co,.bool x.ft,.int .i64 x.sh,.int .i64 x.fr,.int .i64 x.tw,.int .i64 x.lo,.int .i64 x.hi,.string x.st,.int .i64 x.li,.int .i64 x.vo] 24)
 have hFe:=fun W (hb:Below w.heap.size w W)=>lfew 40 a n cap l W (h.below hb) (by omega)
 have hOn:=fun W=>lone x W
 have h40:((40:Nat):Int)=40:=rfl
 rw [h40] at hFe
 have hlen:=fun (hF:fewB l 40=true)=>fewB_len hF
 generalize fewB l 40=F at *
 generalize shortB x=O at *
 have hOn2:=hOn
 simp only [Itm.v,Itm.cs] at hOn
 show Calls Tryz.prog _ #[_,.agg #[.int .i64 x.id,.int .i64 x.kn,.int .u8 x.kd,.string x.wa,.int .i64 x.pit,.int .i64 x.ly,.int .i64 x.co,.bool x.ft,.int .i64 x.sh,.int .i64 x.fr,.int .i64 x.tw,.int .i64 x.lo,.int .i64 x.hi,.string x.st,.int .i64 x.li,.int .i64 x.vo]] w _
 cases F with
 | false =>
   exact Z8d
 | true =>
   cases O with
   | false =>
     exact Z8d
   | true =>
     have hl40:=hlen rfl
     clear hlen hOn2
     have hC1:=fun W hi=>sCheck_any a n cap l W hi hcap (fun y hy w1=>sCheckItem_any y w1 (h.wide y hy))
     have hC2:=fun W hi=>r2Check_any a n cap l W hi hcap
     have hA1:=fun W hi=>sAppend_any x a n cap l W hi hcap (fun y hy w1=>sCheckItem_any y w1 (by
      rcases hy with hy | rfl
      ·exact h.wide y hy
      ·exact hxw))
     have hA2:=fun W hi=>r2Append_any x a n cap l W hi hcap hxw
     have hI1:=fun W=>sCheckItem_any x W hxw
     have hI2:=fun W=>r2CheckItem_any x W hxw
     have hmw:∀ y ∈ apL l x,y.Wide:=fun y hy=>by
      unfold apL at hy
      split at hy
      ·rcases List.mem_append.1 hy with hy | hy
       ·exact h.wide y hy
       ·simp at hy;subst hy;exact hxw
      ·cases hy
     have hml:(apL l x).length≤100:=by
      unfold apL
      split
      ·simp;omega
      ·simp
     unfold PairI at hC1 hC2
     unfold RowE at hA1 hA2
     unfold EPost at hI1 hI2
     have Hhl:=Lib.hid h.len
     generalize (chkI l).1=C at *
     generalize (chkI l).2=D at *
     generalize apE l x=A at *
     generalize apL l x=L at *
     generalize itemE x=I at *
     have hdc:=(ItmCells.of_heap hX0).1
     have tokA:True:=trivial
     go_enter Tryz.func3,Tryz.ntmps3
     go_wp2_with (first
      | (refine wpList_loadI rfl _ rfl rfl hdc ?_)
      | (go_at_call 18;(with_reducible refine (hFe _ hB0).mono ?_);rintro e w1 ⟨rfl,hb1⟩;have hB:=hB0.ch2 hb1;have hX:=(hb1.block w.heap.size (by simp)).trans hX0;clear hdc;obtain ⟨⟨d0,d1,d2,d3,d4,d5,d6,d7,d8,d9,d10,d11,d12,d13,d14,d15⟩,_,_⟩:=ItmCells.of_heap hX)
      | (go_at_call 19;(with_reducible refine (hOn _).mono ?_);rintro e w2 ⟨rfl,hb2⟩;have hB:=hB.ch2 hb2;have hi:=h.below hB;clear d0 d1 d2 d3 d4 d5 d6 d7 d8 d9 d10 d11 d12 d13 d14 d15;have hX:=(hb2.block _ (Array.getElem?_eq_some_iff.1 hX).1).trans hX)
      | (go_at_call 21;(with_reducible refine (hC1 _ hi).mono ?_);rintro e w3 ⟨rfl,hb3⟩;have hX:=(hb3.block _ (Array.getElem?_eq_some_iff.1 hX).1).trans hX;have hB:=hB.ch2 hb3;have hi:=h.below hB)
      | (go_at_call 22;(with_reducible refine (hC2 _ hi).mono ?_);rintro e w4 ⟨rfl,hb4⟩;have hX:=(hb4.block _ (Array.getElem?_eq_some_iff.1 hX).1).trans hX;have hB:=hB.ch2 hb4;have hi:=h.below hB;have hdc:=(ItmCells.of_heap hX).1)
      | (go_at_call 23;(with_reducible refine (hA1 _ hi).mono ?_);rintro e w5 ⟨v5,rfl,hb5,ho5⟩;obtain ⟨aa,ac,rfl,_⟩:=owns_slice ho5;have hX:=(hb5.block _ (Array.getElem?_eq_some_iff.1 hX).1).trans hX;have hB:=hB.ch2 hb5;have hi:=h.below hB;clear hdc;have hdc:=(ItmCells.of_heap hX).1;have m1:=ItmsAt.of_owns ho5 (by omega) hmw)
      | (go_at_call 24;(with_reducible refine (hA2 _ hi).mono ?_);rintro e w6 ⟨v6,rfl,hb6,ho6⟩;obtain ⟨ba,bc,rfl,_⟩:=owns_slice ho6;have hX:=(hb6.block _ (Array.getElem?_eq_some_iff.1 hX).1).trans hX;have hB:=hB.ch2 hb6;clear hdc;have m2:=ItmsAt.of_owns ho6 (by omega) hmw;have m1:=m1.below hb6))
     have HX:=Lib.hid hX
     have zX:=(Array.getElem?_eq_some_iff.1 hX).1
     have HM1:=Lib.hid m1
     have HM2:=Lib.hid m2
     clear hX m1 m2 hi hb1 hb2 hb3 hb4 hb5 hb6 ho5 ho6 hC1 hC2 hA1 hA2 h hmw
     simp only [Itm.v,Itm.cs] at hI1 hI2
     apply SLG.rule0 ?hm [] [44,45,46,47,48,49,50,51,52,53,54,55,56,57,58,59,60,61,62,63,64,65,66,67,68,69,70,71,4] [SL.pu 44 [] (.bool true),SLF.pq 45 [0] _,SLF.pq 46 [1] _,SLF.pq 47 [1] _,SLF.pq 48 [1,2,3] _,SLF.pq 49 [1,4] _,SLF.pq 50 [5] _,SLF.pq 51 [6] _,SLF.pq 52 [6] _,SLF.pq 53 [6,7,8] _,SLF.pq 54 [6,9] _,SLF.pq 55 [10] _,SLF.pq 56 [11] _,SLF.pq 57 [11] _,SLF.pq 58 [11,12,13] _,SLF.pq 59 [11,14] _,SLF.pq 60 [15] _,SLF.pq 61 [16] _,SLF.pq 62 [16] _,SL.pu 63 [16,17,18] (.bool true),SLF.pq 64 [16,19] _,SLF.pq 65 [20] _,SL.pu 66 [21] (.agg #[.int .i64 x.id,.int .i64 x.kn,.int .u8 x.kd,.string x.wa,.int .i64 x.pit,.int .i64 x.ly,.int .i64 x.co,.bool x.ft,.int .i64 x.sh,.int .i64 x.fr,.int .i64 x.tw,.int .i64 x.lo,.int .i64 x.hi,.string x.st,.int .i64 x.li,.int .i64 x.vo]),SL.pu 67 [21,22] (.int .i64 I),SL.pu 68 [21] (.agg #[.int .i64 x.id,.int .i64 x.kn,.int .u8 x.kd,.string x.wa,.int .i64 x.pit,.int .i64 x.ly,.int .i64 x.co,.bool x.ft,.int .i64 x.sh,.int .i64 x.fr,.int .i64 x.tw,.int .i64 x.lo,.int .i64 x.hi,.string x.st,.int .i64 x.li,.int .i64 x.vo]),SL.pu 69 [21,24] (.int .i64 I),SLF.pq 70 [21,23,25] _,SLF.pq 71 [21,26] _,SLF.pq 4 [27] _] [28] ?hck ?hkp (fun _=>[]) ?hin ?hdj ?hfr ?ob ?en3
     case hm=>kernel_rfl
     case hin=>exact SL.none_held rfl
     case hdj=>simp
     case hfr=>intro us;simp only [SL.frame,SL.put'];simp;exact rfl
     case ob =>
      refine ⟨?_,?_,?_,?_,?_,?_,?_,?_,?_,?_,?_,?_,?_,?_,?_,?_,?_,?_,?_,?_,?_,?_,?_,?_,?_,?_,?_,?_,?_,trivial⟩
      all_goals first
       | (intro us w' Fe hG hu hd hv Kx hK
          try dsimp only
          simp [SL.O] at hu hK
          have hB5:Below w6.heap.size w6 w':=hG.below'
          exact Z7v)
       | skip
      ·refine SLG.ob_sp rfl rfl rfl fun us w' Fe hG hu hd Kx hK=>?_
       try dsimp only
       simp [SL.O] at hu
       have hB5:Below w6.heap.size w6 w':=hG.below'
       obtain ⟨hc5,hf5⟩:=bcell hB5
       have hs5:=hB5.size
       refine SLF.wpo_do (SLF.wanted_free rfl) ?hd ?_
       case hd=>intro c h;cases h
       clear hu hc5 hf5
       go_step
       refine (hSh w').mono ?_
       exact Z8e
      ·refine SLG.ob_sp rfl rfl rfl fun us w' Fe hG hu hd Kx hK=>?_
       try dsimp only
       simp [SL.O] at hu
       have hB5:Below w6.heap.size w6 w':=hG.below'
       obtain ⟨hc5,hf5⟩:=bcell hB5
       have hs5:=hB5.size
       first
        | (refine SLF.wpo_do (SLF.wanted_free rfl) ?hd ?_;(case hd=>intro c h;cases h))
        | (refine SLF.wpo_do (SLF.wanted_by rfl rfl ?hv) ?hd ?_;(case hv=>simp [hu];done);(case hd=>intro c h;cases h))
        | (refine' SLF.wpo_not (SLG.wanted_not rfl rfl ?hv ?hn) ?_;(case hv=>simp [hu];exact rfl);(case hn=>first | (simp;done) | (simp [undef];done)))
       have hq:=r2same aa ba _ _ ac bc L w' (HM1.out.below hB5) (HM2.out.below hB5)
       clear hc5 hf5
       go_step
       refine hq.mono ?_
       exact Z8e
      ·exact Z8b
      ·refine SLG.ob_sp rfl rfl rfl fun us w' Fe hG hu hd Kx hK=>?_
       try dsimp only
       simp [SL.O] at hu
       have hB5:Below w6.heap.size w6 w':=hG.below'
       obtain ⟨hc5,hf5⟩:=bcell hB5
       have hs5:=hB5.size
       first
        | (refine SLF.wpo_do (SLF.wanted_free rfl) ?hd ?_;(case hd=>intro c h;cases h))
        | (refine SLF.wpo_do (SLF.wanted_by rfl rfl ?hv) ?hd ?_;(case hv=>simp [hu];done);(case hd=>intro c h;cases h))
        | (refine' SLF.wpo_not (SLG.wanted_not rfl rfl ?hv ?hn) ?_;(case hv=>simp [hu];exact rfl);(case hn=>first | (simp;done) | (simp [undef];done)))
       obtain ⟨e1,_⟩:=hu
       clear hc5 hf5
       go_step
       refine (hI1 w').mono ?_
       exact Z8e
      ·exact Z8b
      ·refine SLG.ob_sp rfl rfl rfl fun us w' Fe hG hu hd Kx hK=>?_
       try dsimp only
       simp [SL.O] at hu
       have hB5:Below w6.heap.size w6 w':=hG.below'
       obtain ⟨hc5,hf5⟩:=bcell hB5
       have hs5:=hB5.size
       first
        | (refine SLF.wpo_do (SLF.wanted_free rfl) ?hd ?_;(case hd=>intro c h;cases h))
        | (refine SLF.wpo_do (SLF.wanted_by rfl rfl ?hv) ?hd ?_;(case hv=>simp [hu];done);(case hd=>intro c h;cases h))
        | (refine' SLF.wpo_not (SLG.wanted_not rfl rfl ?hv ?hn) ?_;(case hv=>simp [hu];exact rfl);(case hn=>first | (simp;done) | (simp [undef];done)))
       obtain ⟨e1,_⟩:=hu
       clear hc5 hf5
       go_step
       refine (hI2 w').mono ?_
       exact Z8e
     case hck=>kernel_rfl
     case hkp=>kernel_rfl
     intro us w7 Fs hG hu hbd hd
     simp [SL.Used,SLF.pq] at hu
     obtain ⟨h4,_⟩:=hu
     have hB7:=hB.ch2 (hG.below':Below w6.heap.size w6 w7)
     rw [h4]
     clear hG hbd hd
     go_wp2_with fail
     go_ret
     exact ⟨rfl,hB7⟩
open Go.ChangeShapes Go.WideShapes Go.ChangeAt Go.RowKit Go.Joins Go.Deep
set_option maxRecDepth 100000 in
theorem sherdChecks_lifted (os:Os) (started:os.Started) (H:Type) (enc:TypeId × Value→H) :
 ReturnsInHanded {} Tryz.checked os 3 .any (Rows.sherdChecksSpec.pre6 enc Tryz.prog Tryz.f3 Rows.sherdChecksRow.domain false) (Rows.sherdChecksSpec.post enc Tryz.prog Tryz.f3 false true false false):=by
 refine returnsInHanded_of_change_sized (C:=Tryz.checked) Tryz.own started Zk Tryz.func3
  (ChangeSpec.witness6 (enc:=enc) (C:=Tryz.checked) false ⟨#[],#[.slice none 0 0,.agg #[.int .i64 0,.int .i64 0,.int .u8 0,.string ⟨#[]⟩,.int .i64 0,.int .i64 0,.int .i64 0,.bool false,.int .i64 0,.int .i64 0,.int .i64 0,.int .i64 0,.int .i64 0,.string ⟨#[]⟩,.int .i64 0,.int .i64 0]],[]⟩ 8 Zk Zk Zk Zk) ?_
 intro W base args ds gs before hval0 hW _ hsz0 _
 have hsz:(DataW.weightsEach Tryz.prog (Tryz.f3.params.toList ++Rows.sherdChecksSpec.plain.varTypes Tryz.prog) (ds ++gs)).all (·≤reachBytes)=true:=hsz0
 clear hsz0
 have hval:∀ (j:Nat) t v,Tryz.f3.params[j]?=some t→args[j]?=some v→Value.okWide Tryz.prog W .any base t v:=hval0
 have hW':=hW
 obtain ⟨p,q,hA0,hV,rfl,_,_⟩:=hW
 have hA:DataW.TrodAll enc Tryz.prog W 0 (fun _=>true) true Tryz.f3.params.toList args.toList ds p:=hA0
 rw [Tryz.params3] at hA hval hsz
 obtain ⟨v0,vs0,d0,ds0,p0,q0,hargs,rfl,rfl,h0,r0⟩:=trodAll_cons hA
 obtain ⟨v1,vs1,d1,ds1,p1,q1,rfl,rfl,rfl,h1,r1⟩:=trodAll_cons r0
 obtain ⟨rfl,rfl,rfl⟩:=trodAll_nil r1
 obtain rfl:args=#[v0,v1]:=by cases args;simp_all
 obtain ⟨rfl,rfl⟩:=trodVars_none hV
 clear hA0 hval0
 have hlt:∀ x ∈ p0 ++p1,x.block<W.heap.size:=fun x hx=>by have:=hW'.lt x (by simpa using hx);simpa using this
 obtain ⟨a0,n0,k0,xs0,rfl,hb0,hn0⟩:=items_open (hval 0 22 v0 rfl rfl) h0 (fun n hn=>by
  have:=List.all_eq_true.1 hsz _ (DataW.weights_mem_each (j:=0) rfl rfl n hn)
  simpa using this)
 obtain ⟨x1,rfl,hw1⟩:=item_open (hval 1 24 v1 rfl rfl) h1
 refine (lchecks a0 n0 k0 xs0 x1 W hb0 hn0 hw1).mono fun e W' ⟨he,hw⟩=>?_
 subst he
 exact ⟨_,rfl,⟨_,_,_,[],_,[],hW',trodAll_mk1 (shut_bool Tryz.underlying4 _),(trodAll_cons_mk (Below.trod Tryz.laidOut Zk (of_decide_eq_true Zk) h0 hw (fun x hx=>hlt x (by simp [hx]))) (trodAll_cons_mk (Below.trod Tryz.laidOut Zk (of_decide_eq_true Zk) h1 hw (fun x hx=>hlt x (by simp [hx]))) trodAll_mk0)),rfl,hw.frame _,fun h=>by cases h⟩⟩
set_option maxRecDepth 100000 in
set_option maxHeartbeats 8000000 in
theorem sherdChecks_closed:joinedFacts Tryz.prog 3 Tryz.f3 Rows.sherdChecksSpec Rows.sherdChecksRow=true:=by
 unfold joinedFacts
 repeat' (with_reducible refine (Bool.and_eq_true _ _).mpr ⟨?_,?_⟩)
 all_goals as_aux_lemma=>kernel_rfl
theorem sherdChecks_holds:Rows.SherdChecksSaid :=
 OpenClaim.holds_of_wide 3 Tryz.f3 rfl rfl rfl rfl rfl rfl rfl ⟨rfl,rfl,rfl,rfl,rfl⟩ rfl rfl rfl rfl rfl Zk Tryz.func3 sherdChecks_closed
  (of_decide_eq_true Zk) (by unfold Func.isWrapper;rw [if_neg (of_decide_eq_false Zk)];exact ⟨rfl,rfl⟩)
  (fun os started H enc _=>sherdChecks_lifted os started H enc)
#print axioms sherdChecks_holds
end Go.Proofs.YtelkcohhagblaaaGreat
