/- What the functions answer, for every input. -/
import Derived.Test.YtelkcohhagblaaaGreatSe45
import Derived.Shelf.SlGeneric
import Derived.Shelf.SlSortCmp.WholeK
import Derived.Shelf.SlSortCmp.NoneTotal
import Derived.Shelf.SlicesQ.Equal
import Derived.Ground.SlsfProg
import Derived.Ground.SlgqProg
import Derived.Test.YtelkcohhagblaaaGreatProg
import Derived.Test.YtelkcohhagblaaaGreatSe34
import Derived.Test.YtelkcohhagblaaaGreatSe24
import Derived.Test.YtelkcohhagblaaaGreatSe49
import Derived.Test.YtelkcohhagblaaaGreatSe32
import Derived.Test.YtelkcohhagblaaaGreatSe04
import Derived.Test.YtelkcohhagblaaaGreatSe10
import Derived.Test.YtelkcohhagblaaaGreatSe41
import Derived.Test.YtelkcohhagblaaaGreatSe35
import Derived.Test.YtelkcohhagblaaaGreatSe27
import Derived.Test.YtelkcohhagblaaaGreatSe08
import Derived.Test.YtelkcohhagblaaaGreatSe39
import Derived.Test.YtelkcohhagblaaaGreatSe38
import Derived.Test.YtelkcohhagblaaaGreatSe28
import Derived.Test.YtelkcohhagblaaaGreatSe42
set_option linter.unusedSimpArgs false
set_option linter.unusedVariables false
set_option linter.unnecessarySimpa false
namespace Go.Proofs.YtelkcohhagblaaaGreat
theorem Z8z {P:Prop}(h:P:=by
 unfold shdsL
 rw [List.length_map]
 exact Nat.le_trans (List.length_filter_le _ _) (by rw [List.length_take];omega)):P:=h
theorem Z91 {P:Prop}(h:P:=by
 simpa using hr3):P:=h
theorem Z96 {P:Prop}(h:P:=by
 rw [← scs_append,List.take_append_drop];exact hrow):P:=h
theorem Z98 {P:Prop}(h:P:=by
 rw [scs_one1];exact hu):P:=h
theorem Z9c {P:Prop}(h:P:=by
 rw [scs_length,List.length_take];omega):P:=h
end Go.Proofs.YtelkcohhagblaaaGreat
namespace Go.Proofs
open Go.Shelf
def Tryz.sortFA_ren:Go.Shelf.Ren:=⟨fun | 6=>186 | 15=>205 | 14=>208 | 28=>222 | 29=>223 | 20=>225 | 21=>226 | 22=>227 | 23=>228 | 24=>229 | 25=>230 | 26=>231 | 27=>232 | 46=>252 | 47=>247 | 48=>248 | 49=>253 | 50=>254 | 57=>262 | n=>n,fun | 22=>92 | 24=>72 | 25=>198 | 3=>3 | 39=>36 | 0=>0 | 53=>232 | 55=>234 | 4=>4 | 46=>225 | 45=>224 | 50=>138 | 5=>5 | 9=>9 | 66=>248 | 70=>252 | 76=>260 | 77=>261 | n=>n,fun | n=>n⟩
theorem Tryz.sortFA:Go.Proofs.SlLaysF0.n6 Tryz.prog Tryz.sortFA_ren:={
 mixed:=by kernel_rfl
 f6:=⟨Tryz.f186.name,by decide,Tryz.func186.trans (congrArg some (by kernel_rfl))⟩
 f14:=⟨Tryz.f208.name,by decide,Tryz.func208.trans (congrArg some (by kernel_rfl))⟩
 f15:=Tryz.func205.trans (congrArg some (by kernel_rfl))
 f20:=⟨Tryz.f225.name,by decide,Tryz.func225.trans (congrArg some (by kernel_rfl))⟩
 f21:=⟨Tryz.f226.name,by decide,Tryz.func226.trans (congrArg some (by kernel_rfl))⟩
 f22:=⟨Tryz.f227.name,by decide,Tryz.func227.trans (congrArg some (by kernel_rfl))⟩
 f23:=⟨Tryz.f228.name,by decide,Tryz.func228.trans (congrArg some (by kernel_rfl))⟩
 f24:=⟨Tryz.f229.name,by decide,Tryz.func229.trans (congrArg some (by kernel_rfl))⟩
 f25:=⟨Tryz.f230.name,by decide,Tryz.func230.trans (congrArg some (by kernel_rfl))⟩
 f26:=⟨Tryz.f231.name,by decide,Tryz.func231.trans (congrArg some (by kernel_rfl))⟩
 f27:=⟨Tryz.f232.name,by decide,Tryz.func232.trans (congrArg some (by kernel_rfl))⟩
 f28:=Tryz.func222.trans (congrArg some (by kernel_rfl))
 f29:=Tryz.func223.trans (congrArg some (by kernel_rfl))
 f46:=⟨Tryz.f252.name,by decide,Tryz.func252.trans (congrArg some (by kernel_rfl))⟩
 f47:=Tryz.func247.trans (congrArg some (by kernel_rfl))
 f48:=Tryz.func248.trans (congrArg some (by kernel_rfl))
 f49:=⟨Tryz.f253.name,by decide,Tryz.func253.trans (congrArg some (by kernel_rfl))⟩
 f50:=⟨Tryz.f254.name,by decide,Tryz.func254.trans (congrArg some (by kernel_rfl))⟩
 f57:=⟨Tryz.f262.name,by decide,Tryz.func262.trans (congrArg some (by kernel_rfl))⟩
 t0:=Tryz.underlying0
 a0:=Tryz.isAgg0
 z0:=Tryz.sizeOf0
 v0:=Tryz.zeroValue0
 t3:=Tryz.underlying3
 a3:=Tryz.isAgg3
 z3:=Tryz.sizeOf3
 v3:=Tryz.zeroValue3
 t4:=Tryz.underlying4
 a4:=Tryz.isAgg4
 z4:=Tryz.sizeOf4
 v4:=Tryz.zeroValue4
 t5:=Tryz.underlying5
 a5:=Tryz.isAgg5
 z5:=Tryz.sizeOf5
 v5:=Tryz.zeroValue5
 t9:=Tryz.underlying9
 a9:=Tryz.isAgg9
 z9:=Tryz.sizeOf9
 v9:=Tryz.zeroValue9
 t22:=Tryz.underlying92
 a22:=Tryz.isAgg92
 z22:=Tryz.sizeOf92
 v22:=Tryz.zeroValue92
 t25:=Tryz.underlying198
 a25:=Tryz.isAgg198
 z25:=Tryz.sizeOf198
 v25:=Tryz.zeroValue198
 t39:=Tryz.underlying36
 a39:=Tryz.isAgg36
 z39:=Tryz.sizeOf36
 v39:=Tryz.zeroValue36
 t45:=Tryz.underlying224
 a45:=Tryz.isAgg224
 z45:=Tryz.sizeOf224
 v45:=Tryz.zeroValue224
 t46:=Tryz.underlying225
 a46:=Tryz.isAgg225
 z46:=Tryz.sizeOf225
 v46:=Tryz.zeroValue225
 t50:=Tryz.underlying138
 a50:=Tryz.isAgg138
 z50:=Tryz.sizeOf138
 v50:=Tryz.zeroValue138
 t53:=Tryz.underlying232
 a53:=Tryz.isAgg232
 z53:=Tryz.sizeOf232
 v53:=Tryz.zeroValue232
 t55:=Tryz.underlying234
 a55:=Tryz.isAgg234
 z55:=Tryz.sizeOf234
 v55:=Tryz.zeroValue234
 t66:=Tryz.underlying248
 a66:=Tryz.isAgg248
 z66:=Tryz.sizeOf248
 v66:=Tryz.zeroValue248
 t70:=Tryz.underlying252
 a70:=Tryz.isAgg252
 z70:=Tryz.sizeOf252
 v70:=Tryz.zeroValue252
 t76:=Tryz.underlying260
 a76:=Tryz.isAgg260
 z76:=Tryz.sizeOf260
 v76:=Tryz.zeroValue260
 t77:=Tryz.underlying261
 a77:=Tryz.isAgg261
 z77:=Tryz.sizeOf261
 v77:=Tryz.zeroValue261 }
end Go.Proofs
namespace Go.Proofs.YtelkcohhagblaaaGreat
open Go.RowKit Go.Shelf Go.Sort
set_option maxHeartbeats 4000000
set_option maxRecDepth 100000
abbrev SId:={ x:Shd // 1≤x.id∧x.id≤1000000 }
instance:Inhabited SId:=⟨⟨⟨1,⟨#[]⟩,0,0,0,false⟩,by decide⟩⟩
def scs (l:List Shd):List Value:=l.flatMap Shd.cs
theorem scs_append (a b:List Shd):scs (a ++b)=scs a ++scs b:=by simp [scs]
theorem scs_length (l:List Shd):(scs l).length=l.length * 6:=flatS_len (f:=Shd.cs) (k:=6) (fun _=>rfl) l
theorem scs_one (l:List Shd):∀ u ∈ scs l,u.oneCell'=true:=by
 intro u hu
 obtain ⟨x,_,hx⟩:=List.mem_flatMap.1 hu
 simp only [Shd.cs,List.mem_cons,List.not_mem_nil,or_false] at hx
 rcases hx with rfl | rfl | rfl | rfl | rfl | rfl <;> rfl
def encS (x:SId):List Value:=x.1.cs
def cfS (x y:SId):Int:=x.1.id - y.1.id
theorem swoS:SWO (ltOf cfS) where
 irrefl x:=by simp [ltOf,cfS]
 trans x y z h1 h2:=by
  unfold ltOf cfS at *
  rw [decide_eq_true_eq] at *
  omega
 ntrans x y z h1 h2:=by
  unfold ltOf cfS at *
  rw [decide_eq_false_iff_not] at *
  omega
theorem ssherds1 (x y:SId) (W:World):Calls Tryz.prog 187 #[.agg (encS x).toArray,.agg (encS y).toArray] W fun e w'=>e=.returned (.int .i64 (cfS x y))∧∃ q os',w'=grow (W.drewN q) os':=by
 obtain ⟨x,hx1,hx2⟩:=x
 obtain ⟨y,hy1,hy2⟩:=y
 unfold encS cfS
 simp only [Shd.cs]
 have hX:=alKeep (o':=Obj.cells #[.int .i64 y.id,.string y.wa,.int .i64 y.pit,.int .i64 y.ly,.int .i64 y.co,.bool y.ft] 72) (World.alloc_heap_new W (Obj.cells #[.int .i64 x.id,.string x.wa,.int .i64 x.pit,.int .i64 x.ly,.int .i64 x.co,.bool x.ft] 72))
 have hY:=World.alloc_heap_new (W.alloc (Obj.cells #[.int .i64 x.id,.string x.wa,.int .i64 x.pit,.int .i64 x.ly,.int .i64 x.co,.bool x.ft] 72)) (Obj.cells #[.int .i64 y.id,.string y.wa,.int .i64 y.pit,.int .i64 y.ly,.int .i64 y.co,.bool y.ft] 72)
 rw [World.size_alloc] at hY
 have c0:=(SL.cells_of hX).1 0
 have k0:=(SL.cells_of hY).1 0
 simp at c0 k0
 clear hX hY
 go_enter Tryz.func187,Tryz.ntmps187
 go_wp2
 go_ret
 exact ⟨rfl,0,#[Obj.cells #[.int .i64 x.id,.string x.wa,.int .i64 x.pit,.int .i64 x.ly,.int .i64 x.co,.bool x.ft] 72,Obj.cells #[.int .i64 y.id,.string y.wa,.int .i64 y.pit,.int .i64 y.ly,.int .i64 y.co,.bool y.ft] 72],by rw [alloc_eq_grow,alloc_eq_grow,grow_grow];rfl⟩
theorem encS_get (x:SId) {j:Nat} (hj:j<6):(encS x)[j]?=some ((encS x)[j]!):=by
 have hl:(encS x).length=6:=rfl
 rw [List.getElem?_eq_getElem (by omega),getElem!_pos (encS x) j (by omega)]
theorem sid_list {l:List Shd} (h:∀ x ∈ l,1≤x.id∧x.id≤1000000):∃ ds:List SId,ds.map (·.1)=l :=
 ⟨l.pmap Subtype.mk h,by rw [List.map_pmap];simp⟩
theorem ssort (base:Nat) (v:Value) (l:List Shd) (w:World) (h:w.ownsRow base 72 6 v l.length (scs l)) (hr:∀ x ∈ l,1≤x.id∧x.id≤1000000) (hn:l.Pairwise fun a b=>a.id≠b.id) (hl:l.length≤1000000) :
 Calls Tryz.prog 186 #[v,.func (.func 187) #[] #[]] w fun e w'=>e=.returned (.tuple #[])∧w'.ownsRow base 72 6 v l.length (scs (sortS l))∧SL.Chg v.ownBlock.toList w w':=by
 have h0:=h
 obtain ⟨hxl,⟨rfl,hn0⟩ | ⟨g,cap,cur,rfl,hbg,hg,h1,h2,h3,h4⟩⟩:=h
 ·have hle:l=[]:=List.length_eq_zero_iff.1 hn0
  subst hle
  refine (AnyF.slices_SortFunc_none Tryz.sortFA none 0 _ w).mono ?_
  rintro e w' ⟨rfl,rfl⟩
  exact ⟨rfl,World.ownsRow_nil _ _ _ _,.refl _ _⟩
 ·obtain ⟨ds,rfl⟩:=sid_list hr
  have hsc:scs (ds.map (·.1))=ds.flatMap encS:=by unfold scs encS;rw [List.flatMap_map]
  rw [List.length_map] at *
  have hgl:g<w.heap.size:=(Array.getElem?_eq_some_iff.1 hg).1
  have hH:HoldsK encS 6 w g 0 ds.toArray:=by
   intro j hj
   have hj':j<ds.length * 6:=by simpa using hj
   refine ⟨?_,by simp [World.frozen?,hg]⟩
   rw [get_flatK _ _ _ _ (by simpa using hj'),Nat.zero_add,h0.cellAt j (by omega),hsc]
   have:=flatS_get (f:=encS) (k:=6) (fun _=>rfl) ds (j / 6) (j % 6) (by omega) (by omega)
   rw [show j / 6 * 6 +j % 6=j by omega] at this
   rw [this,encS_get _ (by omega)]
   simp [List.getD_eq_getElem?_getD,show j / 6<ds.length by omega]
  refine (AnyQ.slices_SortFunc Tryz.sortFA 6 ?_ ?_ encS (fun _=>rfl) ?_ cfS swoS 187 #[] g 0 cap ds.toArray w (enters_of Tryz.func187 Zk rfl) (fun m os dk _ x y=>ssherds1 x y _) hH hgl Zj).mono ?_
  ·intro w;kernel_rfl
  ·intro w;kernel_rfl
  ·intro x u hu
   exact scs_one [x.1] u (by simpa [scs,encS] using hu)
  ·rintro e w' ⟨rfl,d',n,os,hp,hs,rfl⟩
   obtain ⟨p1,p2,p3⟩:=hp
   have p1:d'.size=ds.length:=by simpa using p1
   have hperm:d'.toList.Perm ds:=by
    have:=p3
    rw [show d'.extract 0 ds.toArray.size=d' by rw [show ds.toArray.size=d'.size by simp [p1]];simp] at this
    simpa using this
   have hm:d'.toList.map (·.1)=sortS (ds.map (·.1)):=by
    refine sorted_one ((hperm.map _).trans (sortS_perm _).symm) ?_ (sortS_sorted _) ?_
    ·rw [List.pairwise_map,List.pairwise_iff_getElem]
     intro i j hi hj hij
     have hi':i<d'.size:=by simpa using hi
     have hj':j<d'.size:=by simpa using hj
     have:=hs i j (Nat.zero_le _) hij Zj
     rw [getElem!_pos d' i hi',getElem!_pos d' j hj'] at this
     have h9:¬ (d'[j].1.id - d'[i].1.id<0):=by unfold ltOf cfS at this;rwa [decide_eq_false_iff_not] at this
     show (d'.toList[i]).1.id≤(d'.toList[j]).1.id
     rw [Array.getElem_toList,Array.getElem_toList]
     omega
    ·exact ((hperm.map (·.1)).pairwise_iff (fun h=>Ne.symm h)).2 hn
   rw [← hm]
   have hgk:(sortWorldK encS 6 w g 0 n d' os).heap[g]?=some (.cells (putCells id 0 (flatK encS 6 d') cur) 72 (0,0)):=by
    have hg':w.heap[g]=.cells cur 72 (0,0):=(Array.getElem?_eq_some_iff.1 hg).2
    simp [sortWorldK,putRowK,grow,putRow,mapBlock,Sort.ahead,Array.getElem?_append,Array.getElem_modify,hgl,hg',onCells]
   refine ⟨rfl,⟨by rw [scs_length,List.length_map,Array.length_toList,p1],.inr ⟨g,cap,putCells id 0 (flatK encS 6 d') cur,rfl,hbg,hgk,h1,h2,by simpa [putCells] using h3,?_⟩⟩,⟨rfl,rfl,rfl,by simp [sortWorldK,putRowK,grow,putRow,mapBlock,Sort.ahead],fun k hk hne=>?_⟩⟩
   ·apply List.ext_getElem?
    intro j
    have hsd:scs (d'.toList.map (·.1))=d'.toList.flatMap encS:=by unfold scs encS;rw [List.flatMap_map]
    rw [List.getElem?_take,hsd]
    by_cases hj:j<ds.length * 6
    ·have hjc:j<cur.size:=by have:ds.length * 6≤cap * 6:=Nat.mul_le_mul_right _ h1;omega
     have:=flatS_get (f:=encS) (k:=6) (fun _=>rfl) d'.toList (j / 6) (j % 6) (by rw [Array.length_toList];omega) (by omega)
     rw [show j / 6 * 6 +j % 6=j by omega] at this
     rw [this,encS_get _ (by omega),if_pos hj,Array.getElem?_toList]
     simp only [putCells,Array.getElem?_mapIdx,Array.getElem?_eq_getElem hjc,Option.map_some]
     rw [if_pos Zj,Nat.sub_zero,get_flatK _ _ _ _ (by omega)]
     simp [List.getD_eq_getElem?_getD,show j / 6<d'.size by omega]
    ·rw [if_neg hj,List.getElem?_eq_none]
     rw [flatS_len (f:=encS) (k:=6) (fun _=>rfl),Array.length_toList,p1]
     omega
   ·have hgk:g≠k:=fun e=>hne (by simp [Value.ownBlock,e])
    simp [sortWorldK,putRowK,grow,putRow,mapBlock,Sort.ahead,Array.getElem?_append,Array.getElem_modify,hk,hgk]
open Go.RowKit Go.Shelf
set_option maxHeartbeats 8000000
set_option maxRecDepth 100000
theorem elemH:Elem Tryz.prog 92 72 (.agg #[.int .i64 0,.string ⟨#[]⟩,.int .i64 0,.int .i64 0,.int .i64 0,.bool false]) 6 56:=⟨Tryz.underlying92,info_parts Zk,rfl,by decide⟩
theorem shdsL_succ {s:List Itm} {k:Nat} (hk:k<s.length):shdsL (s.take (k +1))=shdsL (s.take k) ++(if (s.getD k default).kd=1 then [(s.getD k default).shd] else []):=by
 unfold shdsL
 rw [List.take_succ_eq_append_getElem hk,List.filter_append,List.map_append,List.getD_eq_getElem?_getD,List.getElem?_eq_getElem hk]
 congr 1
 by_cases h:s[k].kd=1 <;> simp [h]
theorem ssherds_any (a:Option Addr) (n cap:Nat) (s:List Itm) (w:World) (hs:ItmsAt w a n cap s) (hl:s.length≤300) (hn:s.Pairwise fun x y=>x.id≠y.id) (hr:∀ x ∈ s,1≤x.id∧x.id≤1000000) :
 Calls Tryz.prog 131 #[.slice a n cap] w (RowPost w 72 6 (sherdsL s).length (scs (sherdsL s))):=by
 obtain rfl:=hs.len
 have hsm:=hs.small
 have HP:=Lib.hid (show ∀ v w',Below w.heap.size w w'→w'.ownsRow w.heap.size 72 6 v (sherdsL s).length (scs (sherdsL s))→RowPost w 72 6 (sherdsL s).length (scs (sherdsL s)) (.returned v) w' from fun v w' h1 h2=>⟨v,rfl,h1,h2⟩)
 generalize RowPost w 72 6 (sherdsL s).length (scs (sherdsL s))=Post at *
 have hSl:∀ k,(shdsL (s.take k)).length≤300:=fun k=>by
  exact Z8z
 have hSo:=fun v W (ho:W.ownsRow w.heap.size 72 6 v (shdsL s).length (scs (shdsL s)))=>ssort w.heap.size v (shdsL s) W ho (fun y hy=>by
  unfold shdsL at hy
  obtain ⟨x,hx,rfl⟩:=List.mem_map.1 hy
  exact hr x (List.mem_filter.1 hx).1) (shdsL_ids hn) (by have:=hSl s.length;rw [List.take_length] at this;omega)
 have HSo:=Lib.hid hSo
 have HSl:=Lib.hid hSl
 have Hn:=Lib.hid hn
 clear hSo hSl hn hr
 go_enter Tryz.func131,Tryz.ntmps131
 go_wp2_with fail
 go_loopw [3,10] (fun r i wr=>∃ k:Nat,k≤s.length∧i=.int .i64 k∧wr.ownsRow w.heap.size 72 6 r (shdsL (s.take k)).length (scs (shdsL (s.take k)))∧Below w.heap.size w wr) (fun _ i _=>s.length - (RowKit.intOf i).toNat)
 case atStart=>exact ⟨0,Nat.zero_le _,rfl,World.ownsRow_nil _ _ _ _,Below.refl _ _⟩
 case round =>
 obtain ⟨k,hk,rfl,hro,hB⟩:=hrel
 have hnn:(0:Int)≤k:=by omega
 by_cases hlt:k<s.length
 ·have i1:(k:Int)<(s.length:Int):=by omega
  have hx1:=hs.below hB
  obtain ⟨b,o,rfl,hbl,hdc⟩:=hx1.get hlt
  have Hsu:=Lib.hid (shdsL_succ hlt)
  have Hnx:=HSl.out k
  have hso:=sherdO_own Hn.out (Itm.mem hlt)
  have hsh:=fun W (hi:ItmsAt W (some ⟨b,o,none⟩) s.length cap s)=>ssherd_any (some ⟨b,o,none⟩) s.length cap s (s.getD k default).id W hi
  generalize s.getD k default=x at *
  generalize shdsL (s.take k)=L at *
  obtain ⟨va,vc,rfl,_⟩:=owns_slice hro
  have hal:=one_alloc wr (Obj.cells #[.int .i64 x.id,.int .i64 x.kn,.int .u8 x.kd,.string x.wa,.int .i64 x.pit,.int .i64 x.ly,.int .i64 x.co,.bool x.ft,.int .i64 x.sh,.int .i64 x.fr,.int .i64 x.tw,.int .i64 x.lo,.int .i64 x.hi,.string x.st,.int .i64 x.li,.int .i64 x.vo] 24)
  have hX:=(ItmCells.of_heap (World.alloc_heap_new wr (Obj.cells #[.int .i64 x.id,.int .i64 x.kn,.int .u8 x.kd,.string x.wa,.int .i64 x.pit,.int .i64 x.ly,.int .i64 x.co,.bool x.ft,.int .i64 x.sh,.int .i64 x.fr,.int .i64 x.tw,.int .i64 x.lo,.int .i64 x.hi,.string x.st,.int .i64 x.li,.int .i64 x.vo] 24))).1.c0
  have hcs:=hsh _ (hx1.below hal)
  unfold ShdPost at hcs
  rw [hso] at hcs
  have HR:=Lib.hid hro
  clear hx1 hsh hso hro
  by_cases hk1:x.kd=1
  ·rw [if_pos hk1] at hcs Hsu
   simp only [Option.getD_some,Option.isSome_some,Shd.v,Shd.cs,Itm.shd] at hcs
   clear hk1
   go_wp2_with (first
    | (refine wpList_loadI rfl _ rfl rfl hdc ?_)
    | (refine wpList_storeI_new rfl _ _ rfl rfl rfl rfl ?_)
    | (go_at_call 150;(with_reducible refine hcs.mono ?_);rintro e w2 ⟨rfl,hb2⟩;have hB2:=(hB.ch2 hal).ch2 hb2;have hr2:=(HR.out.up hal (Nat.le_refl _)).up hb2 (Nat.le_refl _);have hr3:=(hr2.up (one_alloc w2 (Obj.cells #[.int .i64 x.id,.string x.wa,.int .i64 x.pit,.int .i64 x.ly,.int .i64 x.co,.bool x.ft] 72)) (Nat.le_refl _)).up (one_alloc _ (Obj.cells #[.int .i64 x.id,.string x.wa,.int .i64 x.pit,.int .i64 x.ly,.int .i64 x.co,.bool x.ft] 72)) (Nat.le_refl _);have hsl:=World.alloc_heap_new (w2.alloc (Obj.cells #[.int .i64 x.id,.string x.wa,.int .i64 x.pit,.int .i64 x.ly,.int .i64 x.co,.bool x.ft] 72)) (Obj.cells #[.int .i64 x.id,.string x.wa,.int .i64 x.pit,.int .i64 x.ly,.int .i64 x.co,.bool x.ft] 72);rw [World.size_alloc] at hsl;have hz2:=hB2.size)
    | (at_builtin;refine wpList_app elemH rfl _ _ rfl hr3 rfl rfl (RowAt.of_heap hsl) (by simp) (fun u hu=>by simp at hu;rcases hu with rfl | rfl | rfl | rfl | rfl | rfl <;> rfl) Z1s (by omega) Zj ?_;intro v' w3 hr4 hg4 hb4 _ _))
   obtain ⟨wa,wc,rfl,_⟩:=owns_slice hr4
   have hb9:=((hB2.ch2 (one_alloc w2 (Obj.cells #[.int .i64 x.id,.string x.wa,.int .i64 x.pit,.int .i64 x.ly,.int .i64 x.co,.bool x.ft] 72))).ch2 (one_alloc _ (Obj.cells #[.int .i64 x.id,.string x.wa,.int .i64 x.pit,.int .i64 x.ly,.int .i64 x.co,.bool x.ft] 72))).trans hb4
   have HQ:=Lib.hid (And.intro hr4 hb9)
   clear hr4 hg4 hb4 hr2 hr3 hsl hB2 hb2 hcs hb9
   go_wp2_with fail
   go_roundw
   case rel=>exact ⟨k +1,by omega,by go_num,by rw [Hsu.out,List.length_append,scs_append];exact HQ.out.1,HQ.out.2⟩
   case measure=>simp [RowKit.intOf];omega
  ·rw [if_neg hk1] at hcs Hsu
   simp only [Option.getD_none,Option.isSome_none,Shd.v,Shd.cs,Shd.zero] at hcs
   clear hk1
   go_wp2_with (first
    | (refine wpList_loadI rfl _ rfl rfl hdc ?_)
    | (refine wpList_storeI_new rfl _ _ rfl rfl rfl rfl ?_)
    | (go_at_call 150;(with_reducible refine hcs.mono ?_);rintro e w2 ⟨rfl,hb2⟩))
   have hB2:=((hB.ch2 hal).ch2 hb2).ch2 (one_alloc w2 (Obj.cells #[.int .i64 0,.string ⟨#[]⟩,.int .i64 0,.int .i64 0,.int .i64 0,.bool false] 72))
   have hr2:=((HR.out.up hal (Nat.le_refl _)).up hb2 (Nat.le_refl _)).up (one_alloc w2 (Obj.cells #[.int .i64 0,.string ⟨#[]⟩,.int .i64 0,.int .i64 0,.int .i64 0,.bool false] 72)) (Nat.le_refl _)
   go_roundw
   case rel=>exact ⟨k +1,by omega,by go_num,by rw [Hsu.out,List.append_nil];exact hr2,hB2⟩
   case measure=>simp [RowKit.intOf];omega
 ·have hke:s.take k=s:=List.take_of_length_le (by omega)
  rw [hke] at hro
  have i1:¬ (k:Int)<(s.length:Int):=by omega
  have hS:=HSo.out _ _ hro
  have HR:=Lib.hid (SL.row_bounds hro)
  have HB:=Lib.hid hB
  obtain ⟨va,vc,rfl,_⟩:=owns_slice hro
  clear hro hke hlt hk hB
  have hln:(shdsL s).length=(sherdsL s).length:=(sortS_len _).symm
  rw [show sortS (shdsL s)=sherdsL s from rfl] at hS
  have Hln:=Lib.hid hln
  clear hln
  go_wp2_with (go_at_call 186;(with_reducible refine hS.mono ?_);rintro e w4 ⟨rfl,ho4,hc4⟩)
  exact HP.out _ _ (HB.out.trans (hc4.belowE_w HB.out.size (fun k hk=>(HR.out k hk).1))) (by rw [← Hln.out];exact ho4)
theorem r2Counting_any (a:Option Addr) (n cap:Nat) (l:List Itm) (day:Int) (w:World) (h:ItmsAt w a n cap l) (hcap:l.length≤cap) (hs:l.length≤1000) :
 Calls Tryz.prog 57 #[.slice a n cap,.int .i64 day] w (RowE w (chkI l).2 (cntL l day)):=by
 have hCh:=fun W hi=>r2Check_any a n cap l W hi hcap
 have hCo:=fun W hi=>r2counting_any a n cap l day W hi hs
 unfold PairI at hCh
 unfold RowPost at hCo
 have hE:cntL l day=if (chkI l).2=0 then countL l day else []:=rfl
 have HP:=Lib.hid (show ∀ w' v,Below w.heap.size w w'→w'.ownsRow w.heap.size 24 16 v (cntL l day).length (ics (cntL l day))→RowE w (chkI l).2 (cntL l day) (.returned (.tuple #[v,.int .i64 (chkI l).2])) w' from fun w' v h1 h2=>⟨v,rfl,h1,h2⟩)
 generalize RowE w (chkI l).2 (cntL l day)=Post at *
 rw [hE] at HP
 clear hE
 generalize (chkI l).1=C1 at *
 generalize (chkI l).2=C2 at *
 generalize countL l day=N at *
 by_cases h0:C2=0
 ·subst h0
  rw [if_pos rfl] at HP
  go_enter Tryz.func57,Tryz.ntmps57
  go_wp2_with (first
   | (go_at_call 22;(with_reducible refine (hCh _ h).mono ?_);rintro e w1 ⟨rfl,hb1⟩)
   | (go_at_call 129;(with_reducible refine (hCo _ (h.below hb1)).mono ?_);rintro e w2 ⟨v,rfl,hb2,ho2⟩;obtain ⟨va,vc,rfl,_⟩:=owns_slice ho2))
  have hB:=hb1.ch2 hb2
  exact HP.out _ _ hB (SL.row_base ho2 hb1.size)
 ·rw [if_neg h0] at HP
  have e2:(C2 != 0)=true:=by simpa using h0
  clear h0 hCo
  go_enter Tryz.func57,Tryz.ntmps57
  go_wp2_with (go_at_call 22;(with_reducible refine (hCh _ h).mono ?_);rintro e w1 ⟨rfl,hb1⟩)
  exact HP.out _ _ hb1 (World.ownsRow_nil _ _ _ _)
theorem sortS_snoc (l:List Shd) (x:Shd):sortS (l ++[x])=putS (sortS l) x:=by
 unfold sortS
 rw [List.foldl_append]
 rfl
/-- Where a sherd is put into an ascending list. -/
theorem put_at {l:List Shd} (hs:l.Pairwise fun a b=>a.id≤b.id) {x:Shd} {k:Nat} (hk:k≤l.length) (ha:∀ j,k≤j→j<l.length→x.id<(l.getD j default).id) (hb:k=0∨(l.getD (k - 1) default).id≤x.id) :
 putS l x=l.take k ++[x] ++l.drop k:=by
 have h1:∀ y ∈ l.take k,y.id≤x.id:=fun y hy=>by
  rcases hb with hb | hb
  ·subst hb;simp at hy
  ·obtain ⟨j,hj,rfl⟩:=List.getElem_of_mem hy
   rw [List.length_take] at hj
   rw [List.getElem_take]
   have hk1:k - 1<l.length:=by omega
   rw [List.getD_eq_getElem?_getD,List.getElem?_eq_getElem hk1] at hb
   simp only [Option.getD_some] at hb
   by_cases e:j=k - 1
   ·subst e;exact hb
   ·have:=List.pairwise_iff_getElem.1 hs j (k - 1) (by omega) hk1 (by omega)
    omega
 have h2:∀ y ∈ l.drop k,¬ y.id≤x.id:=fun y hy=>by
  obtain ⟨j,hj,rfl⟩:=List.getElem_of_mem hy
  rw [List.length_drop] at hj
  rw [List.getElem_drop]
  have:=ha (k +j) (by omega) (by omega)
  rw [List.getD_eq_getElem?_getD,List.getElem?_eq_getElem (by omega)] at this
  simp only [Option.getD_some] at this
  omega
 unfold putS
 have e1:l.takeWhile (fun y=>decide (y.id≤x.id))=l.take k:=by
  conv=>lhs;rw [← List.take_append_drop k l]
  rw [List.takeWhile_append_of_pos (fun y hy=>by simpa using h1 y hy)]
  cases hd:l.drop k with
  | nil=>simp
  | cons z t =>
    have:=h2 z (by rw [hd];simp)
    rw [List.takeWhile_cons_of_neg (by simpa using this)]
    simp
 have e2:l.dropWhile (fun y=>decide (y.id≤x.id))=l.drop k:=by
  conv=>lhs;rw [← List.take_append_drop k l]
  rw [List.dropWhile_append_of_pos (fun y hy=>by simpa using h1 y hy)]
  cases hd:l.drop k with
  | nil=>simp
  | cons z t =>
    have:=h2 z (by rw [hd];simp)
    rw [List.dropWhile_cons_of_neg (by simpa using this)]
 rw [e1,e2]
 simp
set_option maxHeartbeats 16000000
theorem shd_get {w:World} {a:Option Addr} {cap:Nat} {l:List Shd} (h:RowAt w a cap (scs l)) {i:Nat} (hi:i<l.length):∃ b off,a=some ⟨b,off,none⟩∧b<w.heap.size∧w.cell? ⟨b,off +i * 6,none⟩=some (.int .i64 (l.getD i default).id):=by
 have g:=fun j hj=>flatS_get (f:=Shd.cs) (k:=6) (fun _=>rfl) l i j hi hj
 obtain ⟨b,off,h1,h2,h3⟩:=rowS_cells h (by intro e;have:=scs_length l;rw [e] at this;simp at this;omega)
 exact ⟨b,off,h1,h2,h3 (i * 6 +0) _ ((g 0 (by omega)).trans rfl)⟩
theorem row_fst {w:World} {a:Option Addr} {cap:Nat} {vs ws:List Value} (h:RowAt w a cap (vs ++ws)):RowAt w a cap vs:=by
 constructor
 ·intro ha
  have:=h.nil ha
  simp at this
  exact ⟨this.1.1,this.2⟩
 ·intro x hx
  exact ⟨(h.at_ x hx).1,(h.at_ x hx).2.1,fun i u hi=>(h.at_ x hx).2.2 i u (by rw [List.getElem?_append_left (List.getElem?_eq_some_iff.1 hi).1];exact hi)⟩
theorem row_snd {w:World} {b o cap c2:Nat} {vs ws:List Value} (h:RowAt w (some ⟨b,o,none⟩) cap (vs ++ws)):RowAt w (some ⟨b,o +vs.length,none⟩) c2 ws:=by
 constructor
 ·intro ha;cases ha
 ·intro x hx
  cases hx
  refine ⟨rfl,(h.at_ _ rfl).2.1,fun i u hi=>?_⟩
  have:=(h.at_ _ rfl).2.2 (vs.length +i) u (by rw [List.getElem?_append_right (by omega)];simpa using hi)
  simpa [Nat.add_assoc] using this
theorem row_from {w:World} {b o oc q:Nat} {S:List Shd} (h:RowAt w (some ⟨b,o,none⟩) oc (scs S)) (hq:q≤S.length) (hc:S.length≤oc):RowAt w (if oc=q then some ⟨b,o,none⟩ else some ⟨b,o +q * 6,none⟩) (oc - q) (scs (S.drop q)):=by
 split
 ·rename_i e
  rw [List.drop_eq_nil_of_le (by omega)]
  constructor
  ·intro ha;cases ha
  ·intro x hx
   cases hx
   exact ⟨rfl,(h.at_ _ rfl).2.1,fun i u hi=>by simp [scs] at hi⟩
 ·have e:=row_snd (c2:=oc - q) (vs:=scs (S.take q)) (ws:=scs (S.drop q)) (by rw [← scs_append,List.take_append_drop];exact h)
  rwa [scs_length,List.length_take,Nat.min_eq_left hq] at e
theorem own_put {w:World} {base:Nat} {v:Value} {S:List Shd} {x:Shd} {q:Nat} (hq:q≤S.length) (h:w.ownsRow base 72 6 v (q +1 +(S.length - q)) ((scs (S.take q) ++x.cs) ++scs (S.drop q))):w.ownsRow base 72 6 v (S.take q ++[x] ++S.drop q).length (scs (S.take q ++[x] ++S.drop q)):=by
 have e:(S.take q ++[x] ++S.drop q).length=q +1 +(S.length - q):=by simp;omega
 have e1:scs [x]=x.cs:=by simp [scs]
 rw [e,scs_append,scs_append,e1]
 exact h
theorem scs_one1 (x:Shd):scs [x]=x.cs:=by simp [scs]
theorem sortS_step {N:List Itm} {k:Nat} (hk:k<N.length):sortS (shdsL (N.take (k +1)))=if (N.getD k default).kd=1 then putS (sortS (shdsL (N.take k))) (N.getD k default).shd else sortS (shdsL (N.take k)):=by
 rw [shdsL_succ hk]
 split
 ·exact sortS_snoc _ _
 ·rw [List.append_nil]
theorem r2Sherds_any (a:Option Addr) (n cap:Nat) (l:List Itm) (day:Int) (w:World) (h:ItmsAt w a n cap l) (hcap:l.length≤cap) (hs:l.length≤1000) :
 Calls Tryz.prog 59 #[.slice a n cap,.int .i64 day] w fun e w'=>∃ v,e=.returned (.tuple #[v,.int .i64 (chkI l).2])∧Below w.heap.size w w'∧w'.ownsRow w.heap.size 72 6 v (sherdsL (cntL l day)).length (scs (sherdsL (cntL l day))):=by
 have hC:=r2Counting_any a n cap l day w h hcap hs
 have hw2:∀ x ∈ cntL l day,x.Wide:=fun x hx=>by
  unfold cntL at hx
  split at hx
  ·exact h.wide x (countL_sub hx).1
  ·cases hx
 have hcl:(cntL l day).length≤1000:=by
  unfold cntL
  split
  ·exact Nat.le_trans (countL_len l day) hs
  ·simp
 unfold RowE at hC
 generalize cntL l day=N at *
 generalize (chkI l).2=E at *
 have HP:=Lib.hid (show ∀ v w',Below w.heap.size w w'→w'.ownsRow w.heap.size 72 6 v (sherdsL N).length (scs (sherdsL N))→(fun (e:Ending) (w':World)=>∃ v,e=.returned (.tuple #[v,.int .i64 E])∧Below w.heap.size w w'∧w'.ownsRow w.heap.size 72 6 v (sherdsL N).length (scs (sherdsL N))) (.returned (.tuple #[v,.int .i64 E])) w' from fun v w' h1 h2=>⟨v,rfl,h1,h2⟩)
 generalize hPost:(fun (e:Ending) (w':World)=>∃ v,e=.returned (.tuple #[v,.int .i64 E])∧Below w.heap.size w w'∧w'.ownsRow w.heap.size 72 6 v (sherdsL N).length (scs (sherdsL N)))=Post at *
 clear hPost
 go_enter Tryz.func59,Tryz.ntmps59
 go_wp2_with (go_at_call 57;(with_reducible refine hC.mono ?_);rintro e w2 ⟨v2,rfl,hb2,ho2⟩;obtain ⟨va,vc,rfl,_⟩:=owns_slice ho2)
 have hN:=ItmsAt.of_owns ho2 (by omega) hw2
 have H1:=Lib.hid hb2
 have Hlen:∀ k,(sortS (shdsL (N.take k))).length≤1000:=fun k=>by
  rw [sortS_len]
  exact Z8z
 have HLn:=Lib.hid Hlen
 clear h ho2 hw2 hC hb2 Hlen
 go_loopw [8,9] (fun r i wr=>∃ k:Nat,k≤N.length∧i=.int .i64 k∧wr.ownsRow w2.heap.size 72 6 r (sortS (shdsL (N.take k))).length (scs (sortS (shdsL (N.take k))))∧Below w2.heap.size w2 wr) (fun _ i _=>N.length - (RowKit.intOf i).toNat)
 case atStart=>exact ⟨0,Nat.zero_le _,rfl,World.ownsRow_nil _ _ _ _,Below.refl _ _⟩
 case round =>
  obtain ⟨k,hk,rfl,hro,hB⟩:=hrel
  have hnn:(0:Int)≤k:=by omega
  obtain ⟨oa,oc,rfl,_⟩:=owns_slice hro
  by_cases hlt:k<N.length
  ·have i1:(k:Int)<(N.length:Int):=by omega
   obtain ⟨b,o,rfl,hbz,⟨d0,d1,d2,d3,d4,d5,d6,d7,d8,d9,d10,d11,d12,d13,d14,d15⟩⟩:=(hN.below hB).get hlt
   have Hst:=Lib.hid (sortS_step hlt)
   have hSl:=HLn.out k
   have HSs:=Lib.hid (sortS_sorted (shdsL (N.take k)))
   generalize N.getD k default=x at *
   generalize sortS (shdsL (N.take k))=S at *
   by_cases hkd:x.kd=1
   ·have e1:(x.kd != 1)=false:=by simpa using hkd
    have Hst:=Lib.hid (Hst.out.trans (if_pos hkd))
    clear hkd
    have HR:=Lib.hid hro
    have HB:=Lib.hid hB
    have HN:=Lib.hid hN
    clear hro hB hN
    go_wp2_with fail
    apply SLG.rule0 ?hm [] [31,32,33,34,35,36,37,38,39,40,41,42,43,44,45,46,47,48,49,50,51,52,53,54,55,56,57,58,59,60,61,10] [SLF.pq 31 [] _,SLF.pq 32 [] _,SLF.pq 33 [0,1] _,SLF.pq 34 [2] _,SLF.pq 35 [3] _,SLF.pq 36 [] _,SLF.pq 37 [] _,SLF.pq 38 [5,6] _,SLF.pq 39 [7] _,SLF.pq 40 [8] _,SLF.pq 41 [] _,SLF.pq 42 [] _,SLF.pq 43 [10,11] _,SLF.pq 44 [12] _,SLF.pq 45 [13] _,SLF.pq 46 [] _,SLF.pq 47 [] _,SLF.pq 48 [15,16] _,SLF.pq 49 [17] _,SLF.pq 50 [18] _,SLF.pq 51 [] _,SLF.pq 52 [] _,SLF.pq 53 [20,21] _,SLF.pq 54 [22] _,SLF.pq 55 [23] _,SLF.pq 56 [] _,SLF.pq 57 [] _,SLF.pq 58 [25,26] _,SLF.pq 59 [27] _,SLF.pq 60 [28] _,SLF.pq 61 [4,9,14,19,24,29] _,SL.box 10 [] [] wr.heap.size 72 #[.int .i64 0,.string ⟨#[]⟩,.int .i64 0,.int .i64 0,.int .i64 0,.bool false],SL.box 10 [30,31] [31] wr.heap.size 72 #[.int .i64 x.id,.string x.wa,.int .i64 x.pit,.int .i64 x.ly,.int .i64 x.co,.bool x.ft]] [32] ?hck ?hkp (fun _=>[]) ?hin ?hdj ?hfr ?ob ?en1
    case hm=>kernel_rfl
    case hin=>exact SL.none_held rfl
    case hdj=>simp
    case hfr=>intro us;simp only [SL.frame,SL.put'];simp;exact rfl
    case ob =>
     refine ⟨?_,?_,?_,?_,?_,?_,?_,?_,?_,?_,?_,?_,?_,?_,?_,?_,?_,?_,?_,?_,?_,?_,?_,?_,?_,?_,?_,?_,?_,?_,?_,?_,?_,trivial⟩
     all_goals first
      | (intro us w' Fe hG hu hd hv Kx hK
         try dsimp only
         simp [SL.O] at hu hK
         have hB5:Below wr.heap.size wr w':=hG.below'
         obtain ⟨hc5,hf5⟩:=bcell hB5
         have hs5:=hB5.size
         have p0:=(hc5 b _ hbz).trans d0;have p3:=(hc5 b _ hbz).trans d3;have p4:=(hc5 b _ hbz).trans d4;have p5:=(hc5 b _ hbz).trans d5;have p6:=(hc5 b _ hbz).trans d6;have p7:=(hc5 b _ hbz).trans d7
         clear hv hG
         exact Z5z)
      | skip
     ·refine SLG.ob_sp rfl rfl rfl fun us w' Fe hG hu hd Kx hK=>?_
      try dsimp only
      simp [SL.O] at hu
      have hB5:Below wr.heap.size wr w':=hG.below'
      obtain ⟨hc5,hf5⟩:=bcell hB5
      have hs5:=hB5.size
      have p0:=(hc5 b _ hbz).trans d0;have p3:=(hc5 b _ hbz).trans d3;have p4:=(hc5 b _ hbz).trans d4;have p5:=(hc5 b _ hbz).trans d5;have p6:=(hc5 b _ hbz).trans d6;have p7:=(hc5 b _ hbz).trans d7
      refine SLF.wpo_do (SLF.wanted_free rfl) ?hd ?_
      case hd=>intro c h;cases h
      clear hu hc5 hf5
      go_step
      exact hK _ _ _ _ Zh (.alloc _ _ _) ⟨_,rfl,hs5,World.alloc_heap_new _ _,rfl⟩ (by simp)
     ·refine SLG.ob_no rfl rfl rfl fun us w' Fe hG hu hd Kx hK=>?_
      try dsimp only
      simp [SL.O] at hu
      have hB5:Below wr.heap.size wr w':=hG.below'
      obtain ⟨hc5,hf5⟩:=bcell hB5
      have hs5:=hB5.size
      have p0:=(hc5 b _ hbz).trans d0;have p3:=(hc5 b _ hbz).trans d3;have p4:=(hc5 b _ hbz).trans d4;have p5:=(hc5 b _ hbz).trans d5;have p6:=(hc5 b _ hbz).trans d6;have p7:=(hc5 b _ hbz).trans d7
      refine SLF.wpo_do (SLF.wanted_free rfl) ?hd ?_
      case hd=>intro c h;cases h
      obtain ⟨⟨e30,_⟩,M,e5,hbM,hhM,eF⟩:=hu
      obtain ⟨q0,q1,q2,q3,q4,q5,qf,ql⟩:=cell6 hhM
      clear hc5 hf5 p0 p3 p4 p5 p6 p7
      go_step
      exact hK _ [M] (chg_eq (by simp [SL.box,eF]) (SLG.chg_set6 (E:=[M]) (N:=M) w' (by simp) ..)) ⟨M,e5,hbM,SLG.heap_set6 hhM ..,rfl⟩ (fun k hk=>.inl (by simpa [SL.box,eF] using hk))
    case hck=>kernel_rfl
    case hkp=>kernel_rfl
    intro us w7 Fs hG hu hbd hd
    simp [SL.Used,SL.box] at hu
    obtain ⟨M,e10,hbM,hhM,_⟩:=hu
    have hb7:Below wr.heap.size wr w7:=hG.below'
    rw [e10]
    clear hG hbd hd e10 d0 d1 d2 d3 d4 d5 d6 d7 d8 d9 d10 d11 d12 d13 d14 d15
    have hrow:=RowAt.of_owns (HR.out.up hb7 (Nat.le_refl _))
    have hoc:=row_cap HR.out
    have zM:=(Array.getElem?_eq_some_iff.1 hhM).1
    have HM:=Lib.hid hhM
    have HB7:=Lib.hid (HB.out.ch2 hb7)
    clear hhM hb7
    go_wp2_with fail
    go_loopw [11] (fun v wx=>∃ q:Nat,q≤S.length∧v=.int .i64 q∧(∀ j,q≤j→j<S.length→x.id<(S.getD j default).id)∧Below w7.heap.size w7 wx) (fun v _=>(RowKit.intOf v).toNat)
    case atStart=>exact ⟨S.length,Nat.le_refl _,rfl,fun j h1 h2=>absurd h2 (by omega),Below.refl _ _⟩
    case round =>
     obtain ⟨q,hq,rfl,hup,hBx⟩:=hrel
     have HUp:=Lib.hid hup
     clear hup
     have m0:=(SL.cells_of ((hBx.block M zM).trans HM.out)).1 0
     simp only [List.getElem?_toArray,List.getElem?_cons_zero] at m0
     have tok1:True:=trivial
     have tok2:True:=trivial
     cases q with
     | zero =>
       rcases oa with _ | ⟨bo,oo,so⟩
       ·obtain ⟨hn1,hn2⟩:=hrow.nil rfl
        have hS0:S=[]:=by
         have e:=scs_length S
         rw [hn1] at e
         simp at e
         exact List.eq_nil_of_length_eq_zero (by omega)
        subst hS0 hn2
        clear hn1
        simp only [List.length_nil]
        go_wp2_with fail
        go_quiet (fail)
        have hBy:=belowN (n:=nq) hBx
        have HBy:=Lib.hid hBy
        clear hBx
        generalize wr.drewN nq=wy at *
        have hs1:RowAt (wy.alloc (Obj.cells #[] 72)) none 0 (scs []):=RowAt.nilAt _
        have hlit:=World.ownsRow_lit (base:=wy.heap.size) (e:=72) (size:=6) wy #[] 0 (Nat.le_refl _) (by decide) rfl
        have hMy:=(HBy.out.block M zM).trans HM.out
        have zMy:=(Array.getElem?_eq_some_iff.1 hMy).1
        have HMy:=Lib.hid hMy
        clear hMy m0 hrow
        go_wp2_with (first
         | (at_builtin;clear tok1;refine wpList_app elemH rfl _ _ rfl hlit rfl rfl hs1 (by rfl) (scs_one _) Z1s (by omega) (by simp) ?_;intro v3 w3 hr3 hg3 hb3 _ _;replace hr3:w3.ownsRow wy.heap.size 72 6 v3 0 (scs []):=Z91;obtain ⟨na,nc,rfl,_⟩:=owns_slice hr3;have hC3:=(one_alloc wy (Obj.cells #[] 72)).trans hb3;obtain ⟨q0,q1,q2,q3,q4,q5,qf,ql⟩:=cell6 ((hC3.block M zMy).trans HMy.out);have hsl:=World.alloc_heap_new w3 (Obj.cells #[.int .i64 x.id,.string x.wa,.int .i64 x.pit,.int .i64 x.ly,.int .i64 x.co,.bool x.ft] 72);have hal3:=one_alloc w3 (Obj.cells #[.int .i64 x.id,.string x.wa,.int .i64 x.pit,.int .i64 x.ly,.int .i64 x.co,.bool x.ft] 72);have hr4:=hr3.up hal3 (Nat.le_refl _);have hC4:=hC3.ch2 hal3;clear hlit hs1 hg3 hb3 hr3)
         | (at_builtin;clear tok2;refine wpList_app elemH rfl _ _ rfl hr4 rfl rfl (RowAt.of_heap hsl) (m:=1) (by rfl) (fun u hu=>scs_one [x.shd] u Z98) Z1s (by omega) hC4.size ?_;intro v5 w5 hr5 hg5 hb5 _ _;obtain ⟨ma,mc,rfl,_⟩:=owns_slice hr5;have hC5:=hC4.trans hb5;have hs3:RowAt w5 none 0 (scs []):=RowAt.nilAt _;clear hr4 hsl hg5 hb5 hal3 hC3 q0 q1 q2 q3 q4 q5 qf ql)
         | (at_builtin;refine wpList_app elemH rfl _ _ rfl hr5 rfl rfl hs3 (by rfl) (scs_one _) Z1s (by omega) hC5.size ?_;intro v7 w7 hr7 hg7 hb7 _ _;have HR7:=Lib.hid (And.intro hr7 (hC5.trans hb7));clear hr5 hs3 hr7 hg7 hb7))
        go_roundw
        case rel=>exact ⟨k +1,by omega,by go_num,by rw [Hst.out,put_at HSs.out (k:=0) (by simp) HUp.out (.inl rfl)];exact SL.row_base (own_put (q:=0) (S:=[]) (x:=x.shd) (by simp) HR7.out.1) (Nat.le_trans HB7.out.size HBy.out.size),HB7.out.ch2 (HBy.out.ch2 HR7.out.2)⟩
        case measure=>simp [RowKit.intOf];omega
       obtain ⟨hso,ho2,_⟩:=hrow.at_ _ rfl
       simp only at hso
       subst hso
       have j3:(0:Int)≤(oc:Int):=by omega
       go_wp2_with fail
       go_quiet (fail)
       have hBy:=belowN (n:=nq) hBx
       have HBy:=Lib.hid hBy
       clear hBx
       generalize wr.drewN nq=wy at *
       have hs1:RowAt (wy.alloc (Obj.cells #[] 72)) (some ⟨bo,oo,none⟩) oc (scs (S.take (0))):=(row_fst (ws:=scs (S.drop (0))) Z96).below (HBy.out.ch2 (one_alloc wy _))
       have hlit:=World.ownsRow_lit (base:=wy.heap.size) (e:=72) (size:=6) wy #[] 0 (Nat.le_refl _) (by decide) rfl
       have hMy:=(HBy.out.block M zM).trans HM.out
       have zMy:=(Array.getElem?_eq_some_iff.1 hMy).1
       have HMy:=Lib.hid hMy
       have HRw:=Lib.hid hrow
       clear hMy m0 hrow
       go_wp2_with (first
        | (at_builtin;clear tok1;refine wpList_app elemH rfl _ _ rfl hlit rfl rfl hs1 Z9c (scs_one _) Z1s (by omega) (by simp) ?_;intro v3 w3 hr3 hg3 hb3 _ _;replace hr3:w3.ownsRow wy.heap.size 72 6 v3 (0) (scs (S.take (0))):=Z91;obtain ⟨na,nc,rfl,_⟩:=owns_slice hr3;have hC3:=(one_alloc wy (Obj.cells #[] 72)).trans hb3;obtain ⟨q0,q1,q2,q3,q4,q5,qf,ql⟩:=cell6 ((hC3.block M zMy).trans HMy.out);have hsl:=World.alloc_heap_new w3 (Obj.cells #[.int .i64 x.id,.string x.wa,.int .i64 x.pit,.int .i64 x.ly,.int .i64 x.co,.bool x.ft] 72);have hal3:=one_alloc w3 (Obj.cells #[.int .i64 x.id,.string x.wa,.int .i64 x.pit,.int .i64 x.ly,.int .i64 x.co,.bool x.ft] 72);have hr4:=hr3.up hal3 (Nat.le_refl _);have hC4:=hC3.ch2 hal3;clear hlit hs1 hg3 hb3 hr3)
        | (at_builtin;clear tok2;refine wpList_app elemH rfl _ _ rfl hr4 rfl rfl (RowAt.of_heap hsl) (m:=1) (by rfl) (fun u hu=>scs_one [x.shd] u Z98) Z1s (by omega) hC4.size ?_;intro v5 w5 hr5 hg5 hb5 _ _;obtain ⟨ma,mc,rfl,_⟩:=owns_slice hr5;have hC5:=hC4.trans hb5;have hs3:=(HRw.out.below (HBy.out.ch2 hC5));clear hr4 hsl hg5 hb5 hal3 hC3 q0 q1 q2 q3 q4 q5 qf ql)
        | (at_builtin;refine wpList_app elemH rfl _ _ rfl hr5 rfl rfl hs3 (scs_length S) (scs_one _) Z1s (by omega) hC5.size ?_;intro v7 w7 hr7 hg7 hb7 _ _;have HR7:=Lib.hid (And.intro hr7 (hC5.trans hb7));clear hr5 hs3 hr7 hg7 hb7))
       go_roundw
       case rel=>exact ⟨k +1,by omega,by go_num,by rw [Hst.out,put_at HSs.out (k:=0) (by omega) HUp.out (.inl rfl)];exact SL.row_base (own_put (q:=0) (x:=x.shd) (by omega) HR7.out.1) (Nat.le_trans HB7.out.size HBy.out.size),HB7.out.ch2 (HBy.out.ch2 HR7.out.2)⟩
       case measure=>simp [RowKit.intOf];omega
     | succ p =>
       obtain ⟨b2,o2,rfl,hz2,c0⟩:=shd_get (hrow.below hBx) (i:=p) (by omega)
       have hwr:IntKind.i64.wrap ((p:Int) +1 - 1)=p:=by rw [show (p:Int) +1 - 1=p by omega];exact IntWalk.i64_in _ (by omega)
       have j0:(0:Int)≤p:=by omega
       have j1:(p:Int)<(S.length:Int):=by omega
       have j2:decide ((0:Int)<(p:Int) +1)=true:=by simp <;> omega
       have j3:(p:Int) +1≤(oc:Int):=by omega
       have j4:(0:Int)≤(p:Int) +1:=by omega
       have j5:(p:Int) +1≤(S.length:Int):=by omega
       obtain ⟨yid,hy⟩:∃ y,(S.getD p default).id=y:=⟨_,rfl⟩
       rw [hy] at c0
       have Hy:=Lib.hid hy
       clear hy
       by_cases hg:x.id<yid
       ·have e2:decide (x.id<yid)=true:=by simpa using hg
        have HG:=Lib.hid hg
        clear hg
        go_wp2_with fail
        go_quiet (fail)
        go_wp2_with fail
        go_roundw
        case rel=>exact ⟨p,by omega,by go_num,fun j h1 h2=>by
         by_cases e:j=p
         ·subst e;rw [Hy.out];exact HG.out
         ·exact HUp.out j (by omega) h2,belowN hBx⟩
        case measure=>simp [RowKit.intOf]
       ·have e2:decide (x.id<yid)=false:=by simpa using hg
        have HG:=Lib.hid hg
        clear hg
        go_wp2_with fail
        go_quiet (fail)
        have hBy:=belowN (n:=nq) hBx
        have HBy:=Lib.hid hBy
        clear hBx
        generalize wr.drewN nq=wy at *
        have hs1:RowAt (wy.alloc (Obj.cells #[] 72)) (some ⟨b2,o2,none⟩) oc (scs (S.take (p +1))):=(row_fst (ws:=scs (S.drop (p +1))) Z96).below (HBy.out.ch2 (one_alloc wy _))
        have hlit:=World.ownsRow_lit (base:=wy.heap.size) (e:=72) (size:=6) wy #[] 0 (Nat.le_refl _) (by decide) rfl
        have hMy:=(HBy.out.block M zM).trans HM.out
        have zMy:=(Array.getElem?_eq_some_iff.1 hMy).1
        have HMy:=Lib.hid hMy
        have HRw:=Lib.hid hrow
        clear hMy m0 hrow
        go_wp2_with (first
         | (at_builtin;clear tok1;refine wpList_app elemH rfl _ _ rfl hlit rfl rfl hs1 Z9c (scs_one _) Z1s (by omega) (by simp) ?_;intro v3 w3 hr3 hg3 hb3 _ _;replace hr3:w3.ownsRow wy.heap.size 72 6 v3 (p +1) (scs (S.take (p +1))):=Z91;obtain ⟨na,nc,rfl,_⟩:=owns_slice hr3;have hC3:=(one_alloc wy (Obj.cells #[] 72)).trans hb3;obtain ⟨q0,q1,q2,q3,q4,q5,qf,ql⟩:=cell6 ((hC3.block M zMy).trans HMy.out);have hsl:=World.alloc_heap_new w3 (Obj.cells #[.int .i64 x.id,.string x.wa,.int .i64 x.pit,.int .i64 x.ly,.int .i64 x.co,.bool x.ft] 72);have hal3:=one_alloc w3 (Obj.cells #[.int .i64 x.id,.string x.wa,.int .i64 x.pit,.int .i64 x.ly,.int .i64 x.co,.bool x.ft] 72);have hr4:=hr3.up hal3 (Nat.le_refl _);have hC4:=hC3.ch2 hal3;clear hlit hs1 hg3 hb3 hr3)
         | (at_builtin;clear tok2;refine wpList_app elemH rfl _ _ rfl hr4 rfl rfl (RowAt.of_heap hsl) (m:=1) (by rfl) (fun u hu=>scs_one [x.shd] u Z98) Z1s (by omega) hC4.size ?_;intro v5 w5 hr5 hg5 hb5 _ _;obtain ⟨ma,mc,rfl,_⟩:=owns_slice hr5;have hC5:=hC4.trans hb5;have hs3:=row_from (q:=p +1) (HRw.out.below (HBy.out.ch2 hC5)) (by omega) hoc;clear hr4 hsl hg5 hb5 hal3 hC3 q0 q1 q2 q3 q4 q5 qf ql)
         | (at_builtin;refine wpList_app elemH rfl _ _ rfl hr5 rfl rfl hs3 (by rw [scs_length,List.length_drop]) (scs_one _) Z1s (by omega) hC5.size ?_;intro v7 w7 hr7 hg7 hb7 _ _;have HR7:=Lib.hid (And.intro hr7 (hC5.trans hb7));clear hr5 hs3 hr7 hg7 hb7))
        go_roundw
        case rel=>exact ⟨k +1,by omega,by go_num,by rw [Hst.out,put_at HSs.out (k:=p +1) (by omega) HUp.out (.inr (by rw [Nat.add_sub_cancel,Hy.out];first | exact HG.out | exact Int.not_lt.1 HG.out))];exact SL.row_base (own_put (q:=p +1) (x:=x.shd) (by omega) HR7.out.1) (Nat.le_trans HB7.out.size HBy.out.size),HB7.out.ch2 (HBy.out.ch2 HR7.out.2)⟩
        case measure=>simp [RowKit.intOf];omega
   ·have e1:(x.kd != 1)=true:=by simpa using hkd
    have Hst:=Lib.hid (Hst.out.trans (if_neg hkd))
    clear hkd
    go_wp2_with fail
    go_roundw
    case rel=>exact ⟨k +1,by omega,by go_num,by rw [Hst.out];exact hro,hB⟩
    case measure=>simp [RowKit.intOf];omega
  ·exact Z8j
set_option maxHeartbeats 8000000
open Go
set_option maxHeartbeats 4000000
instance:Inhabited Bd:=⟨⟨0,0,0,0⟩⟩
open Go.RowKit Go.Shelf
set_option maxHeartbeats 8000000
set_option maxRecDepth 100000
/-- What is known of a shelf. -/
structure DifOk (s:List Itm):Prop where
 len:s.length≤300
 ids:s.Pairwise fun x y=>x.id≠y.id
 rng:∀ x ∈ s,1≤x.id∧x.id≤1000000
 shd:∀ id y,sherdO s id=some y→y.id=id∧(3≤y.co∧y.co≤16)∧∀ x ∈ s,x.kd=2∨x.kd=3→x.sh=y.id→ -10000≤x.lo∧x.lo≤10000
/-- The list of Ids that is being made. -/
structure DfI (w wI W:World) (L1:Nat) (r:Value) (ds:List Int):Prop where
 row:W.ownsRow w.heap.size 3 1 r ds.length (ds.map (.int .i64))
 own:∀ k ∈ r.ownBlock.toList,k<L1∨wI.heap.size≤k
 low:Below w.heap.size wI W
 mid:∀ k,L1≤k→k<wI.heap.size→W.heap[k]?=wI.heap[k]?
theorem DfI.up {w wI W W':World} {L1:Nat} {r:Value} {ds:List Int} (h:DfI w wI W L1 r ds) (hw:w.heap.size≤wI.heap.size) (hb:Below W.heap.size W W'):DfI w wI W' L1 r ds:=by
 have hz:=h.low.size
 exact ⟨h.row.up hb (Nat.le_refl _),h.own,h.low.trans (hb.mono (by omega)),fun k h1 h2=>(hb.block k (by omega)).trans (h.mid k h1 h2)⟩
/-- Of a shelf's sherds each is found. -/
theorem DifOk.sh {s:List Itm} (h:DifOk s) {x:Shd} (hx:x ∈ sherdsL s):sherdO s x.id=some x:=by
 have hx2:x ∈ shdsL s:=(sortS_perm _).mem_iff.1 hx
 unfold shdsL at hx2
 obtain ⟨y,hy,rfl⟩:=List.mem_map.1 hx2
 obtain ⟨hy1,hy2⟩:=List.mem_filter.1 hy
 have:=sherdO_own h.ids hy1
 rw [if_pos (by simpa using hy2)] at this
 exact this
open Go
structure KnownAs (l e:List Itm) (day:Int):Prop where
 c:countL e day=countL l day
 k1:(chkI l).2=0
 k2:(chkI e).2=0
theorem KnownAs.lookE {l e:List Itm} {day:Int} (h:KnownAs l e day) (id:Int):lookE e day id=lookE l day id:=by
 unfold Proofs.YtelkcohhagblaaaGreat.lookE
 rw [h.c,h.k1,h.k2]
theorem KnownAs.lookS {l e:List Itm} {day:Int} (h:KnownAs l e day) (id:Int):lookS e day id=lookS l day id:=by
 unfold Proofs.YtelkcohhagblaaaGreat.lookS
 rw [h.c]
theorem KnownAs.wayB {l e:List Itm} {day:Int} (h:KnownAs l e day) (id:Int):wayB e day id=wayB l day id:=by
 unfold Proofs.YtelkcohhagblaaaGreat.wayB
 rw [h.lookS,h.c]
theorem KnownAs.turnB {l e:List Itm} {day:Int} (h:KnownAs l e day) (id:Int):turnB e day id=turnB l day id:=by
 unfold Proofs.YtelkcohhagblaaaGreat.turnB
 rw [h.lookS,h.c]
theorem KnownAs.wayP {l e:List Itm} {day:Int} (h:KnownAs l e day) (id:Int):wayP e day id=wayP l day id:=by
 unfold Proofs.YtelkcohhagblaaaGreat.wayP
 rw [h.lookS]
theorem KnownAs.wayE {l e:List Itm} {day:Int} (h:KnownAs l e day) (id a b:Int):wayE e day id a b=wayE l day id a b:=by
 unfold Proofs.YtelkcohhagblaaaGreat.wayE
 rw [h.lookE,h.lookS,h.wayB,h.wayP]
theorem KnownAs.wayK {l e:List Itm} {day:Int} (h:KnownAs l e day) (id a b:Int):wayK e day id a b=wayK l day id a b:=by
 unfold Proofs.YtelkcohhagblaaaGreat.wayK
 rw [h.wayE,h.wayB,h.wayP]
theorem KnownAs.wayLo {l e:List Itm} {day:Int} (h:KnownAs l e day) (id a b:Int):wayLo e day id a b=wayLo l day id a b:=by
 unfold Proofs.YtelkcohhagblaaaGreat.wayLo
 rw [h.wayK,h.wayB,h.wayP]
theorem KnownAs.wayHi {l e:List Itm} {day:Int} (h:KnownAs l e day) (id a b:Int):wayHi e day id a b=wayHi l day id a b:=by
 unfold Proofs.YtelkcohhagblaaaGreat.wayHi
 rw [h.wayK,h.wayB,h.wayP]
theorem KnownAs.colE {l e:List Itm} {day:Int} (h:KnownAs l e day) (id:Int):colE e day id=colE l day id:=by
 unfold Proofs.YtelkcohhagblaaaGreat.colE
 rw [h.lookE,h.c]
theorem KnownAs.colR {l e:List Itm} {day:Int} (h:KnownAs l e day) (id:Int):colR e day id=colR l day id:=by
 unfold Proofs.YtelkcohhagblaaaGreat.colR
 rw [h.colE,h.c]
open Go.RowKit Go.Shelf
set_option maxHeartbeats 8000000
set_option maxRecDepth 100000
theorem outW_len (l:List Itm) (day id:Int):(outW l day id).length≤400:=by
 unfold outW
 split
 ·rename_i h
  exact chk_len (look_ok h).ways
 ·simp
theorem outT_len (l:List Itm) (day id:Int):(outT l day id).length≤400:=by
 unfold outT
 split
 ·rename_i h
  exact chk_len (look_ok h).turns
 ·simp
end Go.Proofs.YtelkcohhagblaaaGreat
