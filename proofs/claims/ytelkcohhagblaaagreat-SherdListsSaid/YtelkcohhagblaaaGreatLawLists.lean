/-
  The law Lists, walked, and its statement.
-/
import Derived.Test.YtelkcohhagblaaaGreatSe45
import Derived.Test.YtelkcohhagblaaaGreatSe52
import Derived.Test.YtelkcohhagblaaaGreatSe08
import Derived.Sort.Walk0
import Derived.Lib.OwnBridge
import Derived.Test.YtelkcohhagblaaaGreatSe50
import Derived.Test.YtelkcohhagblaaaGreatSe32
import Derived.Test.YtelkcohhagblaaaGreatSe29
import Derived.Test.YtelkcohhagblaaaGreatSe51
import Derived.Sort.OwnSorted
import Derived.Test.YtelkcohhagblaaaGreatSe35
import Derived.Test.YtelkcohhagblaaaGreatSe49
import Derived.Test.YtelkcohhagblaaaGreatRows
import Derived.OpenShut
set_option linter.unusedSimpArgs false
set_option linter.unusedVariables false
set_option linter.unnecessarySimpa false
namespace Go.Proofs.YtelkcohhagblaaaGreat
theorem Z9m {P:Prop}(h:P:=by
 go_enter Tryz.func14,Tryz.ntmps14
 go_wp2_with (first
  | (go_at_call 18;(with_reducible refine hFe.mono ?_);rintro e w1 ⟨rfl,hb1⟩)
  | (go_at_call 20;(with_reducible refine (hSh _).mono ?_);rintro e w2 ⟨rfl,hb2⟩))
 go_ret
 exact ⟨rfl,hb1.ch2 hb2⟩):P:=h
theorem Z9n {P:Prop}(h:P:=by
 go_wp2_with fail
 go_roundw
 case rel=>exact ⟨k,by omega,by go_num,fun j h1 h2=>by
  by_cases e:j=k
  ·subst e;rw [Hx.out,Hl.out];rfl
  ·exact HNo.out j (by omega) h2,trivial⟩
 case measure=>simp [RowKit.intOf] <;> omega):P:=h
theorem Z9o {P:Prop}(h:P:=by
 go_wp2_with fail
 go_quiet (fail)
 go_wp2
 go_roundw
 case rel=>exact ⟨k +1,by omega,by go_num,belowN hB⟩
 case measure=>simp [RowKit.intOf] <;> omega):P:=h
theorem Z9p {P:Prop}(h:P:=by
 unfold cntL
 split
 ·exact Nat.le_trans (countL_len l day) hs
 ·simp):P:=h
theorem Z9q {P:Prop}(h:P:=by
 rw [HA2.out];exact HUp.out):P:=h
theorem Z9r {P:Prop}(h:P:=by
 rw [e,List.map_append,List.map_append]
 exact HR7.out.1):P:=h
theorem Z9s {P:Prop}(h:P:=by
 rw [HA2.out];omega):P:=h
theorem Z9t {P:Prop}(h:P:=by
 simp [results,Tryz.results65,go_sem]):P:=h
theorem Z9u {P:Prop}(h:P:=by
 go_wp2_with fail
 go_ret
 exact ⟨rfl,hB⟩):P:=h
theorem Z9v {P:Prop}(h:P:=by
 simpa using hr3):P:=h
theorem Z9w {P:Prop}(h:P:=by
 simp [hx]):P:=h
theorem Z9x {P:Prop}(h:P:=by
 simp <;> omega):P:=h
end Go.Proofs.YtelkcohhagblaaaGreat

namespace Go.Proofs.YtelkcohhagblaaaGreat
open Go
abbrev Wd:=List UInt8
theorem wd_le_trans {a b c:Wd} (h1:a≤b) (h2:b≤c):a≤c:=List.le_trans h1 h2
theorem wd_le_total (a b:Wd):a≤b∨b≤a:=List.le_total a b
theorem wd_anti {a b:Wd} (h1:a≤b) (h2:b≤a):a=b:=List.le_antisymm h1 h2
theorem wd_not_lt {a b:Wd}:¬ a<b ↔ b≤a:=List.not_lt
theorem wd_le_of_lt {a b:Wd} (h:a<b):a≤b:=List.le_of_lt h
theorem wd_irrefl (a:Wd):¬ a<a:=List.lt_irrefl a
theorem wd_lt_of_le_ne {a b:Wd} (h1:a≤b) (h2:a≠b):a<b:=by
 by_cases h:a<b
 ·exact h
 ·exact absurd (wd_anti h1 (wd_not_lt.1 h)) h2
theorem wd_lt_of_le_lt {a b c:Wd} (h1:a≤b) (h2:b<c):a<c:=wd_lt_of_le_ne (wd_le_trans h1 (wd_le_of_lt h2)) (fun e=>by subst e;exact wd_irrefl b (by have:=wd_anti h1 (wd_le_of_lt h2);rw [← this] at h2 ⊢;exact h2))
theorem wd_lt_trans {a b c:Wd} (h1:a<b) (h2:b<c):a<c:=wd_lt_of_le_lt (wd_le_of_lt h1) h2
def AscW (l:List Wd):Prop:=l.Pairwise (·<·)
theorem AscW.nodup {l:List Wd} (h:AscW l):l.Nodup:=h.imp fun {a b} h=>fun e=>by subst e;exact wd_irrefl _ h
theorem asc_extW {a b:List Wd} (ha:AscW a) (hb:AscW b) (h:∀ x,x ∈ a ↔ x ∈ b):a=b:=by
 have hp:a.Perm b:=(List.perm_ext_iff_of_nodup ha.nodup hb.nodup).2 h
 exact hp.eq_of_pairwise (le:=(·≤·)) (fun x y _ _ h1 h2=>wd_anti h1 h2) (ha.imp fun {a b} h=>wd_le_of_lt h) (hb.imp fun {a b} h=>wd_le_of_lt h)
theorem pw_sortW (l:List Wd):(l.mergeSort fun x y=>decide (x≤y)).Pairwise (·≤·):=by
 have h:=List.pairwise_mergeSort (le:=fun x y:Wd=>decide (x≤y)) (fun a b c h1 h2=>by simp at *;exact wd_le_trans h1 h2) (fun a b=>by simpa using wd_le_total a b) l
 exact h.imp fun {a b} h=>by simpa using h
theorem comp_goW (d:Array Wd) (hs:∀ i j,i≤j→j<d.size→d[i]! ≤d[j]!):∀ m,m≤d.size→AscW (Lib.compactUpTo d m)∧∀ x,x ∈ Lib.compactUpTo d m ↔ ∃ j,j<m∧d[j]! =x
 | 0,_=>by simp [Lib.compactUpTo,AscW]
 | m +1,hm=>by
   obtain ⟨h1,h2⟩:=comp_goW d hs m (by omega)
   rw [Lib.compactUpTo_succ]
   have hk:Lib.keeps d m=decide (m=0∨d[m]! ≠d[m - 1]!):=rfl
   cases hc:Lib.keeps d m
   ·rw [hk] at hc
    simp only [decide_eq_false_iff_not,not_or,Classical.not_not] at hc
    simp only [Bool.false_eq_true,if_false,List.append_nil]
    refine ⟨h1,fun x=>?_⟩
    rw [h2]
    constructor
    ·rintro ⟨j,hj,e⟩;exact ⟨j,by omega,e⟩
    ·rintro ⟨j,hj,e⟩
     by_cases hjm:j=m
     ·subst hjm;exact ⟨j - 1,by omega,by rw [← hc.2];exact e⟩
     ·exact ⟨j,by omega,e⟩
   ·rw [hk,decide_eq_true_eq] at hc
    simp only [if_true]
    refine ⟨List.pairwise_append.2 ⟨h1,by simp,fun x hx y hy=>?_⟩,fun x=>?_⟩
    ·simp only [List.mem_singleton] at hy
     subst hy
     obtain ⟨j,hj,rfl⟩:=(h2 x).1 hx
     have a1:=hs j (m - 1) (by omega) (by omega)
     have a2:=hs (m - 1) m (by omega) (by omega)
     rcases hc with h | h
     ·omega
     ·exact wd_lt_of_le_lt a1 (wd_lt_of_le_ne a2 (fun e=>h e.symm))
    ·rw [List.mem_append,h2]
     constructor
     ·rintro (⟨j,hj,e⟩ | h)
      ·exact ⟨j,by omega,e⟩
      ·simp at h;exact ⟨m,by omega,h.symm⟩
     ·rintro ⟨j,hj,e⟩
      by_cases hjm:j=m
      ·subst hjm;right;simp [e]
      ·left;exact ⟨j,by omega,e⟩
/-- Words, ascending, each once. -/
def uniS (ws:List Wd):List Wd:=Lib.compact (ws.mergeSort fun x y=>decide (x≤y))
theorem uniS_iff (l:List Wd):AscW (uniS l)∧∀ x,x ∈ uniS l ↔ x ∈ l:=by
 unfold uniS
 have hp:=pw_sortW l
 have hm:=List.mergeSort_perm l (fun x y=>decide (x≤y))
 generalize (l.mergeSort fun x y=>decide (x≤y))=q at *
 have hg:=comp_goW q.toArray (fun i j hij hj=>by
  have hj':j<q.length:=by simpa using hj
  rcases Nat.lt_or_ge i j with h | h
  ·have:=List.pairwise_iff_getElem.1 hp i j (by omega) hj' h
   simpa [hj',show i<q.length by omega] using this
  ·have:i=j:=by omega
   subst this
   exact List.le_refl _) q.length (by simp)
 unfold Lib.compact
 refine ⟨hg.1,fun x=>?_⟩
 rw [hg.2,← hm.mem_iff]
 constructor
 ·rintro ⟨j,hj,e⟩
  rw [← e]
  simp [hj]
 ·intro h
  obtain ⟨j,hj,e⟩:=List.getElem_of_mem h
  exact ⟨j,hj,by simp [hj,e]⟩
theorem uniS_len (l:List Wd):(uniS l).length≤l.length:=by
 unfold uniS
 refine Nat.le_trans (Lib.compact_length_le _) ?_
 rw [List.length_mergeSort]
 exact Nat.le_refl _
/-- A word put where it belongs among ascending words. -/
theorem uni_put {l:List Wd} {x:Wd} {k:Nat} (hk:k≤(uniS l).length) (ha:∀ j,k≤j→j<(uniS l).length→x<(uniS l).getD j []) (hb:k=0∨(uniS l).getD (k - 1) []<x) :
 uniS (l ++[x])=(uniS l).take k ++[x] ++(uniS l).drop k:=by
 obtain ⟨hs,hm⟩:=uniS_iff l
 obtain ⟨hs2,hm2⟩:=uniS_iff (l ++[x])
 generalize uniS l=S at *
 have hg:∀ i j (hi:i<S.length) (hj:j<S.length),i<j→S[i]<S[j]:=fun i j hi hj hij=>List.pairwise_iff_getElem.1 hs i j hi hj hij
 have h1:∀ y ∈ S.take k,y<x:=fun y hy=>by
  obtain ⟨i,hi,e⟩:=List.getElem_of_mem hy
  rw [List.length_take] at hi
  rw [List.getElem_take] at e
  rcases hb with h0 | h0
  ·omega
  ·rw [List.getD_eq_getElem?_getD,List.getElem?_eq_getElem (by omega)] at h0
   simp only [Option.getD_some] at h0
   rcases Nat.lt_or_ge i (k - 1) with h2 | h2
   ·have:=hg i (k - 1) (by omega) (by omega) h2
    rw [← e]
    exact wd_lt_trans this h0
   ·have e3:i=k - 1:=by omega
    subst e3
    rw [← e]
    exact h0
 have h2:∀ y ∈ S.drop k,x<y:=fun y hy=>by
  obtain ⟨i,hi,e⟩:=List.getElem_of_mem hy
  rw [List.length_drop] at hi
  rw [List.getElem_drop] at e
  have:=ha (k +i) (by omega) (by omega)
  rw [List.getD_eq_getElem?_getD,List.getElem?_eq_getElem (by omega)] at this
  simp only [Option.getD_some] at this
  rw [← e]
  exact this
 have h3:AscW (S.take k ++[x] ++S.drop k):=by
  unfold AscW
  rw [List.append_assoc,List.pairwise_append]
  refine ⟨hs.sublist (List.take_sublist _ _),?_,?_⟩
  ·rw [List.singleton_append,List.pairwise_cons]
   exact ⟨h2,hs.sublist (List.drop_sublist _ _)⟩
  ·intro u hu v hv
   rw [List.singleton_append,List.mem_cons] at hv
   rcases hv with rfl | hv
   ·exact h1 u hu
   ·exact wd_lt_trans (h1 u hu) (h2 v hv)
 refine asc_extW hs2 h3 fun y=>?_
 rw [hm2,List.mem_append,List.mem_singleton,← hm]
 conv=>lhs;rw [← List.take_append_drop k S]
 simp only [List.mem_append,List.mem_singleton]
 constructor
 ·rintro ((h | h) | h) <;> simp [h]
 ·rintro ((h | h) | h) <;> simp [h]
/-- A word that is there already. -/
theorem uni_has {l:List Wd} {x:Wd} (h:x ∈ uniS l):uniS (l ++[x])=uniS l:=by
 obtain ⟨hs,hm⟩:=uniS_iff l
 obtain ⟨hs2,hm2⟩:=uniS_iff (l ++[x])
 refine asc_extW hs2 hs fun y=>?_
 rw [hm2,hm,List.mem_append,List.mem_singleton]
 constructor
 ·rintro (h1 | rfl)
  ·exact h1
  ·exact (hm _).1 h
 ·exact .inl
open Go.RowKit Go.Shelf Go.Sort Go.Lib
set_option maxHeartbeats 8000000
set_option maxRecDepth 100000
theorem shs_len (s:List Itm):(sherdsL s).length≤s.length:=by
 unfold sherdsL
 rw [sortS_len]
 unfold shdsL
 rw [List.length_map]
 exact List.length_filter_le _ _
theorem uniS_nil:uniS []=[]:=List.eq_nil_of_length_eq_zero (by have:=uniS_len [];simpa using this)
theorem cloneS (a:Option Addr) (n cap:Nat) (xs:List ByteArray) (w:World) (hx:StrsAt w a n cap xs) (hs:xs.length≤1000000) :
 Calls Tryz.prog 188 #[.slice a n cap] w (RowPost w 9 1 xs.length (xs.map .string)):=by
 obtain rfl:=hx.len
 match a,hx with
 | none,hx =>
   obtain ⟨h0,h1⟩:=hx.row.nil rfl
   have h2:xs=[]:=by simpa using h0
   subst h2
   refine (Any.slices_Clone_string_nil Tryz.cloneSA _ _ w).mono ?_
   exact Z2p
 | some ⟨b,o,sp⟩,hx =>
   obtain ⟨h1,h2,h3⟩:=hx.row.at_ _ rfl
   simp only at h1
   subst h1
   refine (Any.slices_Clone_string Tryz.cloneSA b o xs.length cap xs w (Nat.le_refl _) (by omega) (fun j hj=>h3 j _ (by simp [List.getD_eq_getElem?_getD,hj]))).mono ?_
   rintro e w' ⟨v,rfl,ho,_,hb⟩
   rw [List.take_length] at ho
   exact ⟨v,rfl,hb,ho⟩
theorem sortSt (v:Value) (n base:Nat) (xs:List (List UInt8)) (w:World) (h:w.ownsRow base 9 1 v n (xs.map encStr)) (hs:xs.length≤1000000) :
 Calls Tryz.prog 189 #[v] w fun e w'=>e=.returned (.tuple #[])∧w'.ownsRow base 9 1 v n ((xs.mergeSort fun x y=>decide (x≤y)).map encStr)∧SL.Chg v.ownBlock.toList w w':=by
 obtain ⟨hl,⟨rfl,hn⟩ | ⟨g,cap,cur,rfl,hbg,hg,h1,h2,h3,h4⟩⟩:=h
 ·subst hn
  simp at hl
  subst hl
  refine (AnyM.slices_Sort_string_none Tryz.sortSA none 0 w).mono ?_
  rintro e w' ⟨rfl,rfl⟩
  exact ⟨rfl,by simpa using World.ownsRow_nil w' base 9 1,.refl _ _⟩
 ·have hn:xs.length=n:=by simpa using hl
  subst hn
  simp only [Nat.mul_one] at h4
  have hgl:g<w.heap.size:=(Array.getElem?_eq_some_iff.1 hg).1
  refine (AnyM.slices_Sort_string Tryz.sortSA g 0 cap xs w (holds_of_block hg h4) hgl (by omega)).mono ?_
  rintro e w' ⟨rfl,q,os,rfl⟩
  exact ⟨rfl,ownsRow_sorted (by simp) hbg hg h1 h2 h3,.of_grown (grownBy_sorted _) (by simp [Value.ownBlock])⟩
theorem compactSt (v:Value) (n base:Nat) (xs:List (List UInt8)) (w:World) (h:w.ownsRow base 9 1 v n (xs.map encStr)) (hs:xs.length≤1000000) :
 Calls Tryz.prog 190 #[v] w fun e w'=>∃ v',e=.returned v'∧w'.ownsRow base 9 1 v' (Lib.compact xs).length ((Lib.compact xs).map encStr)∧SL.Chg v.ownBlock.toList w w'∧v'.ownBlock=v.ownBlock:=by
 have hcl:=Lib.compact_length_le xs
 have h':=h
 obtain ⟨hl,⟨rfl,hn⟩ | ⟨g,cap,cur,rfl,hbg,hg,h1,h2,h3,h4⟩⟩:=h
 ·subst hn
  simp at hl
  subst hl
  refine (Any.slices_Compact_string_empty Tryz.compactSA none 0 w).mono ?_
  rintro e w' ⟨rfl,rfl⟩
  exact ⟨_,rfl,World.ownsRow_nil _ _ _ _,.refl _ _,rfl⟩
 ·have hn:xs.length=n:=by simpa using hl
  subst hn
  simp only [Nat.mul_one] at h4
  have hgl:g<w.heap.size:=(Array.getElem?_eq_some_iff.1 hg).1
  refine (Any.slices_Compact_string Tryz.compactSA g 0 cap xs w (holds_of_block hg h4) (by omega) h1).mono ?_
  rintro e w' ⟨rfl,q,rfl⟩
  have ho:=Lib.ownsRow_putRow (enc:=encStr) (q:=q) (ys:=Lib.compact xs ++List.replicate (xs.length - (Lib.compact xs).length) []) h' Zj hcl
  rw [List.take_left] at ho
  refine ⟨_,rfl,ho,⟨rfl,rfl,rfl,by simp [putRow,mapBlock,Sort.ahead],fun k hk hne=>?_⟩,rfl⟩
  have hgk:g≠k:=fun e=>hne (by simp [Value.ownBlock,e])
  simp [putRow,mapBlock,Sort.ahead,Array.getElem?_modify,hgk]
theorem enc_data (xs:List ByteArray):xs.map Value.string=(xs.map fun s=>s.data.toList).map encStr:=by
 rw [List.map_map]
 rfl
theorem suniqueS_any (a:Option Addr) (n cap:Nat) (xs:List ByteArray) (w:World) (hx:StrsAt w a n cap xs) (hs:xs.length≤100000) :
 Calls Tryz.prog 132 #[.slice a n cap] w (RowPost w 9 1 (uniS (xs.map fun s=>s.data.toList)).length ((uniS (xs.map fun s=>s.data.toList)).map encStr)):=by
 have hC:=cloneS a n cap xs w hx (by omega)
 have hxl:(xs.map fun s=>s.data.toList).length=xs.length:=by simp
 rw [enc_data,← hxl] at hC
 rw [← hxl] at hs
 have hxn:=hx.len
 rw [← hxl] at hxn
 clear hx
 unfold uniS
 generalize (xs.map fun s=>s.data.toList)=ws at *
 have hS:=fun v w1 (ho:w1.ownsRow w.heap.size 9 1 v ws.length (ws.map encStr))=>sortSt v ws.length w.heap.size ws w1 ho (by omega)
 have hl:(ws.mergeSort fun x y=>decide (x≤y)).length=ws.length:=List.length_mergeSort _
 have hK:=fun v w1 (ho:w1.ownsRow w.heap.size 9 1 v ws.length ((ws.mergeSort fun x y=>decide (x≤y)).map encStr))=>compactSt v ws.length w.heap.size (ws.mergeSort fun x y=>decide (x≤y)) w1 ho (by omega)
 have HP:=Lib.hid (show ∀ v w',Below w.heap.size w w'→w'.ownsRow w.heap.size 9 1 v (Lib.compact (ws.mergeSort fun x y=>decide (x≤y))).length ((Lib.compact (ws.mergeSort fun x y=>decide (x≤y))).map encStr)→RowPost w 9 1 (Lib.compact (ws.mergeSort fun x y=>decide (x≤y))).length ((Lib.compact (ws.mergeSort fun x y=>decide (x≤y))).map encStr) (.returned v) w' from fun v w' h1 h2=>⟨v,rfl,h1,h2⟩)
 generalize RowPost w 9 1 (Lib.compact (ws.mergeSort fun x y=>decide (x≤y))).length ((Lib.compact (ws.mergeSort fun x y=>decide (x≤y))).map encStr)=Post at *
 generalize (ws.mergeSort fun x y=>decide (x≤y))=M at *
 generalize Lib.compact M=A at *
 have HS:=Lib.hid hS
 have HK:=Lib.hid hK
 unfold RowPost at hC
 clear hS hK hl hxl hxn
 go_enter Tryz.func132,Tryz.ntmps132
 go_wp2_with (first
  | (go_at_call 188;(with_reducible refine hC.mono ?_);rintro e w1 ⟨v,rfl,hb1,ho1⟩;have h2:=HS.out v w1 ho1;have hbd:=fun k hk=>SL.row_bounds ho1 k hk)
  | (go_at_call 189;(with_reducible refine h2.mono ?_);rintro e w2 ⟨rfl,ho2,hc2⟩;have h3:=HK.out v w2 ho2)
  | (go_at_call 190;(with_reducible refine h3.mono ?_);rintro e w3 ⟨v3,rfl,ho3,hc3,_⟩))
 exact HP.out _ _ ((hb1.trans (hc2.belowE_w hb1.size (fun k hk=>(hbd k hk).1))).trans (hc3.belowE_w (Nat.le_trans hb1.size hc2.size) (fun k hk=>(hbd k hk).1))) ho3
def ShsE (w:World) (E:Int) (S:List Shd) (e:Ending) (w':World):Prop:=∃ v,e=.returned (.tuple #[v,.int .i64 E])∧Below w.heap.size w w'∧w'.ownsRow w.heap.size 72 6 v S.length (scs S)
theorem sSherds_any (a:Option Addr) (n cap:Nat) (l:List Itm) (day:Int) (w:World) (h:ItmsAt w a n cap l) (hcap:l.length≤cap) :
 Calls Tryz.prog 58 #[.slice a n cap,.int .i64 day] w (ShsE w (chkI l).2 (sherdsL (cntL l day))):=by
 have hO:=sopened_any a n cap l day w h hcap
 have HP:=Lib.hid (show ∀ v w',Below w.heap.size w w'→w'.ownsRow w.heap.size 72 6 v (sherdsL (cntL l day)).length (scs (sherdsL (cntL l day)))→ShsE w (chkI l).2 (sherdsL (cntL l day)) (.returned (.tuple #[v,.int .i64 (chkI l).2])) w' from fun v w' h1 h2=>⟨v,rfl,h1,h2⟩)
 generalize ShsE w (chkI l).2 (sherdsL (cntL l day))=Post at *
 unfold RowE at hO
 by_cases h0:(chkI l).2=0
 ·have hcat:=chk_ok.1 h0
  have hc:cntL l day=countL l day:=by unfold cntL;rw [if_pos h0]
  rw [hc,h0] at hO HP
  have hsl:=Nat.le_trans (countL_len l day) hcat.few
  have hcw:=wides h.wide (fun x (hx:x ∈ countL l day)=>(countL_sub hx).1)
  have hS:=fun W b c (hi:ItmsAt W b (countL l day).length c (countL l day))=>ssherds_any b _ c (countL l day) W hi hsl (countL_ids hcat.ids day) (fun x hx=>⟨(itemB_id (hcat.item x (mem_count.1 hx).1)).1,(itemB_id (hcat.item x (mem_count.1 hx).1)).2.1⟩)
  unfold RowPost at hS
  clear hc h0 hcat h
  generalize countL l day=C at *
  generalize sherdsL C=S at *
  go_enter Tryz.func58,Tryz.ntmps58
  go_wp2_with (first
   | (go_at_call 130;(with_reducible refine hO.mono ?_);rintro e w1 ⟨v,rfl,hb1,ho1⟩;obtain ⟨va,vc,rfl,_⟩:=owns_slice ho1;have hi1:=ItmsAt.of_owns ho1 (by omega) hcw)
   | (go_at_call 131;(with_reducible refine (hS _ _ _ hi1).mono ?_);rintro e w2 ⟨v2,rfl,hb2,ho2⟩))
  exact HP.out _ _ (hb1.ch2 hb2) (SL.row_base ho2 hb1.size)
 ·have hc:cntL l day=[]:=by unfold cntL;rw [if_neg h0]
  rw [hc] at hO HP
  generalize (chkI l).2=E at *
  have e2:(E != 0)=true:=by simpa using h0
  clear h0 hc h
  go_enter Tryz.func58,Tryz.ntmps58
  go_wp2_with (go_at_call 130;(with_reducible refine hO.mono ?_);rintro e w1 ⟨v,rfl,hb1,ho1⟩;obtain ⟨va,vc,rfl,_⟩:=owns_slice ho1)
  exact HP.out _ _ hb1 (World.ownsRow_nil _ _ _ _)
def waL (S:List Shd):List ByteArray:=S.map fun y=>y.wa
def WrsE (w:World) (E:Int) (A:List (List UInt8)) (e:Ending) (w':World):Prop:=∃ v,e=.returned (.tuple #[v,.int .i64 E])∧Below w.heap.size w w'∧w'.ownsRow w.heap.size 9 1 v A.length (A.map encStr)
theorem sWares_any (a:Option Addr) (n cap:Nat) (l:List Itm) (day:Int) (w:World) (h:ItmsAt w a n cap l) (hcap:l.length≤cap) :
 Calls Tryz.prog 62 #[.slice a n cap,.int .i64 day] w (WrsE w (chkI l).2 (uniS ((waL (sherdsL (cntL l day))).map fun s=>s.data.toList))):=by
 have hO:=sopened_any a n cap l day w h hcap
 have HP:=Lib.hid (show ∀ v w',Below w.heap.size w w'→w'.ownsRow w.heap.size 9 1 v (uniS ((waL (sherdsL (cntL l day))).map fun s=>s.data.toList)).length ((uniS ((waL (sherdsL (cntL l day))).map fun s=>s.data.toList)).map encStr)→WrsE w (chkI l).2 (uniS ((waL (sherdsL (cntL l day))).map fun s=>s.data.toList)) (.returned (.tuple #[v,.int .i64 (chkI l).2])) w' from fun v w' h1 h2=>⟨v,rfl,h1,h2⟩)
 generalize WrsE w (chkI l).2 (uniS ((waL (sherdsL (cntL l day))).map fun s=>s.data.toList))=Post at *
 unfold RowE at hO
 by_cases h0:(chkI l).2=0
 ·have hcat:=chk_ok.1 h0
  have hc:cntL l day=countL l day:=by unfold cntL;rw [if_pos h0]
  rw [hc,h0] at hO HP
  have hsl:=Nat.le_trans (countL_len l day) hcat.few
  have hcw:=wides h.wide (fun x (hx:x ∈ countL l day)=>(countL_sub hx).1)
  have hS:=fun W b c (hi:ItmsAt W b (countL l day).length c (countL l day))=>ssherds_any b _ c (countL l day) W hi hsl (countL_ids hcat.ids day) (fun x hx=>⟨(itemB_id (hcat.item x (mem_count.1 hx).1)).1,(itemB_id (hcat.item x (mem_count.1 hx).1)).2.1⟩)
  have hln:=shs_len (countL l day)
  unfold RowPost at hS
  clear hc h0 hcat h
  generalize countL l day=C at *
  generalize sherdsL C=S at *
  have hU:=fun W b c (hx:StrsAt W b (waL S).length c (waL S))=>suniqueS_any b _ c (waL S) W hx (by unfold waL;simp;omega)
  unfold RowPost at hU
  generalize uniS ((waL S).map fun s=>s.data.toList)=A at *
  go_enter Tryz.func62,Tryz.ntmps62
  go_wp2_with (first
   | (go_at_call 130;(with_reducible refine hO.mono ?_);rintro e w1 ⟨v,rfl,hb1,ho1⟩;obtain ⟨va,vc,rfl,_⟩:=owns_slice ho1;have hi1:=ItmsAt.of_owns ho1 (by omega) hcw)
   | (go_at_call 131;(with_reducible refine (hS _ _ _ hi1).mono ?_);rintro e w2 ⟨v2,rfl,hb2,ho2⟩;obtain ⟨sa,sc,rfl,_⟩:=owns_slice ho2))
  have hrow:=RowAt.of_owns ho2
  have HB2:=Lib.hid (hb1.ch2 hb2)
  have HU:=Lib.hid hU
  clear hO hS hb1 hb2 hi1 ho1 ho2 hcw hU
  go_loopw [8,23] (fun r i wr=>∃ k:Nat,k≤S.length∧i=.int .i64 k∧wr.ownsRow w2.heap.size 9 1 r k ((waL (S.take k)).map .string)∧Below w2.heap.size w2 wr) (fun _ i _=>S.length - (RowKit.intOf i).toNat)
  case atStart=>exact ⟨0,Nat.zero_le _,rfl,World.ownsRow_nil _ _ _ _,Below.refl _ _⟩
  case round =>
   obtain ⟨k,hk,rfl,hro,hB⟩:=hrel
   have hnn:(0:Int)≤k:=by omega
   obtain ⟨ua,uc,rfl,_⟩:=owns_slice hro
   by_cases hlt:k<S.length
   ·have i1:(k:Int)<(S.length:Int):=by omega
    obtain ⟨b,o,rfl,hbz,d0,d1,d2,d3,d4,d5⟩:=shd_get6 (hrow.below hB) hlt
    have Hsu:Hid ((waL (S.take (k +1))).map Value.string=(waL (S.take k)).map Value.string ++[.string (S.getD k default).wa]):=Lib.hid (by
     unfold waL
     rw [List.take_succ_eq_append_getElem hlt,List.getD_eq_getElem?_getD,List.getElem?_eq_getElem hlt,List.map_append,List.map_append]
     rfl)
    generalize S.getD k default=y at *
    generalize (waL (S.take k)).map Value.string=V at *
    have hal:=one_alloc wr (Obj.cells #[.int .i64 y.id,.string y.wa,.int .i64 y.pit,.int .i64 y.ly,.int .i64 y.co,.bool y.ft] 72)
    have hal2:=one_alloc (wr.alloc (Obj.cells #[.int .i64 y.id,.string y.wa,.int .i64 y.pit,.int .i64 y.ly,.int .i64 y.co,.bool y.ft] 72)) (Obj.cells #[.string y.wa] 9)
    have hsl2:=World.alloc_heap_new (wr.alloc (Obj.cells #[.int .i64 y.id,.string y.wa,.int .i64 y.pit,.int .i64 y.ly,.int .i64 y.co,.bool y.ft] 72)) (Obj.cells #[.string y.wa] 9)
    have hr2:=(hro.up hal (Nat.le_refl _)).up hal2 (Nat.le_refl _)
    have hB3:=(hB.ch2 hal).ch2 hal2
    have hzB:=hB3.size
    have HB:=Lib.hid hB3
    clear hro hB hal hal2 hB3
    rw [World.size_alloc] at hsl2
    go_wp2_with (at_builtin;refine wpList_app elemW rfl _ _ rfl hr2 rfl rfl (RowAt.of_heap hsl2) (m:=1) (by rfl) (fun u hu=>by simp at hu;subst hu;rfl) Z1s (by omega) hzB ?_;intro v' w3 hr3 hg3 hb3 _ _;have HQ:=Lib.hid (And.intro hr3 (HB.out.trans hb3));clear hr3 hg3 hb3)
    go_roundw
    case rel=>exact ⟨k +1,by omega,by go_num,by rw [Hsu.out];exact HQ.out.1,HQ.out.2⟩
    case measure=>simp [RowKit.intOf] <;> omega
   ·have hk2:k=S.length:=by omega
    have hwl:(waL S).length=S.length:=by unfold waL;simp
    rw [hk2,List.take_length,← hwl] at hro
    have hst:StrsAt wr ua (waL S).length uc (waL S):=⟨rfl,RowAt.of_owns hro⟩
    have hcall:=HU.out _ _ _ hst
    have HW:=Lib.hid (HB2.out.ch2 hB)
    rw [hwl,← hk2] at hcall
    have i1:¬ (k:Int)<(S.length:Int):=by omega
    clear hro hst hB hwl hk2
    go_wp2_with (go_at_call 132;(with_reducible refine hcall.mono ?_);rintro e w4 ⟨v4,rfl,hb4,ho4⟩)
    exact HP.out _ _ (HW.out.ch2 hb4) (SL.row_base ho4 HW.out.size)
 ·have hc:cntL l day=[]:=by unfold cntL;rw [if_neg h0]
  rw [hc] at hO HP
  generalize (chkI l).2=E at *
  have e2:(E != 0)=true:=by simpa using h0
  clear h0 hc h
  go_enter Tryz.func62,Tryz.ntmps62
  go_wp2_with (go_at_call 130;(with_reducible refine hO.mono ?_);rintro e w1 ⟨v,rfl,hb1,ho1⟩;obtain ⟨va,vc,rfl,_⟩:=owns_slice ho1)
  have HF:=Lib.hid (HP.out (.slice none 0 0) _ hb1 (by rw [show ((waL (sherdsL [])).map fun s=>s.data.toList)=[] from rfl,uniS_nil];exact World.ownsRow_nil _ _ _ _))
  exact HF.out
theorem neqH_run (y:Shd) (w:World):(binOp .neq 72 (.agg #[.int .i64 y.id,.string y.wa,.int .i64 y.pit,.int .i64 y.ly,.int .i64 y.co,.bool y.ft]) (.agg #[.int .i64 y.id,.string y.wa,.int .i64 y.pit,.int .i64 y.ly,.int .i64 y.co,.bool y.ft])).run Tryz.prog w=.ok (.bool false) w:=by
 rw [run_neq_struct,run_equalIn_agg _ _ _ _ _ Zk Zk]
 simp [go_sem,Tryz.underlying72]
theorem r2sameH (a1 a2:Option Addr) (n1 n2 c1 c2:Nat) (xs:List Shd) (w:World) (hx:RowAt w a1 c1 (scs xs)) (hy:RowAt w a2 c2 (scs xs)) (h1:n1=xs.length) (h2:n2=xs.length) (hl:xs.length≤100000) :
 Calls Tryz.prog 61 #[.slice a1 n1 c1,.slice a2 n2 c2] w fun e w'=>e=.returned (.bool true)∧Below w.heap.size w w':=by
 subst h1 h2
 go_enter Tryz.func61,Tryz.ntmps61
 go_wp2_with fail
 go_loopw [5] (fun i wr=>∃ k:Nat,k≤xs.length∧i=.int .i64 k∧Below w.heap.size w wr) (fun i _=>xs.length - (RowKit.intOf i).toNat)
 case atStart=>exact ⟨0,Nat.zero_le _,rfl,Below.refl _ _⟩
 case round =>
  obtain ⟨k,hk,rfl,hB⟩:=hrel
  have hnn:(0:Int)≤k:=by omega
  by_cases hlt:k<xs.length
  ·obtain ⟨b1,o1,rfl,_,d0,d1,d2,d3,d4,d5⟩:=shd_get6 (hx.below hB) hlt
   obtain ⟨b2,o2,rfl,_,g0,g1,g2,g3,g4,g5⟩:=shd_get6 (hy.below hB) hlt
   have i1:(k:Int)<(xs.length:Int):=by omega
   generalize xs.getD k default=x at *
   have hne:=fun W=>neqH_run x W
   exact Z9o
  ·exact Z9u
theorem r2sameW (a1 a2:Option Addr) (n1 n2 c1 c2:Nat) (xs:List (List UInt8)) (w:World) (hx:RowAt w a1 c1 (xs.map encStr)) (hy:RowAt w a2 c2 (xs.map encStr)) (h1:n1=xs.length) (h2:n2=xs.length) (hl:xs.length≤100000) :
 Calls Tryz.prog 66 #[.slice a1 n1 c1,.slice a2 n2 c2] w fun e w'=>e=.returned (.bool true)∧Below w.heap.size w w':=by
 subst h1 h2
 go_enter Tryz.func66,Tryz.ntmps66
 go_wp2_with fail
 go_loopw [5] (fun i wr=>∃ k:Nat,k≤xs.length∧i=.int .i64 k∧Below w.heap.size w wr) (fun i _=>xs.length - (RowKit.intOf i).toNat)
 case atStart=>exact ⟨0,Nat.zero_le _,rfl,Below.refl _ _⟩
 case round =>
  obtain ⟨k,hk,rfl,hB⟩:=hrel
  have hnn:(0:Int)≤k:=by omega
  by_cases hlt:k<xs.length
  ·have hu:(xs.map encStr)[k]?=some (.string ⟨(xs.getD k []).toArray⟩):=by
    rw [List.getElem?_map,List.getElem?_eq_getElem hlt,List.getD_eq_getElem?_getD,List.getElem?_eq_getElem hlt]
    rfl
   obtain ⟨b1,o1,rfl,_,d0⟩:=(hx.below hB).cell hu
   obtain ⟨b2,o2,rfl,_,g0⟩:=(hy.below hB).cell hu
   have i1:(k:Int)<(xs.length:Int):=by omega
   generalize (⟨(xs.getD k []).toArray⟩:ByteArray)=x at *
   clear hu
   exact Z9o
  ·exact Z9u
theorem lim_skip {S:List Itm} {wa:ByteArray}:∀ (d q:Nat),q +d=S.length→(∀ j,q≤j→j<S.length→limB wa (S.getD j default)=false)→limL S wa=limL (S.take q) wa
 | 0,q,he,_=>by rw [List.take_of_length_le (by omega)]
 | d +1,q,he,hno=>by
   rw [lim_skip d (q +1) (by omega) (fun j h1 h2=>hno j (by omega) h2),limS_succ (by omega)]
   unfold limS
   rw [hno q (Nat.le_refl _) (by omega)]
   rfl
theorem r2LimitOf_any (a:Option Addr) (n cap:Nat) (l:List Itm) (day:Int) (wa:ByteArray) (w:World) (h:ItmsAt w a n cap l) (hcap:l.length≤cap) (hs:l.length≤1000) :
 Calls Tryz.prog 65 #[.slice a n cap,.int .i64 day,.string wa] w fun e w'=>e=.returned (.tuple #[.int .i64 (limL (cntL l day) wa).1,.int .i64 (limL (cntL l day) wa).2,.int .i64 (chkI l).2])∧Below w.heap.size w w':=by
 have hO:=r2Counting_any a n cap l day w h hcap hs
 have hsl:(cntL l day).length≤1000:=by
  exact Z9p
 have hcw:=wides h.wide (fun x (hx:x ∈ cntL l day)=>cnt_mem hx)
 unfold RowE at hO
 generalize cntL l day=S at *
 generalize (chkI l).2=C at *
 have HP:=Lib.hid (show ∀ w' (p:Int × Int),limL S wa=p→Below w.heap.size w w'→(fun e w'=>e=Ending.returned (.tuple #[.int .i64 (limL S wa).1,.int .i64 (limL S wa).2,.int .i64 C])∧Below w.heap.size w w':Ending→World→Prop) (.returned (.tuple #[.int .i64 p.1,.int .i64 p.2,.int .i64 C])) w' from fun w' p hp hb=>by subst hp;exact ⟨rfl,hb⟩)
 generalize (fun e w'=>e=Ending.returned (.tuple #[.int .i64 (limL S wa).1,.int .i64 (limL S wa).2,.int .i64 C])∧Below w.heap.size w w':Ending→World→Prop)=Post at *
 go_enter Tryz.func65,Tryz.ntmps65
 go_wp2_with (go_at_call 57;(with_reducible refine hO.mono ?_);rintro e w1 ⟨v,rfl,hb1,ho1⟩;obtain ⟨va,vc,rfl,_⟩:=owns_slice ho1;have hi1:=ItmsAt.of_owns ho1 (by omega) hcw)
 clear hO ho1 h
 go_loopw [11] (fun i wr=>∃ q:Nat,q≤S.length∧i=.int .i64 ((q:Int) - 1)∧(∀ j,q≤j→j<S.length→limB wa (S.getD j default)=false)∧wr=w1) (fun i _=>((RowKit.intOf i) +1).toNat)
 case atStart=>exact ⟨S.length,Nat.le_refl _,by go_num,fun j h1 h2=>absurd h2 (by omega),rfl⟩
 case round =>
  obtain ⟨q,hq,rfl,hno,rfl⟩:=hrel
  have HNo:=Lib.hid hno
  clear hno
  cases q with
  | succ k =>
    have e1:((k +1:Nat):Int) - 1=k:=by omega
    rw [e1]
    clear e1
    have hnn:(0:Int)≤k:=by omega
    have i1:(k:Int)<(S.length:Int):=by omega
    have hlt:k<S.length:=hq
    obtain ⟨b,o,rfl,hbl,⟨d0,d1,d2,d3,d4,d5,d6,d7,d8,d9,d10,d11,d12,d13,d14,d15⟩⟩:=hi1.get hlt
    have Hsu:=Lib.hid (limS_succ (wa:=wa) hlt)
    obtain ⟨x,hx⟩:∃ x,S.getD k default=x:=⟨_,rfl⟩
    have Hx:=Lib.hid hx
    rw [hx] at d0 d1 d2 d3 d4 d5 d6 d7 d8 d9 d10 d11 d12 d13 d14 d15
    clear hx
    obtain ⟨B1,hB1⟩:∃ B,(x.kd == 6)=B:=⟨_,rfl⟩
    obtain ⟨B2,hB2⟩:∃ B,(x.wa.toList == wa.toList)=B:=⟨_,rfl⟩
    have Hl:=Lib.hid (show limB wa x=(B1 && B2) by unfold limB;rw [hB1,hB2])
    cases B1
    ·exact Z9n
    cases B2
    ·exact Z9n
    ·have HF:Hid (limL S wa=(x.li,x.id)):=Lib.hid (by
      rw [lim_skip (S.length - (k +1)) (k +1) (by omega) HNo.out,Hsu.out,Hx.out]
      unfold limS
      rw [Hl.out]
      rfl)
     go_wp2_with fail
     go_quiet (fail)
     go_wp2_with fail
     exact bodyPost_ret (v:=.tuple #[.int .i64 x.li,.int .i64 x.id,.int .i64 C]) Z9t rfl (HP.out _ (x.li,x.id) HF.out (belowN hb1))
  | zero =>
    have e1:((0:Nat):Int) - 1= -1:=rfl
    rw [e1]
    clear e1
    have HF:Hid (limL S wa=(0,0)):=Lib.hid (by
     rw [lim_skip S.length 0 (by omega) HNo.out]
     rfl)
    go_wp2_with fail
    exact bodyPost_ret (v:=.tuple #[.int .i64 0,.int .i64 0,.int .i64 C]) Z9t rfl (HP.out _ (0,0) HF.out hb1)
open Go.RowKit Go.Shelf Go.Sort
set_option maxHeartbeats 16000000
set_option maxRecDepth 100000
theorem row_fstW {w:World} {a:Option Addr} {cap:Nat} {S:List Wd} (h:RowAt w a cap (S.map encStr)) (q:Nat):RowAt w a cap ((S.take q).map encStr):=by
 rw [← List.take_append_drop q S,List.map_append] at h
 constructor
 ·intro ha
  have:=h.nil ha
  rw [List.append_eq_nil_iff] at this
  exact ⟨this.1.1,this.2⟩
 ·intro x hx
  refine ⟨(h.at_ x hx).1,(h.at_ x hx).2.1,fun i u hi=>(h.at_ x hx).2.2 i u ?_⟩
  rw [List.getElem?_append_left (List.getElem?_eq_some_iff.1 hi).1]
  exact hi
theorem row_fromW {w:World} {b o oc q:Nat} {S:List Wd} (h:RowAt w (some ⟨b,o,none⟩) oc (S.map encStr)) (hq:q≤S.length) (hc:S.length≤oc):RowAt w (if oc=q then some ⟨b,o,none⟩ else some ⟨b,o +q,none⟩) (oc - q) ((S.drop q).map encStr):=by
 split
 ·rename_i e
  rw [List.drop_eq_nil_of_le (by omega)]
  constructor
  ·intro ha;cases ha
  ·intro x hx
   cases hx
   exact ⟨rfl,(h.at_ _ rfl).2.1,fun i u hi=>by simp at hi⟩
 ·constructor
  ·intro ha;cases ha
  ·intro x hx
   cases hx
   refine ⟨rfl,(h.at_ _ rfl).2.1,fun i u hi=>?_⟩
   have hi2:(S.map encStr)[q +i]?=some u:=by
    rw [List.getElem?_map] at hi ⊢
    rw [List.getElem?_drop] at hi
    exact hi
   have:=(h.at_ _ rfl).2.2 (q +i) u hi2
   simpa [Nat.add_assoc] using this
theorem enc_one (l:List Wd):∀ u ∈ l.map encStr,u.oneCell'=true:=by
 intro u hu
 obtain ⟨x,_,rfl⟩:=List.mem_map.1 hu
 rfl
def waD (S:List Shd):List Wd:=(waL S).map fun s=>s.data.toList
theorem waD_succ {S:List Shd} {k:Nat} (hk:k<S.length):waD (S.take (k +1))=waD (S.take k) ++[(S.getD k default).wa.data.toList]:=by
 unfold waD waL
 rw [List.take_succ_eq_append_getElem hk,List.getD_eq_getElem?_getD,List.getElem?_eq_getElem hk,List.map_append,List.map_append]
 rfl
theorem waD_len (S:List Shd) (k:Nat):(uniS (waD (S.take k))).length≤S.length:=by
 refine Nat.le_trans (uniS_len _) ?_
 unfold waD waL
 rw [List.length_map,List.length_map,List.length_take]
 omega
theorem r2Wares_any (a:Option Addr) (n cap:Nat) (l:List Itm) (day:Int) (w:World) (h:ItmsAt w a n cap l) (hcap:l.length≤cap) (hs:l.length≤1000) :
 Calls Tryz.prog 63 #[.slice a n cap,.int .i64 day] w (WrsE w (chkI l).2 (uniS (waD (sherdsL (cntL l day))))):=by
 have hC:=r2Sherds_any a n cap l day w h hcap hs
 have hln:(sherdsL (cntL l day)).length≤1000:=by
  refine Nat.le_trans (shs_len _) ?_
  exact Z9p
 have HP:=Lib.hid (show ∀ v w',Below w.heap.size w w'→w'.ownsRow w.heap.size 9 1 v (uniS (waD (sherdsL (cntL l day)))).length ((uniS (waD (sherdsL (cntL l day)))).map encStr)→WrsE w (chkI l).2 (uniS (waD (sherdsL (cntL l day)))) (.returned (.tuple #[v,.int .i64 (chkI l).2])) w' from fun v w' h1 h2=>⟨v,rfl,h1,h2⟩)
 generalize WrsE w (chkI l).2 (uniS (waD (sherdsL (cntL l day))))=Post at *
 generalize (chkI l).2=E at *
 generalize sherdsL (cntL l day)=S at *
 go_enter Tryz.func63,Tryz.ntmps63
 go_wp2_with (go_at_call 59;(with_reducible refine hC.mono ?_);rintro e w2 ⟨v2,rfl,hb2,ho2⟩;obtain ⟨sa,sc,rfl,_⟩:=owns_slice ho2)
 have hrow:=RowAt.of_owns ho2
 have HB2:=Lib.hid hb2
 clear h ho2 hC hb2
 go_loopw [8,9] (fun r i wr=>∃ k:Nat,k≤S.length∧i=.int .i64 k∧wr.ownsRow w2.heap.size 9 1 r (uniS (waD (S.take k))).length ((uniS (waD (S.take k))).map encStr)∧Below w2.heap.size w2 wr) (fun _ i _=>S.length - (RowKit.intOf i).toNat)
 case atStart=>exact ⟨0,Nat.zero_le _,rfl,by rw [List.take_zero,show waD []=[] from rfl,uniS_nil];exact World.ownsRow_nil _ _ _ _,Below.refl _ _⟩
 case round =>
  obtain ⟨k,hk,rfl,hro,hB⟩:=hrel
  have hnn:(0:Int)≤k:=by omega
  obtain ⟨oa,oc,rfl,_⟩:=owns_slice hro
  by_cases hlt:k<S.length
  ·have i1:(k:Int)<(S.length:Int):=by omega
   obtain ⟨sb,so,rfl,zs0,_,d1,_,_,_,_⟩:=shd_get6 (hrow.below hB) hlt
   have Hst:=Lib.hid (congrArg uniS (waD_succ hlt))
   have hAl:=waD_len S k
   obtain ⟨D,hD⟩:∃ D,waD (S.take k)=D:=⟨_,rfl⟩
   obtain ⟨A,hA⟩:∃ A,uniS D=A:=⟨_,rfl⟩
   rw [hD] at hro Hst hAl ⊢
   rw [hA] at hro hAl ⊢
   have HA:=Lib.hid hD
   have HA2:=Lib.hid hA
   clear hD hA
   obtain ⟨y,hy⟩:∃ y,(S.getD k default).wa=y:=⟨_,rfl⟩
   rw [hy] at d1 Hst
   clear hy
   obtain ⟨u,hu⟩:∃ u:Wd,y.data.toList=u:=⟨_,rfl⟩
   obtain rfl:y=⟨u.toArray⟩:=by rw [← hu]
   clear hu
   have Hst:Hid (uniS (waD (S.take (k +1)))=uniS (D ++[u])):=Hst
   have hra:=RowAt.of_owns hro
   have hoc:=row_cap hro
   have HR:=Lib.hid hro
   have HBo:=Lib.hid hB
   obtain ⟨wo,rfl⟩:∃ wo,wo=wr:=⟨_,rfl⟩
   have Hrow:=Lib.hid hrow
   have HRa:=Lib.hid hra
   clear hro hB hrow
   go_wp2_with fail
   go_loopw [10] (fun v wx=>∃ q:Nat,q≤A.length∧v=.int .i64 q∧(∀ j,q≤j→j<A.length→u<A.getD j [])∧Below wo.heap.size wo wx) (fun v _=>(RowKit.intOf v).toNat)
   case atStart=>exact ⟨A.length,Nat.le_refl _,rfl,fun j h1 h2=>absurd h2 (by omega),Below.refl _ _⟩
   case round =>
    obtain ⟨q,hq,rfl,hup,hBx⟩:=hrel
    have HUp:=Lib.hid hup
    clear hup
    have tok1:True:=trivial
    have tok2:True:=trivial
    have dx:=((bcell hBx).1 sb (so +k * 6 +1) zs0).trans d1
    have D1:=Lib.hid d1
    clear d1
    cases q with
    | zero =>
      rcases oa with _ | ⟨bo,oo,so2⟩
      ·obtain ⟨hn1,hn2⟩:=hra.nil rfl
       have hS0:A=[]:=by simpa using hn1
       subst hn2
       have HS0:=Lib.hid hS0
       have hsl0:A.length=0:=by rw [hS0];rfl
       rw [hsl0]
       clear hn1 hS0 hsl0 hra
       go_wp2_with fail
       go_quiet (fail)
       have hBy:=belowN (n:=nq) hBx
       have dy:=((bcell hBy).1 sb (so +k * 6 +1) zs0).trans D1.out
       generalize wr.drewN nq=wy at *
       go_wp2_with fail
       go_quiet (fail)
       have HBz:=Lib.hid (belowN (n:=nq) hBy)
       have dW:=((bcell HBz.out).1 sb (so +k * 6 +1) zs0).trans D1.out
       have zW:=lt_size HBz.out zs0
       clear dy dx hBy hBx
       generalize wy.drewN nq=wz at *
       have hs1:RowAt (wz.alloc (Obj.cells #[] 9)) none 0 ((A.take 0).map encStr):=RowAt.nilAt _
       have hlit:=World.ownsRow_lit (base:=wz.heap.size) (e:=9) (size:=1) wz #[] 0 (Nat.le_refl _) (by decide) rfl
       have hal0:=one_alloc wz (Obj.cells #[] 9)
       go_wp2_with (first
        | (at_builtin;clear tok1;refine wpList_app elemW rfl _ _ rfl hlit rfl rfl hs1 Z9x (enc_one _) Z1s (by omega) (by simp) ?_;intro v3 w3 hr3 hg3 hb3 _ _;replace hr3:w3.ownsRow wz.heap.size 9 1 v3 (0) ((A.take (0)).map encStr):=Z9v;obtain ⟨na,nc,rfl,_⟩:=owns_slice hr3;have hC3:=hal0.trans hb3;have c1:=((bcell hC3).1 sb (so +k * 6 +1) zW).trans dW;have hsl:=World.alloc_heap_new w3 (Obj.cells #[.string ⟨u.toArray⟩] 9);have hal3:=one_alloc w3 (Obj.cells #[.string ⟨u.toArray⟩] 9);have hr4:=hr3.up hal3 (Nat.le_refl _);have hC4:=hC3.ch2 hal3;clear hlit hg3 hb3 hr3)
        | (at_builtin;clear tok2;refine wpList_app elemW rfl _ _ rfl hr4 rfl rfl (RowAt.of_heap hsl) (m:=1) (by rfl) (fun u hu=>by simp at hu;subst hu;rfl) Z1s (by omega) hC4.size ?_;intro v5 w5 hr5 hg5 hb5 _ _;obtain ⟨ma,mc,rfl,_⟩:=owns_slice hr5;have hC5:=hC4.trans hb5;have hs3:=(by rw [HS0.out];exact RowAt.nilAt _:RowAt w5 none 0 ((A.drop 0).map encStr));clear hr4 hsl hg5 hb5 hal3 hC3 c1)
        | (at_builtin;refine wpList_app elemW rfl _ _ rfl hr5 rfl rfl hs3 (by rw [HS0.out];rfl) (enc_one _) Z1s (by omega) hC5.size ?_;intro v7 w7 hr7 hg7 hb7 _ _;have HR7:=Lib.hid (And.intro hr7 (hC5.trans hb7));clear hr5 hs3 hr7 hg7 hb7))
       go_roundw
       case rel =>
        refine ⟨k +1,by omega,by go_num,?_,HBo.out.ch2 (HBz.out.ch2 HR7.out.2)⟩
        rw [Hst.out,uni_put (k:=0) Z9s Z9q (by rw [HA2.out];exact .inl rfl),HA2.out]
        refine SL.row_base (base:=wz.heap.size) ?_ (Nat.le_trans HBo.out.size HBz.out.size)
        have e:(A.take (0) ++[u] ++A.drop (0)).length=(0) +1 +(A.length - (0)):=by simp;omega
        rw [e,List.map_append,List.map_append]
        exact (by rw [show A.length - 0=0 by rw [HS0.out];rfl];exact HR7.out.1)
       case measure=>simp [RowKit.intOf] <;> omega
      ·obtain ⟨hso,ho2,_⟩:=hra.at_ _ rfl
       simp only at hso
       subst hso
       have j3:(0:Int)≤(oc:Int):=by omega
       clear hra
       go_wp2_with fail
       go_quiet (fail)
       have hBy:=belowN (n:=nq) hBx
       have dy:=((bcell hBy).1 sb (so +k * 6 +1) zs0).trans D1.out
       generalize wr.drewN nq=wy at *
       go_wp2_with fail
       go_quiet (fail)
       have HBz:=Lib.hid (belowN (n:=nq) hBy)
       have dW:=((bcell HBz.out).1 sb (so +k * 6 +1) zs0).trans D1.out
       have zW:=lt_size HBz.out zs0
       clear dy dx hBy hBx
       generalize wy.drewN nq=wz at *
       have hlit:=World.ownsRow_lit (base:=wz.heap.size) (e:=9) (size:=1) wz #[] 0 (Nat.le_refl _) (by decide) rfl
       have hal0:=one_alloc wz (Obj.cells #[] 9)
       go_wp2_with (first
        | (at_builtin;clear tok1;refine wpList_app elemW rfl _ _ rfl hlit rfl rfl ((row_fstW (HRa.out.below HBz.out) 0).below hal0) Z9x (enc_one _) Z1s (by omega) (by simp) ?_;intro v3 w3 hr3 hg3 hb3 _ _;replace hr3:w3.ownsRow wz.heap.size 9 1 v3 (0) ((A.take (0)).map encStr):=Z9v;obtain ⟨na,nc,rfl,_⟩:=owns_slice hr3;have hC3:=hal0.trans hb3;have c1:=((bcell hC3).1 sb (so +k * 6 +1) zW).trans dW;have hsl:=World.alloc_heap_new w3 (Obj.cells #[.string ⟨u.toArray⟩] 9);have hal3:=one_alloc w3 (Obj.cells #[.string ⟨u.toArray⟩] 9);have hr4:=hr3.up hal3 (Nat.le_refl _);have hC4:=hC3.ch2 hal3;clear hlit hg3 hb3 hr3)
        | (at_builtin;clear tok2;refine wpList_app elemW rfl _ _ rfl hr4 rfl rfl (RowAt.of_heap hsl) (m:=1) (by rfl) (fun u hu=>by simp at hu;subst hu;rfl) Z1s (by omega) hC4.size ?_;intro v5 w5 hr5 hg5 hb5 _ _;obtain ⟨ma,mc,rfl,_⟩:=owns_slice hr5;have hC5:=hC4.trans hb5;have hs3:=((HRa.out.below HBz.out).below hC5);clear hr4 hsl hg5 hb5 hal3 hC3 c1)
        | (at_builtin;refine wpList_app elemW rfl _ _ rfl hr5 rfl rfl hs3 (by simp) (enc_one _) Z1s (by omega) hC5.size ?_;intro v7 w7 hr7 hg7 hb7 _ _;have HR7:=Lib.hid (And.intro hr7 (hC5.trans hb7));clear hr5 hs3 hr7 hg7 hb7))
       go_roundw
       case rel =>
        refine ⟨k +1,by omega,by go_num,?_,HBo.out.ch2 (HBz.out.ch2 HR7.out.2)⟩
        rw [Hst.out,uni_put (k:=0) Z9s Z9q (by rw [HA2.out];exact .inl rfl),HA2.out]
        refine SL.row_base (base:=wz.heap.size) ?_ (Nat.le_trans HBo.out.size HBz.out.size)
        have e:(A.take (0) ++[u] ++A.drop (0)).length=(0) +1 +(A.length - (0)):=by simp;omega
        exact Z9r
       case measure=>simp [RowKit.intOf] <;> omega
    | succ p =>
      have hp:p<A.length:=hq
      have hu:(A.map encStr)[p]?=some (.string ⟨(A.getD p []).toArray⟩):=by
       rw [List.getElem?_map,List.getElem?_eq_getElem hp,List.getD_eq_getElem?_getD,List.getElem?_eq_getElem hp]
       rfl
      obtain ⟨b2,o2,rfl,hz2,c0⟩:=(hra.below hBx).cell hu
      have hz3:b2<wo.heap.size:=((hra.at_ _ rfl).2.1)
      clear hu hra
      obtain ⟨v,hv⟩:∃ v,A.getD p []=v:=⟨_,rfl⟩
      rw [hv] at c0
      have Hv:=Lib.hid hv
      clear hv
      have hc1:=bytesLess_eq v u
      have hc2:(v == u)=(v == u):=rfl
      have hwr:IntKind.i64.wrap ((p:Int) +1 - 1)=p:=by rw [show (p:Int) +1 - 1=p by omega];exact IntWalk.i64_in _ (by omega)
      have j0:(0:Int)≤p:=by omega
      have j1:(p:Int)<(A.length:Int):=by omega
      have j2:decide ((0:Int)<(p:Int) +1)=true:=by simp <;> omega
      have j3:(p:Int) +1≤(oc:Int):=by omega
      have j4:(0:Int)≤(p:Int) +1:=by omega
      have j5:(p:Int) +1≤(A.length:Int):=by omega
      by_cases hlt1:v<u
      ·have hne:(v == u)=false:=by
        rw [beq_eq_false_iff_ne]
        intro e
        subst e
        exact wd_irrefl _ hlt1
       rw [decide_eq_true hlt1] at hc1
       have HL:=Lib.hid hlt1
       clear hlt1 hc2
       go_wp2_with fail
       go_quiet (fail)
       have hBy:=belowN (n:=nq) hBx
       have dy:=((bcell hBy).1 sb (so +k * 6 +1) zs0).trans D1.out
       generalize wr.drewN nq=wy at *
       have cy:=((bcell hBy).1 b2 (o2 +p) hz3).trans ((((bcell hBx).1 b2 (o2 +p) hz3).symm).trans c0)
       go_wp2_with fail
       go_quiet (fail)
       have HBz:=Lib.hid (belowN (n:=nq) hBy)
       have dW:=((bcell HBz.out).1 sb (so +k * 6 +1) zs0).trans D1.out
       have zW:=lt_size HBz.out zs0
       clear dy dx hBy hBx
       generalize wy.drewN nq=wz at *
       have hlit:=World.ownsRow_lit (base:=wz.heap.size) (e:=9) (size:=1) wz #[] 0 (Nat.le_refl _) (by decide) rfl
       have hal0:=one_alloc wz (Obj.cells #[] 9)
       go_wp2_with (first
        | (at_builtin;clear tok1;refine wpList_app elemW rfl _ _ rfl hlit rfl rfl ((row_fstW (HRa.out.below HBz.out) (p +1)).below hal0) Z9x (enc_one _) Z1s (by omega) (by simp) ?_;intro v3 w3 hr3 hg3 hb3 _ _;replace hr3:w3.ownsRow wz.heap.size 9 1 v3 (p +1) ((A.take (p +1)).map encStr):=Z9v;obtain ⟨na,nc,rfl,_⟩:=owns_slice hr3;have hC3:=hal0.trans hb3;have c1:=((bcell hC3).1 sb (so +k * 6 +1) zW).trans dW;have hsl:=World.alloc_heap_new w3 (Obj.cells #[.string ⟨u.toArray⟩] 9);have hal3:=one_alloc w3 (Obj.cells #[.string ⟨u.toArray⟩] 9);have hr4:=hr3.up hal3 (Nat.le_refl _);have hC4:=hC3.ch2 hal3;clear hlit hg3 hb3 hr3)
        | (at_builtin;clear tok2;refine wpList_app elemW rfl _ _ rfl hr4 rfl rfl (RowAt.of_heap hsl) (m:=1) (by rfl) (fun u hu=>by simp at hu;subst hu;rfl) Z1s (by omega) hC4.size ?_;intro v5 w5 hr5 hg5 hb5 _ _;obtain ⟨ma,mc,rfl,_⟩:=owns_slice hr5;have hC5:=hC4.trans hb5;have hs3:=((row_fromW (HRa.out.below HBz.out) (q:=p +1) (by omega) (by omega)).below hC5);clear hr4 hsl hg5 hb5 hal3 hC3 c1)
        | (at_builtin;refine wpList_app elemW rfl _ _ rfl hr5 rfl rfl hs3 (by simp) (enc_one _) Z1s (by omega) hC5.size ?_;intro v7 w7 hr7 hg7 hb7 _ _;have HR7:=Lib.hid (And.intro hr7 (hC5.trans hb7));clear hr5 hs3 hr7 hg7 hb7))
       go_roundw
       case rel =>
        refine ⟨k +1,by omega,by go_num,?_,HBo.out.ch2 (HBz.out.ch2 HR7.out.2)⟩
        rw [Hst.out,uni_put (k:=p +1) Z9s Z9q (by rw [HA2.out];exact .inr (by rw [Nat.add_sub_cancel,Hv.out];exact HL.out)),HA2.out]
        refine SL.row_base (base:=wz.heap.size) ?_ (Nat.le_trans HBo.out.size HBz.out.size)
        have e:(A.take (p +1) ++[u] ++A.drop (p +1)).length=(p +1) +1 +(A.length - (p +1)):=by simp;omega
        exact Z9r
       case measure=>simp [RowKit.intOf] <;> omega
      ·rw [decide_eq_false hlt1] at hc1
       by_cases heq:v=u
       ·have hne:(v == u)=true:=by simpa using heq
        have HL:=Lib.hid heq
        clear hlt1 hc2 heq
        go_wp2_with fail
        go_quiet (fail)
        have hBy:=belowN (n:=nq) hBx
        have dy:=((bcell hBy).1 sb (so +k * 6 +1) zs0).trans D1.out
        generalize wr.drewN nq=wy at *
        have cy:=((bcell hBy).1 b2 (o2 +p) hz3).trans ((((bcell hBx).1 b2 (o2 +p) hz3).symm).trans c0)
        go_wp2_with fail
        go_quiet (fail)
        have HBz:=Lib.hid (belowN (n:=nq) hBy)
        have dW:=((bcell HBz.out).1 sb (so +k * 6 +1) zs0).trans D1.out
        have zW:=lt_size HBz.out zs0
        clear dy dx hBy hBx
        generalize wy.drewN nq=wz at *
        go_wp2_with fail
        go_roundw
        case rel=>exact ⟨k +1,by omega,by go_num,by
         rw [Hst.out,uni_has (l:=D) (by rw [HA2.out,← HL.out,← Hv.out,List.getD_eq_getElem?_getD,List.getElem?_eq_getElem hp];exact List.getElem_mem hp),HA2.out]
         exact HR.out.up HBz.out (Nat.le_refl _),HBo.out.ch2 HBz.out⟩
        case measure=>simp [RowKit.intOf] <;> omega
       ·have hne:(v == u)=false:=by simpa using heq
        have HG:=Lib.hid (wd_lt_of_le_ne (wd_not_lt.1 hlt1) (fun e=>heq e.symm))
        clear hlt1 hc2 heq
        go_wp2_with fail
        go_quiet (fail)
        go_wp2_with fail
        go_roundw
        case rel=>exact ⟨p,by omega,by go_num,fun j h1 h2=>by
         by_cases e:j=p
         ·subst e;rw [Hv.out];exact HG.out
         ·exact HUp.out j (by omega) h2,belowN hBx⟩
        case measure=>simp [RowKit.intOf] <;> omega
  ·have htk:S.take k=S:=List.take_of_length_le (by omega)
   rw [htk] at hro ⊢
   have i1:¬ (k:Int)<(S.length:Int):=by omega
   have HF:=Lib.hid (HP.out _ _ (HB2.out.ch2 hB) (SL.row_base hro HB2.out.size))
   clear htk hro hB
   exact Z4t
set_option maxHeartbeats 8000000
theorem llists (a:Option Addr) (n cap:Nat) (l:List Itm) (day id:Int) (wa:ByteArray) (w:World) (h:ItmsAt w a n cap l) (hcap:l.length≤cap) :
 Calls Tryz.prog 14 #[.slice a n cap,.int .i64 day,.int .i64 id,.string wa] w fun e w'=>e=.returned (.bool true)∧Below w.heap.size w w':=by
 have hSh:=fun W=>lshelved W
 have hFe:=lfew 40 a n cap l w h (by omega)
 have h40:((40:Nat):Int)=40:=rfl
 rw [h40] at hFe
 have hlen:=fun (hF:fewB l 40=true)=>fewB_len hF
 generalize fewB l 40=F at *
 cases F with
 | false =>
   clear hlen
   exact Z9m
 | true =>
   have hl40:=hlen rfl
   clear hlen
   by_cases hwa:100<wa.size
   ·have i1:(100:Int)<(wa.size:Int):=by omega
    exact Z9m
   ·have i1:¬ (100:Int)<(wa.size:Int):=by omega
    clear hwa
    have hC1:=fun W hi=>sCounting_any a n cap l day W hi hcap
    have hC2:=fun W hi=>r2Counting_any a n cap l day W hi hcap (by omega)
    have hS1:=fun W hi=>sSherds_any a n cap l day W hi hcap
    have hS2:=fun W hi=>r2Sherds_any a n cap l day W hi hcap (by omega)
    have hO1:=fun W hi=>sSherdOf_any a n cap l day id W hi hcap
    have hO2:=fun W hi=>r2SherdOf_any a n cap l day id W hi hcap (by omega)
    have hW1:=fun W hi=>sWares_any a n cap l day W hi hcap
    have hW2:=fun W hi=>r2Wares_any a n cap l day W hi hcap (by omega)
    have hL1:=fun W hi=>sLimitOf_any a n cap l day wa W hi hcap
    have hL2:=fun W hi=>r2LimitOf_any a n cap l day wa W hi hcap (by omega)
    have hcl:(cntL l day).length≤40:=by
     unfold cntL
     split
     ·exact Nat.le_trans (countL_len l day) hl40
     ·simp
    have hsl:=Nat.le_trans (shs_len (cntL l day)) hcl
    have hul:(uniS (waD (sherdsL (cntL l day)))).length≤40:=by
     have:=waD_len (sherdsL (cntL l day)) (sherdsL (cntL l day)).length
     rw [List.take_length] at this
     omega
    have hcw:=wides h.wide (fun x (hx:x ∈ cntL l day)=>cnt_mem hx)
    unfold RowE at hC1 hC2
    unfold ShsE at hS1
    unfold WrsE at hW1 hW2
    have hWD:waD (sherdsL (cntL l day))=(waL (sherdsL (cntL l day))).map fun s=>s.data.toList:=rfl
    rw [← hWD] at hW1
    clear hWD
    simp only [Shd.v,Shd.cs] at hO1 hO2
    have Hl:=Lib.hid h.len
    generalize uniS (waD (sherdsL (cntL l day)))=WD at *
    generalize sherdsL (cntL l day)=SH at *
    generalize (limL (cntL l day) wa).1=P1 at *
    generalize (limL (cntL l day) wa).2=P2 at *
    generalize cntL l day=C at *
    generalize (chkI l).2=E at *
    generalize lookZ l day id=y at *
    generalize lookE l day id=E2 at *
    have hne:=fun W=>neqH_run y W
    go_enter Tryz.func14,Tryz.ntmps14
    go_wp2_with (first
     | (go_at_call 18;(with_reducible refine hFe.mono ?_);rintro e w1 ⟨rfl,hb1⟩)
     | (go_at_call 49;(with_reducible refine (hC1 _ (h.below hb1)).mono ?_);rintro e w2 ⟨v2,rfl,hb2,ho2⟩;obtain ⟨a2,c2,rfl,_⟩:=owns_slice ho2;have m2:=ItmsAt.of_owns ho2 (by omega) hcw;have hB2:=hb1.ch2 hb2)
     | (go_at_call 57;(with_reducible refine (hC2 _ (h.below hB2)).mono ?_);rintro e w3 ⟨v3,rfl,hb3,ho3⟩;obtain ⟨a3,c3,rfl,_⟩:=owns_slice ho3;have m3:=ItmsAt.of_owns ho3 (by omega) hcw;have hB3:=hB2.ch2 hb3)
     | (go_at_call 58;(with_reducible refine (hS1 _ (h.below hB3)).mono ?_);rintro e w4 ⟨v4,rfl,hb4,ho4⟩;obtain ⟨a4,c4,rfl,_⟩:=owns_slice ho4;have m4:=RowAt.of_owns ho4;have hB4:=hB3.ch2 hb4)
     | (go_at_call 59;(with_reducible refine (hS2 _ (h.below hB4)).mono ?_);rintro e w5 ⟨v5,rfl,hb5,ho5⟩;obtain ⟨a5,c5,rfl,_⟩:=owns_slice ho5;have m5:=RowAt.of_owns ho5;have hB5:=hB4.ch2 hb5)
     | (go_at_call 50;(with_reducible refine (hO1 _ (h.below hB5)).mono ?_);rintro e w6 ⟨rfl,hb6⟩;have al6:=one_alloc w6 (Obj.cells #[.int .i64 y.id,.string y.wa,.int .i64 y.pit,.int .i64 y.ly,.int .i64 y.co,.bool y.ft] 72);have hc6:=World.alloc_heap_new w6 (Obj.cells #[.int .i64 y.id,.string y.wa,.int .i64 y.pit,.int .i64 y.ly,.int .i64 y.co,.bool y.ft] 72);have hB6:=(hB5.ch2 hb6).ch2 al6)
     | (go_at_call 60;(with_reducible refine (hO2 _ (h.below hB6)).mono ?_);rintro e w7 ⟨rfl,hb7⟩;have al7:=one_alloc w7 (Obj.cells #[.int .i64 y.id,.string y.wa,.int .i64 y.pit,.int .i64 y.ly,.int .i64 y.co,.bool y.ft] 72);have hc7:=alKeep (o':=Obj.cells #[.int .i64 y.id,.string y.wa,.int .i64 y.pit,.int .i64 y.ly,.int .i64 y.co,.bool y.ft] 72) ((hb7.block w6.heap.size (by simp)).trans hc6);have hB7:=(hB6.ch2 hb7).ch2 al7;obtain ⟨q0,q1,q2,q3,q4,q5,qf,ql⟩:=cell6 hc7;have hZ:=((hb6.ch2 al6).ch2 hb7).ch2 al7;have n2:=((((m2.below hb3).below hb4).below hb5).below hZ);have n3:=(((m3.below hb4).below hb5).below hZ);have n4:=((m4.below hb5).below hZ);have n5:=m5.below hZ)
     | (go_at_call 25;(with_reducible refine (r2same a2 a3 _ _ c2 c3 C _ n2 n3).mono ?_);rintro e w8 ⟨rfl,hb8⟩;have hB8:=hB7.ch2 hb8)
     | (go_at_call 61;(with_reducible refine (r2sameH a4 a5 _ _ c4 c5 SH _ (n4.below hb8) (n5.below hb8) rfl rfl (by omega)).mono ?_);rintro e w9 ⟨rfl,hb9⟩;have hB9:=hB8.ch2 hb9)
     | (go_at_call 62;(with_reducible refine (hW1 _ (h.below hB9)).mono ?_);rintro e w10 ⟨v10,rfl,hb10,ho10⟩;obtain ⟨a10,c10,rfl,_⟩:=owns_slice ho10;have m10:=RowAt.of_owns ho10;have hB10:=hB9.ch2 hb10)
     | (go_at_call 63;(with_reducible refine (hW2 _ (h.below hB10)).mono ?_);rintro e w11 ⟨v11,rfl,hb11,ho11⟩;obtain ⟨a11,c11,rfl,_⟩:=owns_slice ho11;have m11:=RowAt.of_owns ho11;have hB11:=hB10.ch2 hb11)
     | (go_at_call 64;(with_reducible refine (hL1 _ (h.below hB11)).mono ?_);rintro e w12 ⟨rfl,hb12⟩;have hB12:=hB11.ch2 hb12)
     | (go_at_call 65;(with_reducible refine (hL2 _ (h.below hB12)).mono ?_);rintro e w13 ⟨rfl,hb13⟩;have hB13:=hB12.ch2 hb13)
     | (go_at_call 20;(with_reducible refine (hSh _).mono ?_);rintro e w14 ⟨rfl,hb14⟩;have hB14:=hB13.ch2 hb14;have hY:=(hb12.ch2 hb13).ch2 hb14)
     | (go_at_call 66;(with_reducible refine (r2sameW a10 a11 _ _ c10 c11 WD _ ((m10.below hb11).below hY) (m11.below hY) rfl rfl (by omega)).mono ?_);rintro e w15 ⟨rfl,hb15⟩))
    go_ret
    exact ⟨rfl,hB14.ch2 hb15⟩
open Go.ChangeShapes Go.WideShapes Go.ChangeAt Go.RowKit Go.Joins Go.Deep
set_option maxRecDepth 100000 in
theorem sherdLists_lifted (os:Os) (started:os.Started) (H:Type) (enc:TypeId × Value→H) :
 ReturnsInHanded {} Tryz.checked os 14 .any (Rows.sherdListsSpec.pre6 enc Tryz.prog Tryz.f14 Rows.sherdListsRow.domain false) (Rows.sherdListsSpec.post enc Tryz.prog Tryz.f14 false true false false):=by
 refine returnsInHanded_of_change_sized (C:=Tryz.checked) Tryz.own started Zk Tryz.func14
  (ChangeSpec.witness6 (enc:=enc) (C:=Tryz.checked) false ⟨#[],#[.slice none 0 0,.int .i64 0,.int .i64 0,.string ⟨#[]⟩],[]⟩ 8 Zk Zk Zk Zk) ?_
 intro W base args ds gs before hval0 hW _ hsz0 _
 have hsz:(DataW.weightsEach Tryz.prog (Tryz.f14.params.toList ++Rows.sherdListsSpec.plain.varTypes Tryz.prog) (ds ++gs)).all (·≤reachBytes)=true:=hsz0
 clear hsz0
 have hval:∀ (j:Nat) t v,Tryz.f14.params[j]?=some t→args[j]?=some v→Value.okWide Tryz.prog W .any base t v:=hval0
 have hW':=hW
 obtain ⟨p,q,hA0,hV,rfl,_,_⟩:=hW
 have hA:DataW.TrodAll enc Tryz.prog W 0 (fun _=>true) true Tryz.f14.params.toList args.toList ds p:=hA0
 rw [Tryz.params14] at hA hval hsz
 obtain ⟨v0,vs0,d0,ds0,p0,q0,hargs,rfl,rfl,h0,r0⟩:=trodAll_cons hA
 obtain ⟨v1,vs1,d1,ds1,p1,q1,rfl,rfl,rfl,h1,r1⟩:=trodAll_cons r0
 obtain ⟨v2,vs2,d2,ds2,p2,q2,rfl,rfl,rfl,h2,r2⟩:=trodAll_cons r1
 obtain ⟨v3,vs3,d3,ds3,p3,q3,rfl,rfl,rfl,h3,r3⟩:=trodAll_cons r2
 obtain ⟨rfl,rfl,rfl⟩:=trodAll_nil r3
 obtain rfl:args=#[v0,v1,v2,v3]:=by cases args;simp_all
 obtain ⟨rfl,rfl⟩:=trodVars_none hV
 clear hA0 hval0
 have hlt:∀ x ∈ p0 ++p1 ++p2 ++p3,x.block<W.heap.size:=fun x hx=>by have:=hW'.lt x (by simpa using hx);simpa using this
 obtain ⟨a0,n0,k0,xs0,rfl,hb0,hn0⟩:=items_open (hval 0 22 v0 rfl rfl) h0 (fun n hn=>by
  have:=List.all_eq_true.1 hsz _ (DataW.weights_mem_each (j:=0) rfl rfl n hn)
  simpa using this)
 obtain ⟨x1,rfl⟩:=okWide_int Tryz.underlying3 (hval 1 3 v1 rfl rfl)
 obtain ⟨x2,rfl⟩:=okWide_int Tryz.underlying3 (hval 2 3 v2 rfl rfl)
 obtain ⟨x3,rfl⟩:=okWide_string Tryz.underlying9 (hval 3 9 v3 rfl rfl)
 refine (llists a0 n0 k0 xs0 x1 x2 x3 W hb0 hn0).mono fun e W' ⟨he,hw⟩=>?_
 subst he
 exact ⟨_,rfl,⟨_,_,_,[],_,[],hW',trodAll_mk1 (shut_bool Tryz.underlying4 _),(trodAll_cons_mk (Below.trod Tryz.laidOut Zk (of_decide_eq_true Zk) h0 hw (fun x hx=>hlt x Z9w)) (trodAll_cons_mk (Below.trod Tryz.laidOut Zk (of_decide_eq_true Zk) h1 hw (fun x hx=>hlt x Z9w)) (trodAll_cons_mk (Below.trod Tryz.laidOut Zk (of_decide_eq_true Zk) h2 hw (fun x hx=>hlt x Z9w)) (trodAll_cons_mk (Below.trod Tryz.laidOut Zk (of_decide_eq_true Zk) h3 hw (fun x hx=>hlt x Z9w)) trodAll_mk0)))),rfl,hw.frame _,fun h=>by cases h⟩⟩
set_option maxRecDepth 100000 in
set_option maxHeartbeats 8000000 in
theorem sherdLists_closed:joinedFacts Tryz.prog 14 Tryz.f14 Rows.sherdListsSpec Rows.sherdListsRow=true:=by
 unfold joinedFacts
 repeat' (with_reducible refine (Bool.and_eq_true _ _).mpr ⟨?_,?_⟩)
 all_goals as_aux_lemma=>kernel_rfl
theorem sherdLists_holds:Rows.SherdListsSaid :=
 OpenClaim.holds_of_wide 14 Tryz.f14 rfl rfl rfl rfl rfl rfl rfl ⟨rfl,rfl,rfl,rfl,rfl⟩ rfl rfl rfl rfl rfl Zk Tryz.func14 sherdLists_closed
  (of_decide_eq_true Zk) (by unfold Func.isWrapper;rw [if_neg (of_decide_eq_false Zk)];exact ⟨rfl,rfl⟩)
  (fun os started H enc _=>sherdLists_lifted os started H enc)
#print axioms sherdLists_holds
end Go.Proofs.YtelkcohhagblaaaGreat
