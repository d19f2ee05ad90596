/- What the functions answer, for every input. -/
import Derived.Shelf.LaysM
import Derived.Shelf.SlGeneric
import Derived.Shelf.SlIterI.Nil
import Derived.Shelf.SlIterI.Collect
import Derived.Shelf.SortM.Plain
import Derived.Shelf.SortM.SortNone
import Derived.Shelf.Strings.Shaped
import Derived.Shelf.Strings.Search3
import Derived.Shelf.Slices.CompactI
import Derived.Shelf.Slices.CompactS
import Derived.Shelf.Slices.Clone
import Derived.Shelf.Slices.Turned
import Derived.Shelf.Slices.Equal
import Derived.Shelf.Slices.Empties
import Derived.Shelf.SlicesE.Clone
import Derived.Shelf.SlicesE.IndexFunc
import Derived.Shelf.SlicesE.DeleteFunc
import Derived.Ground.GgzProg
import Derived.Ground.SlgmProg
import Derived.Ground.SlgnProg
import Derived.Ground.SlgfProg
import Derived.Ground.NamesProg
import Derived.Ground.Names2Prog
import Derived.Test.YtelkcohhagblaaaGreatProg
import Derived.Test.YtelkcohhagblaaaGreatSe02
import Derived.Test.YtelkcohhagblaaaGreatSe04
import Derived.Maps.OwnOps
import Derived.Maps.OwnSet
import Derived.WalkArith
import Derived.Test.YtelkcohhagblaaaGreatSe05
import Derived.Test.YtelkcohhagblaaaGreatSe06
import Derived.Test.YtelkcohhagblaaaGreatSe07
import Derived.Test.YtelkcohhagblaaaGreatSe08
import Derived.Lib.OwnBridge
import Derived.Lib.SliceRun
set_option linter.unusedSimpArgs false
set_option linter.unusedVariables false
set_option linter.unnecessarySimpa false
namespace Go.Proofs
open Go.Shelf
def Tryz.sortA_ren:Go.Shelf.Ren:=⟨fun | 5=>170 | 8=>205 | 7=>204 | 19=>222 | 20=>223 | 10=>213 | 11=>214 | 12=>215 | 13=>216 | 14=>217 | 15=>218 | 16=>219 | 17=>220 | 18=>221 | 30=>246 | 31=>247 | 32=>248 | 33=>249 | 34=>250 | 35=>251 | 40=>261 | n=>n,fun | 23=>61 | 25=>3 | 3=>3 | 32=>36 | 22=>61 | 0=>0 | 44=>232 | 46=>234 | 4=>4 | 36=>225 | 35=>224 | 41=>138 | 5=>5 | 9=>9 | 53=>248 | 57=>252 | 63=>260 | 64=>261 | n=>n,fun | n=>n⟩
theorem Tryz.sortA:Go.Proofs.SlLaysM.n5 Tryz.prog Tryz.sortA_ren:={
 mixed:=by kernel_rfl
 f5:=⟨Tryz.f170.name,by decide,Tryz.func170.trans (congrArg some (by kernel_rfl))⟩
 f7:=⟨Tryz.f204.name,by decide,Tryz.func204.trans (congrArg some (by kernel_rfl))⟩
 f8:=Tryz.func205.trans (congrArg some (by kernel_rfl))
 f10:=⟨Tryz.f213.name,by decide,Tryz.func213.trans (congrArg some (by kernel_rfl))⟩
 f11:=⟨Tryz.f214.name,by decide,Tryz.func214.trans (congrArg some (by kernel_rfl))⟩
 f12:=⟨Tryz.f215.name,by decide,Tryz.func215.trans (congrArg some (by kernel_rfl))⟩
 f13:=⟨Tryz.f216.name,by decide,Tryz.func216.trans (congrArg some (by kernel_rfl))⟩
 f14:=⟨Tryz.f217.name,by decide,Tryz.func217.trans (congrArg some (by kernel_rfl))⟩
 f15:=⟨Tryz.f218.name,by decide,Tryz.func218.trans (congrArg some (by kernel_rfl))⟩
 f16:=⟨Tryz.f219.name,by decide,Tryz.func219.trans (congrArg some (by kernel_rfl))⟩
 f17:=⟨Tryz.f220.name,by decide,Tryz.func220.trans (congrArg some (by kernel_rfl))⟩
 f18:=⟨Tryz.f221.name,by decide,Tryz.func221.trans (congrArg some (by kernel_rfl))⟩
 f19:=Tryz.func222.trans (congrArg some (by kernel_rfl))
 f20:=Tryz.func223.trans (congrArg some (by kernel_rfl))
 f30:=⟨Tryz.f246.name,by decide,Tryz.func246.trans (congrArg some (by kernel_rfl))⟩
 f31:=Tryz.func247.trans (congrArg some (by kernel_rfl))
 f32:=Tryz.func248.trans (congrArg some (by kernel_rfl))
 f33:=⟨Tryz.f249.name,by decide,Tryz.func249.trans (congrArg some (by kernel_rfl))⟩
 f34:=⟨Tryz.f250.name,by decide,Tryz.func250.trans (congrArg some (by kernel_rfl))⟩
 f35:=⟨Tryz.f251.name,by decide,Tryz.func251.trans (congrArg some (by kernel_rfl))⟩
 f40:=⟨Tryz.f261.name,by decide,Tryz.func261.trans (congrArg some (by kernel_rfl))⟩
 t0:=Tryz.underlying0
 a0:=Tryz.isAgg0
 z0:=Tryz.sizeOf0
 v0:=Tryz.zeroValue0
 t3:=Tryz.underlying3
 a3:=Tryz.isAgg3
 z3:=Tryz.sizeOf3
 v3:=Tryz.zeroValue3
 t4:=Tryz.underlying4
 a4:=Tryz.isAgg4
 z4:=Tryz.sizeOf4
 v4:=Tryz.zeroValue4
 t5:=Tryz.underlying5
 a5:=Tryz.isAgg5
 z5:=Tryz.sizeOf5
 v5:=Tryz.zeroValue5
 t9:=Tryz.underlying9
 a9:=Tryz.isAgg9
 z9:=Tryz.sizeOf9
 v9:=Tryz.zeroValue9
 t22:=Tryz.underlying61
 a22:=Tryz.isAgg61
 z22:=Tryz.sizeOf61
 v22:=Tryz.zeroValue61
 t23:=Tryz.underlying61
 a23:=Tryz.isAgg61
 z23:=Tryz.sizeOf61
 v23:=Tryz.zeroValue61
 t25:=Tryz.underlying3
 a25:=Tryz.isAgg3
 z25:=Tryz.sizeOf3
 v25:=Tryz.zeroValue3
 t32:=Tryz.underlying36
 a32:=Tryz.isAgg36
 z32:=Tryz.sizeOf36
 v32:=Tryz.zeroValue36
 t35:=Tryz.underlying224
 a35:=Tryz.isAgg224
 z35:=Tryz.sizeOf224
 v35:=Tryz.zeroValue224
 t36:=Tryz.underlying225
 a36:=Tryz.isAgg225
 z36:=Tryz.sizeOf225
 v36:=Tryz.zeroValue225
 t41:=Tryz.underlying138
 a41:=Tryz.isAgg138
 z41:=Tryz.sizeOf138
 v41:=Tryz.zeroValue138
 t44:=Tryz.underlying232
 a44:=Tryz.isAgg232
 z44:=Tryz.sizeOf232
 v44:=Tryz.zeroValue232
 t46:=Tryz.underlying234
 a46:=Tryz.isAgg234
 z46:=Tryz.sizeOf234
 v46:=Tryz.zeroValue234
 t53:=Tryz.underlying248
 a53:=Tryz.isAgg248
 z53:=Tryz.sizeOf248
 v53:=Tryz.zeroValue248
 t57:=Tryz.underlying252
 a57:=Tryz.isAgg252
 z57:=Tryz.sizeOf252
 v57:=Tryz.zeroValue252
 t63:=Tryz.underlying260
 a63:=Tryz.isAgg260
 z63:=Tryz.sizeOf260
 v63:=Tryz.zeroValue260
 t64:=Tryz.underlying261
 a64:=Tryz.isAgg261
 z64:=Tryz.sizeOf261
 v64:=Tryz.zeroValue261 }
def Tryz.compactA_ren:Go.Shelf.Ren:=⟨fun | 20=>171 | n=>n,fun | 22=>61 | 3=>3 | 4=>4 | 0=>0 | n=>n,fun | n=>n⟩
theorem Tryz.compactA:Go.Proofs.Lays2.n20 Tryz.prog Tryz.compactA_ren:={
 mixed:=by kernel_rfl
 f20:=Tryz.func171.trans (congrArg some (by kernel_rfl))
 t0:=Tryz.underlying0
 a0:=Tryz.isAgg0
 z0:=Tryz.sizeOf0
 v0:=Tryz.zeroValue0
 t3:=Tryz.underlying3
 a3:=Tryz.isAgg3
 z3:=Tryz.sizeOf3
 v3:=Tryz.zeroValue3
 t4:=Tryz.underlying4
 a4:=Tryz.isAgg4
 z4:=Tryz.sizeOf4
 v4:=Tryz.zeroValue4
 t22:=Tryz.underlying61
 a22:=Tryz.isAgg61
 z22:=Tryz.sizeOf61
 v22:=Tryz.zeroValue61
 i3:=by kernel_rfl }
def Tryz.cloneA_ren:Go.Shelf.Ren:=⟨fun | 15=>169 | n=>n,fun | 22=>61 | 3=>3 | 4=>4 | n=>n,fun | n=>n⟩
theorem Tryz.cloneA:Go.Proofs.Lays2.n15 Tryz.prog Tryz.cloneA_ren:={
 mixed:=by kernel_rfl
 f15:=Tryz.func169.trans (congrArg some (by kernel_rfl))
 t3:=Tryz.underlying3
 a3:=Tryz.isAgg3
 z3:=Tryz.sizeOf3
 v3:=Tryz.zeroValue3
 t4:=Tryz.underlying4
 a4:=Tryz.isAgg4
 z4:=Tryz.sizeOf4
 v4:=Tryz.zeroValue4
 t22:=Tryz.underlying61
 a22:=Tryz.isAgg61
 z22:=Tryz.sizeOf61
 v22:=Tryz.zeroValue61
 i3:=by kernel_rfl }
def Tryz.strContA_ren:Go.Shelf.Ren:=⟨fun | 144=>162 | 143=>203 | 219=>212 | 217=>242 | 225=>243 | 224=>244 | 267=>245 | 266=>259 | 314=>260 | n=>n,fun | 9=>9 | 4=>4 | 3=>3 | 5=>5 | 46=>36 | 146=>258 | 51=>232 | n=>n,fun | 1=>0 | n=>n⟩
theorem Tryz.strContA:Go.Proofs.Lays.n144 Tryz.prog Tryz.strContA_ren:={
 mixed:=by kernel_rfl
 f143:=Tryz.func203.trans (congrArg some (by kernel_rfl))
 f144:=Tryz.func162.trans (congrArg some (by kernel_rfl))
 f217:=Tryz.func242.trans (congrArg some (by kernel_rfl))
 f219:=Tryz.func212.trans (congrArg some (by kernel_rfl))
 f224:=Tryz.func244.trans (congrArg some (by kernel_rfl))
 f225:=Tryz.func243.trans (congrArg some (by kernel_rfl))
 f266:=Tryz.func259.trans (congrArg some (by kernel_rfl))
 f267:=Tryz.func245.trans (congrArg some (by kernel_rfl))
 f314:=Tryz.func260.trans (congrArg some (by kernel_rfl))
 t3:=Tryz.underlying3
 a3:=Tryz.isAgg3
 z3:=Tryz.sizeOf3
 v3:=Tryz.zeroValue3
 t4:=Tryz.underlying4
 a4:=Tryz.isAgg4
 z4:=Tryz.sizeOf4
 v4:=Tryz.zeroValue4
 t5:=Tryz.underlying5
 a5:=Tryz.isAgg5
 z5:=Tryz.sizeOf5
 v5:=Tryz.zeroValue5
 t9:=Tryz.underlying9
 a9:=Tryz.isAgg9
 z9:=Tryz.sizeOf9
 v9:=Tryz.zeroValue9
 t46:=Tryz.underlying36
 a46:=Tryz.isAgg36
 z46:=Tryz.sizeOf36
 v46:=Tryz.zeroValue36
 t51:=Tryz.underlying232
 a51:=Tryz.isAgg232
 z51:=Tryz.sizeOf232
 v51:=Tryz.zeroValue232
 t146:=Tryz.underlying258
 a146:=Tryz.isAgg258
 z146:=Tryz.sizeOf258
 v146:=Tryz.zeroValue258
 g1:=by kernel_rfl }
def Tryz.cloneTA_ren:Go.Shelf.Ren:=⟨fun | 41=>75 | n=>n,fun | 22=>22 | 23=>24 | 4=>4 | n=>n,fun | n=>n⟩
theorem Tryz.cloneTA:Go.Proofs.SlLaysE0.n41 Tryz.prog Tryz.cloneTA_ren:={
 mixed:=by kernel_rfl
 f41:=⟨Tryz.f75.name,by decide,Tryz.func75.trans (congrArg some (by kernel_rfl))⟩
 t4:=Tryz.underlying4
 a4:=Tryz.isAgg4
 z4:=Tryz.sizeOf4
 v4:=Tryz.zeroValue4
 t22:=Tryz.underlying22
 a22:=Tryz.isAgg22
 z22:=Tryz.sizeOf22
 v22:=Tryz.zeroValue22 }
def Tryz.cloneBA_ren:Go.Shelf.Ren:=⟨fun | 41=>163 | n=>n,fun | 22=>50 | 23=>69 | 4=>4 | n=>n,fun | n=>n⟩
theorem Tryz.cloneBA:Go.Proofs.SlLaysE0.n41 Tryz.prog Tryz.cloneBA_ren:={
 mixed:=by kernel_rfl
 f41:=⟨Tryz.f163.name,by decide,Tryz.func163.trans (congrArg some (by kernel_rfl))⟩
 t4:=Tryz.underlying4
 a4:=Tryz.isAgg4
 z4:=Tryz.sizeOf4
 v4:=Tryz.zeroValue4
 t22:=Tryz.underlying50
 a22:=Tryz.isAgg50
 z22:=Tryz.sizeOf50
 v22:=Tryz.zeroValue50 }
end Go.Proofs
namespace Go.Proofs.YtelkcohhagblaaaGreat
open Go.RowKit Go.Shelf Go.Maps
set_option maxHeartbeats 1000000
set_option maxRecDepth 100000
open Go.RowKit Go.Shelf Go.Sort
open Go.RowKit Go.Shelf
set_option maxHeartbeats 1000000
set_option maxRecDepth 100000
attribute [local go_sem] Oper.semAt_some
theorem Sys.sub {p:Int} {bs cs:List Bd} (h:Sys p bs) (h1:∀ b ∈ cs,b ∈ bs) (h2:cs.length≤bs.length):Sys p cs:=⟨h.p1,h.p2,Nat.le_trans h2 h.len,fun b hb=>h.inr b (h1 b hb)⟩
set_option maxHeartbeats 4000000
set_option maxHeartbeats 1000000
theorem SL.Chg.mono {E F:List Nat} {w w':World} (h:SL.Chg E w w') (hE:∀ k ∈ E,k ∈ F):SL.Chg F w w':=⟨h.os,h.tape,h.output,h.size,fun k hk hn=>h.block k hk (fun hm=>hn (hE k hm))⟩
open Go.Sort Go.Lib
theorem elemT:Elem Tryz.prog 22 24 (.agg #[.int .i64 0,.int .i64 0,.int .u8 0,.string ⟨#[]⟩,.int .i64 0,.int .i64 0,.int .i64 0,.bool false,.int .i64 0,.int .i64 0,.int .i64 0,.int .i64 0,.int .i64 0,.string ⟨#[]⟩,.int .i64 0,.int .i64 0]) 16 144:=⟨Tryz.underlying22,info_parts Zk,rfl,by decide⟩
theorem elemW:Elem Tryz.prog 96 9 (.string ⟨#[]⟩) 1 16:=⟨Tryz.underlying96,info_parts Zk,rfl,by decide⟩
/-- A new row. -/
def RowPost (w:World) (t:TypeId) (size n:Nat) (xs:List Value) (e:Ending) (w':World):Prop:=∃ v,e=.returned v∧Below w.heap.size w w'∧w'.ownsRow w.heap.size t size v n xs
theorem IntsAt.cells {w:World} {n cap:Nat} {x:Addr} {xs:List Int} (h:IntsAt w (some x) n cap xs):x.spot=none∧x.block<w.heap.size∧∀ j,j<xs.length→w.cell? ⟨x.block,x.off +j,none⟩=some (.int .i64 (xs.getD j 0)):=by
 obtain ⟨h1,h2,h3⟩:=h.row.at_ _ rfl
 refine ⟨h1,h2,fun j hj=>?_⟩
 exact h3 j _ (by simp [List.getD_eq_getElem?_getD,hj])
theorem cloneI (a:Option Addr) (n cap:Nat) (xs:List Int) (w:World) (hx:IntsAt w a n cap xs) (hs:xs.length≤1000000) :
 Calls Tryz.prog 169 #[.slice a n cap] w (RowPost w 3 1 xs.length (xs.map (.int .i64))):=by
 obtain rfl:=hx.len
 match a,hx with
 | none,hx =>
   obtain ⟨h0,h1⟩:=hx.row.nil rfl
   have h2:xs=[]:=by simpa using h0
   subst h2
   refine (Any.slices_Clone_int_nil Tryz.cloneA _ _ w).mono ?_
   exact Z2p
 | some ⟨b,o,sp⟩,hx =>
   obtain ⟨rfl,hb,hc⟩:=hx.cells
   refine (Any.slices_Clone_int Tryz.cloneA b o xs.length cap xs w (Nat.le_refl _) (by omega) hc).mono ?_
   rintro e w' ⟨v,rfl,ho,_,hb⟩
   rw [List.take_length] at ho
   exact ⟨v,rfl,hb,ho⟩
theorem sortI (v:Value) (n base:Nat) (xs:List Int) (w:World) (h:w.ownsRow base 3 1 v n (xs.map (.int .i64))) (hs:xs.length≤1000000) :
 Calls Tryz.prog 170 #[v] w fun e w'=>e=.returned (.tuple #[])∧w'.ownsRow base 3 1 v n ((xs.mergeSort fun x y=>decide (x≤y)).map (.int .i64))∧SL.Chg v.ownBlock.toList w w':=by
 obtain ⟨hl,⟨rfl,hn⟩ | ⟨g,cap,cur,rfl,hbg,hg,h1,h2,h3,h4⟩⟩:=h
 ·subst hn
  simp at hl
  subst hl
  refine (AnyM.slices_Sort_int_none Tryz.sortA none 0 w).mono ?_
  rintro e w' ⟨rfl,rfl⟩
  exact ⟨rfl,by simpa using World.ownsRow_nil w' base 3 1,.refl _ _⟩
 ·have hn:xs.length=n:=by simpa using hl
  subst hn
  simp only [Nat.mul_one] at h4
  have hgl:g<w.heap.size:=(Array.getElem?_eq_some_iff.1 hg).1
  refine (AnyM.slices_Sort_int Tryz.sortA g 0 cap xs w (holds_of_block_i hg h4) hgl (by omega)).mono ?_
  rintro e w' ⟨rfl,q,os,rfl⟩
  exact ⟨rfl,ownsRow_sorted_i (sort_len xs) hbg hg h1 h2 h3,.of_grown (grownBy_sorted_i _) (by simp [Value.ownBlock])⟩
theorem compactI (v:Value) (n base:Nat) (xs:List Int) (w:World) (h:w.ownsRow base 3 1 v n (xs.map (.int .i64))) (hs:xs.length≤1000000) :
 Calls Tryz.prog 171 #[v] w fun e w'=>∃ v',e=.returned v'∧w'.ownsRow base 3 1 v' (Lib.compact xs).length ((Lib.compact xs).map (.int .i64))∧SL.Chg v.ownBlock.toList w w'∧v'.ownBlock=v.ownBlock:=by
 have hcl:=Lib.compact_length_le xs
 have h':=h
 obtain ⟨hl,⟨rfl,hn⟩ | ⟨g,cap,cur,rfl,hbg,hg,h1,h2,h3,h4⟩⟩:=h
 ·subst hn
  simp at hl
  subst hl
  refine (Any.slices_Compact_int_empty Tryz.compactA none 0 w).mono ?_
  rintro e w' ⟨rfl,rfl⟩
  exact ⟨_,rfl,World.ownsRow_nil _ _ _ _,.refl _ _,rfl⟩
 ·have hn:xs.length=n:=by simpa using hl
  subst hn
  simp only [Nat.mul_one] at h4
  have hgl:g<w.heap.size:=(Array.getElem?_eq_some_iff.1 hg).1
  refine (Any.slices_Compact_int Tryz.compactA g 0 cap xs w (holds_of_block_i hg h4) (by omega) h1).mono ?_
  rintro e w' ⟨rfl,q,rfl⟩
  have ho:=Lib.ownsRow_putRow (enc:=Value.int .i64) (q:=q) (ys:=Lib.compact xs ++List.replicate (xs.length - (Lib.compact xs).length) 0) h' Zj hcl
  rw [List.take_left] at ho
  refine ⟨_,rfl,ho,⟨rfl,rfl,rfl,by simp [putRow,mapBlock,Sort.ahead],fun k hk hne=>?_⟩,rfl⟩
  have hgk:g≠k:=fun e=>hne (by simp [Value.ownBlock,e])
  simp [putRow,mapBlock,Sort.ahead,Array.getElem?_modify,hgk]
theorem cloneT (a:Option Addr) (n cap:Nat) (ps:List Itm) (w:World) (hx:ItmsAt w a n cap ps) (hs:ps.length≤10000) :
 Calls Tryz.prog 75 #[.slice a n cap] w (RowPost w 24 16 ps.length (ics ps)):=by
 obtain rfl:=hx.len
 match a,hx with
 | none,hx =>
   obtain ⟨h0,h1⟩:=hx.row.nil rfl
   have hl:=ics_length ps
   rw [h0] at hl
   have h2:ps=[]:=List.eq_nil_of_length_eq_zero (by simp at hl;omega)
   subst h2
   refine (AnyE.slices_Clone_nil Tryz.cloneTA _ _ w).mono ?_
   exact Z2p
 | some ⟨b,o,sp⟩,hx =>
   obtain ⟨h1,h2,h3⟩:=hx.row.at_ _ rfl
   simp only at h1
   subst h1
   obtain ⟨i,hi,hz,hz1,hz2⟩:=elemT.info
   refine (AnyE.slices_Clone Tryz.cloneTA i _ 16 144 hi hz hz1 hz2 elemT.zs (by omega) (fun w=>Tryz.sizeOf24 w) b o ps.length cap (ics ps) w (ics_length ps) Z1s (by omega) (fun j u hj=>h3 j u hj) (ics_one ps)).mono ?_
   exact Z4s
set_option maxRecDepth 100000
open Go.RowKit Go.Shelf
set_option maxHeartbeats 8000000
theorem searly1 (x:Itm) (day:Int) (XB:Nat) (w:World) (h:w.cell? ⟨XB,0,none⟩=some (.int .i64 day)) :
 Calls Tryz.prog 173 #[x.v,.pointer (some ⟨XB,0,none⟩)] w fun e w'=>e=.returned (.bool (decide (day<x.kn)))∧Below w.heap.size w w':=by
 have z:=World.block_lt_of_cell? w _ h
 simp only at z
 simp only [Itm.v,Itm.cs]
 go_enter Tryz.func173,Tryz.ntmps173
 go_wp2
 exact Z4i
/-- clear of a slice of structs: whatever its cells hold then, they are so many. -/
theorem run_clear_struct {P:Program} (w:World) (t e ty:TypeId) (z:Value) (zs:List Value) (ht:P.underlying t=some (.slice e)) (hv:∀ w,(zeroValue e).run P w=.ok z w) (hz:z.cells=zs.toArray) (h1:∀ u ∈ zs,u.oneCell'=true) (b o n c:Nat) (hn:0<n)
 (hc:∀ j,j<n * zs.length→(w.cell? ⟨b,o +j,none⟩).isSome=true) (hf:∀ j,j<n * zs.length→w.frozen? ⟨b,o +j,none⟩=false) :
 ∃ vs,vs.length=n * zs.length∧(Builtin.clear_ #[t] ty #[.slice (some ⟨b,o,none⟩) n c]).run P w=.ok (.tuple #[]) (w.setCells b o vs):=by
 have hl:(Builtin.zeroCells z.cells n).toList.length=n * zs.length:=by rw [hz];simp [Builtin.zeroCells]
 have ho:∀ u ∈ (Builtin.zeroCells z.cells n).toList,u.oneCell'=true:=by
  intro u hu
  rw [hz] at hu
  simp only [Builtin.zeroCells,Array.toList_map,List.mem_map,List.size_toArray] at hu
  obtain ⟨i,hi,rfl⟩:=hu
  simp at hi
  have hp:0<zs.length:=by
   rcases Nat.eq_zero_or_pos zs.length with h0 | h0
   ·rw [h0] at hi;omega
   ·exact h0
  have hm:i % zs.length<zs.length:=Nat.mod_lt _ hp
  have:zs.toArray[i % zs.length]! =zs[i % zs.length]:=by simp [hm]
  rw [this]
  exact h1 _ (List.getElem_mem _)
 have hst:=run_storeCells_cells (P:=P) b o (Builtin.zeroCells z.cells n).toList 0 w (by rw [hl];simpa using hc) (by rw [hl];simpa using hf) ho
 simp only [Nat.add_zero] at hst
 obtain ⟨m,rfl⟩:∃ m,n=m +1:=⟨n - 1,by omega⟩
 refine ⟨(Builtin.zeroCells z.cells (m +1)).toList,hl,?_⟩
 simp [Builtin.clear_,run_underlying ht,hv,hst]
theorem putsAt_setCells (G:Nat):∀ (vs:List Value) (o:Nat) (w:World),w.setCells G o vs=putsAt w G o vs
 | [],_,_=>rfl
 | v::vs,o,w=>by unfold World.setCells putsAt;exact putsAt_setCells G vs (o +1) _
/-- The first elements of a row. -/
theorem row_front {w:World} {base:Nat} {t:TypeId} {size n cap:Nat} {a:Option Addr} {xs:List Value} (h:w.ownsRow base t size (.slice a n cap) n xs) {i:Nat} (hi:i≤n) (ha:a≠none):w.ownsRow base t size (.slice a i cap) i (xs.take (i * size)):=by
 obtain ⟨hl,⟨h0,hn⟩ | ⟨g,c,cur,hv,hbg,hg,h1,h2,h3,h4⟩⟩:=h
 ·injection h0 with h0
  exact absurd h0 ha
 ·injection hv with hv1 _ hv2
  subst hv1
  subst hv2
  have hle:i * size≤n * size:=Nat.mul_le_mul_right _ hi
  refine ⟨by rw [List.length_take];omega,.inr ⟨g,_,cur,rfl,hbg,hg,by omega,h2,h3,?_⟩⟩
  rw [← h4,List.take_take,Nat.min_eq_left hle]
/-- A list with all from some place on set anew, as its cells say it. -/
theorem sets_tail {xs:List Value} {o:Nat} {vs:List Value} (h:o +vs.length=xs.length):(setsAt xs o vs).take o=xs.take o:=by
 have e:xs=xs.take o ++xs.drop o ++[]:=by simp
 have hd:vs.length=(xs.drop o).length:=by rw [List.length_drop];omega
 have ht:(xs.take o).length=o:=by rw [List.length_take];omega
 have:=setsAt_mid vs (xs.drop o) (xs.take o) [] hd
 rw [ht] at this
 conv=>lhs;rw [e,this]
 rw [List.append_nil,List.take_append_of_le_length (by omega),List.take_of_length_le (by omega)]
theorem filter_succ {l:List Itm} {p:Itm→Bool} {k:Nat} (hk:k<l.length):(l.take (k +1)).filter p=(l.take k).filter p ++(if p (l.getD k default)=true then [l.getD k default] else []):=by
 rw [List.take_succ_eq_append_getElem hk,List.filter_append,List.getD_eq_getElem?_getD,List.getElem?_eq_getElem hk]
 simp only [Option.getD_some]
 by_cases h:p l[k]=true
 ·rw [if_pos h];simp [h]
 ·rw [if_neg h];simp [h]
/-- What the row holds while elements are left out. -/
structure DelI (f:Itm→Bool) (xs cur:List Itm) (i j:Nat):Prop where
 len:cur.length=xs.length
 le:i<j
 jle:j≤xs.length
 kept:cur.take i=(xs.take j).filter fun x=>!f x
 rest:cur.drop j=xs.drop j
theorem DelI.start {f:Itm→Bool} {xs:List Itm} (h:xs.any f=true):DelI f xs xs (fstT f xs) (fstT f xs +1):=by
 have hw:xs.any f=true:=h
 obtain ⟨y,hy,hf⟩:=List.any_eq_true.1 h
 have hsplit:=List.takeWhile_append_dropWhile (p:=fun x=>!f x) (l:=xs)
 have hall:∀ x ∈ xs.takeWhile (fun x=>!f x),(!f x)=true:=fun x hx=>List.all_eq_true.1 List.all_takeWhile x hx
 have hk0:fstT f xs=(xs.takeWhile fun x=>!f x).length:=rfl
 have hhd:∀ z zs,xs.dropWhile (fun x=>!f x)=z::zs→f z=true:=fun z zs hd=>by
  exact Z32
 rw [hk0]
 generalize xs.takeWhile (fun x=>!f x)=T at *
 generalize hd:xs.dropWhile (fun x=>!f x)=D at *
 cases D with
 | nil =>
   exact Z3s
 | cons z zs =>
   have hz:=hhd z zs rfl
   clear hd hhd hk0 h hw hy hf
   subst hsplit
   have hk:T.length<(T ++z::zs).length:=by simp
   have hg:(T ++z::zs).getD T.length default=z:=by simp [List.getD_eq_getElem?_getD]
   refine ⟨rfl,Nat.lt_succ_self _,hk,?_,rfl⟩
   rw [filter_succ hk,hg,if_neg (by rw [hz];simp),List.append_nil,List.take_left]
   exact Z5m
theorem DelI.get {f:Itm→Bool} {xs cur:List Itm} {i j:Nat} (h:DelI f xs cur i j) (hj:j<xs.length):cur.getD j default=xs.getD j default:=by
 exact Z2v
theorem DelI.keep {f:Itm→Bool} {xs cur:List Itm} {i j:Nat} (h:DelI f xs cur i j) (hj:j<xs.length) (hf:f (xs.getD j default)=false):DelI f xs (cur.set i (xs.getD j default)) (i +1) (j +1):=by
 obtain ⟨h1,h2,h3,h4,h5⟩:=h
 refine ⟨by simpa using h1,by omega,hj,?_,?_⟩
 ·rw [filter_succ hj,if_pos (by rw [hf];rfl),← h4,List.take_succ_eq_append_getElem Zj,List.take_set_of_le (Nat.le_refl _)]
  simp
 ·exact Z7g
theorem DelI.skip {f:Itm→Bool} {xs cur:List Itm} {i j:Nat} (h:DelI f xs cur i j) (hj:j<xs.length) (hf:f (xs.getD j default)=true):DelI f xs cur i (j +1):=by
 obtain ⟨h1,h2,h3,h4,h5⟩:=h
 refine ⟨h1,by omega,hj,?_,?_⟩
 ·rw [filter_succ hj,if_neg (by rw [hf];simp),List.append_nil,h4]
 ·exact Z25
end Go.Proofs.YtelkcohhagblaaaGreat
