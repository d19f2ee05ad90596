/- What the functions answer, for every input. -/
import Derived.Test.YtelkcohhagblaaaGreatSe45
import Derived.Test.YtelkcohhagblaaaGreatSe34
import Derived.Test.YtelkcohhagblaaaGreatSe24
import Derived.Test.YtelkcohhagblaaaGreatSe49
import Derived.Test.YtelkcohhagblaaaGreatSe32
import Derived.Test.YtelkcohhagblaaaGreatSe04
import Derived.Test.YtelkcohhagblaaaGreatSe10
import Derived.Test.YtelkcohhagblaaaGreatSe41
set_option linter.unusedSimpArgs false
set_option linter.unusedVariables false
set_option linter.unnecessarySimpa false
namespace Go.Proofs.YtelkcohhagblaaaGreat
theorem Z8q {P:Prop}(h:P:=by
 rw [← scs_append,List.take_append_drop];exact hrow):P:=h
theorem Z8r {P:Prop}(h:P:=by
 rw [scs_one1];exact hu):P:=h
theorem Z8y {P:Prop}(h:P:=by
 rw [scs_length,List.length_take];omega):P:=h
theorem Z91 {P:Prop}(h:P:=by
 simpa using hr3):P:=h
open Go.RowKit Go.Shelf Go.Sort
set_option maxHeartbeats 4000000
set_option maxRecDepth 100000
abbrev SId:={ x:Shd // 1≤x.id∧x.id≤1000000 }
instance:Inhabited SId:=⟨⟨⟨1,⟨#[]⟩,0,0,0,false⟩,by decide⟩⟩
def scs (l:List Shd):List Value:=l.flatMap Shd.cs
theorem scs_append (a b:List Shd):scs (a ++b)=scs a ++scs b:=by simp [scs]
theorem scs_length (l:List Shd):(scs l).length=l.length * 6:=flatS_len (f:=Shd.cs) (k:=6) (fun _=>rfl) l
theorem scs_one (l:List Shd):∀ u ∈ scs l,u.oneCell'=true:=by
 intro u hu
 obtain ⟨x,_,hx⟩:=List.mem_flatMap.1 hu
 simp only [Shd.cs,List.mem_cons,List.not_mem_nil,or_false] at hx
 rcases hx with rfl | rfl | rfl | rfl | rfl | rfl <;> rfl
open Go.RowKit Go.Shelf
set_option maxHeartbeats 8000000
set_option maxRecDepth 100000
theorem elemH:Elem Tryz.prog 92 72 (.agg #[.int .i64 0,.string ⟨#[]⟩,.int .i64 0,.int .i64 0,.int .i64 0,.bool false]) 6 56:=⟨Tryz.underlying92,info_parts Zk,rfl,by decide⟩
theorem shdsL_succ {s:List Itm} {k:Nat} (hk:k<s.length):shdsL (s.take (k +1))=shdsL (s.take k) ++(if (s.getD k default).kd=1 then [(s.getD k default).shd] else []):=by
 unfold shdsL
 rw [List.take_succ_eq_append_getElem hk,List.filter_append,List.map_append,List.getD_eq_getElem?_getD,List.getElem?_eq_getElem hk]
 congr 1
 by_cases h:s[k].kd=1 <;> simp [h]
theorem r2Counting_any (a:Option Addr) (n cap:Nat) (l:List Itm) (day:Int) (w:World) (h:ItmsAt w a n cap l) (hcap:l.length≤cap) (hs:l.length≤1000) :
 Calls Tryz.prog 57 #[.slice a n cap,.int .i64 day] w (RowE w (chkI l).2 (cntL l day)):=by
 have hCh:=fun W hi=>r2Check_any a n cap l W hi hcap
 have hCo:=fun W hi=>r2counting_any a n cap l day W hi hs
 unfold PairI at hCh
 unfold RowPost at hCo
 have hE:cntL l day=if (chkI l).2=0 then countL l day else []:=rfl
 have HP:=Lib.hid (show ∀ w' v,Below w.heap.size w w'→w'.ownsRow w.heap.size 24 16 v (cntL l day).length (ics (cntL l day))→RowE w (chkI l).2 (cntL l day) (.returned (.tuple #[v,.int .i64 (chkI l).2])) w' from fun w' v h1 h2=>⟨v,rfl,h1,h2⟩)
 generalize RowE w (chkI l).2 (cntL l day)=Post at *
 rw [hE] at HP
 clear hE
 generalize (chkI l).1=C1 at *
 generalize (chkI l).2=C2 at *
 generalize countL l day=N at *
 by_cases h0:C2=0
 ·subst h0
  rw [if_pos rfl] at HP
  go_enter Tryz.func57,Tryz.ntmps57
  go_wp2_with (first
   | (go_at_call 22;(with_reducible refine (hCh _ h).mono ?_);rintro e w1 ⟨rfl,hb1⟩)
   | (go_at_call 129;(with_reducible refine (hCo _ (h.below hb1)).mono ?_);rintro e w2 ⟨v,rfl,hb2,ho2⟩;obtain ⟨va,vc,rfl,_⟩:=owns_slice ho2))
  have hB:=hb1.ch2 hb2
  exact HP.out _ _ hB (SL.row_base ho2 hb1.size)
 ·rw [if_neg h0] at HP
  have e2:(C2 != 0)=true:=by simpa using h0
  clear h0 hCo
  go_enter Tryz.func57,Tryz.ntmps57
  go_wp2_with (go_at_call 22;(with_reducible refine (hCh _ h).mono ?_);rintro e w1 ⟨rfl,hb1⟩)
  exact HP.out _ _ hb1 (World.ownsRow_nil _ _ _ _)
theorem sortS_snoc (l:List Shd) (x:Shd):sortS (l ++[x])=putS (sortS l) x:=by
 unfold sortS
 rw [List.foldl_append]
 rfl
/-- Where a sherd is put into an ascending list. -/
theorem put_at {l:List Shd} (hs:l.Pairwise fun a b=>a.id≤b.id) {x:Shd} {k:Nat} (hk:k≤l.length) (ha:∀ j,k≤j→j<l.length→x.id<(l.getD j default).id) (hb:k=0∨(l.getD (k - 1) default).id≤x.id) :
 putS l x=l.take k ++[x] ++l.drop k:=by
 have h1:∀ y ∈ l.take k,y.id≤x.id:=fun y hy=>by
  rcases hb with hb | hb
  ·subst hb;simp at hy
  ·obtain ⟨j,hj,rfl⟩:=List.getElem_of_mem hy
   rw [List.length_take] at hj
   rw [List.getElem_take]
   have hk1:k - 1<l.length:=by omega
   rw [List.getD_eq_getElem?_getD,List.getElem?_eq_getElem hk1] at hb
   simp only [Option.getD_some] at hb
   by_cases e:j=k - 1
   ·subst e;exact hb
   ·have:=List.pairwise_iff_getElem.1 hs j (k - 1) (by omega) hk1 (by omega)
    omega
 have h2:∀ y ∈ l.drop k,¬ y.id≤x.id:=fun y hy=>by
  obtain ⟨j,hj,rfl⟩:=List.getElem_of_mem hy
  rw [List.length_drop] at hj
  rw [List.getElem_drop]
  have:=ha (k +j) (by omega) (by omega)
  rw [List.getD_eq_getElem?_getD,List.getElem?_eq_getElem (by omega)] at this
  simp only [Option.getD_some] at this
  omega
 unfold putS
 have e1:l.takeWhile (fun y=>decide (y.id≤x.id))=l.take k:=by
  conv=>lhs;rw [← List.take_append_drop k l]
  rw [List.takeWhile_append_of_pos (fun y hy=>by simpa using h1 y hy)]
  cases hd:l.drop k with
  | nil=>simp
  | cons z t =>
    have:=h2 z (by rw [hd];simp)
    rw [List.takeWhile_cons_of_neg (by simpa using this)]
    simp
 have e2:l.dropWhile (fun y=>decide (y.id≤x.id))=l.drop k:=by
  conv=>lhs;rw [← List.take_append_drop k l]
  rw [List.dropWhile_append_of_pos (fun y hy=>by simpa using h1 y hy)]
  cases hd:l.drop k with
  | nil=>simp
  | cons z t =>
    have:=h2 z (by rw [hd];simp)
    rw [List.dropWhile_cons_of_neg (by simpa using this)]
 rw [e1,e2]
 simp
set_option maxHeartbeats 16000000
theorem shd_get {w:World} {a:Option Addr} {cap:Nat} {l:List Shd} (h:RowAt w a cap (scs l)) {i:Nat} (hi:i<l.length):∃ b off,a=some ⟨b,off,none⟩∧b<w.heap.size∧w.cell? ⟨b,off +i * 6,none⟩=some (.int .i64 (l.getD i default).id):=by
 have g:=fun j hj=>flatS_get (f:=Shd.cs) (k:=6) (fun _=>rfl) l i j hi hj
 obtain ⟨b,off,h1,h2,h3⟩:=rowS_cells h (by intro e;have:=scs_length l;rw [e] at this;simp at this;omega)
 exact ⟨b,off,h1,h2,h3 (i * 6 +0) _ ((g 0 (by omega)).trans rfl)⟩
theorem row_fst {w:World} {a:Option Addr} {cap:Nat} {vs ws:List Value} (h:RowAt w a cap (vs ++ws)):RowAt w a cap vs:=by
 constructor
 ·intro ha
  have:=h.nil ha
  simp at this
  exact ⟨this.1.1,this.2⟩
 ·intro x hx
  exact ⟨(h.at_ x hx).1,(h.at_ x hx).2.1,fun i u hi=>(h.at_ x hx).2.2 i u (by rw [List.getElem?_append_left (List.getElem?_eq_some_iff.1 hi).1];exact hi)⟩
theorem row_snd {w:World} {b o cap c2:Nat} {vs ws:List Value} (h:RowAt w (some ⟨b,o,none⟩) cap (vs ++ws)):RowAt w (some ⟨b,o +vs.length,none⟩) c2 ws:=by
 constructor
 ·intro ha;cases ha
 ·intro x hx
  cases hx
  refine ⟨rfl,(h.at_ _ rfl).2.1,fun i u hi=>?_⟩
  have:=(h.at_ _ rfl).2.2 (vs.length +i) u (by rw [List.getElem?_append_right (by omega)];simpa using hi)
  simpa [Nat.add_assoc] using this
theorem row_from {w:World} {b o oc q:Nat} {S:List Shd} (h:RowAt w (some ⟨b,o,none⟩) oc (scs S)) (hq:q≤S.length) (hc:S.length≤oc):RowAt w (if oc=q then some ⟨b,o,none⟩ else some ⟨b,o +q * 6,none⟩) (oc - q) (scs (S.drop q)):=by
 split
 ·rename_i e
  rw [List.drop_eq_nil_of_le (by omega)]
  constructor
  ·intro ha;cases ha
  ·intro x hx
   cases hx
   exact ⟨rfl,(h.at_ _ rfl).2.1,fun i u hi=>by simp [scs] at hi⟩
 ·have e:=row_snd (c2:=oc - q) (vs:=scs (S.take q)) (ws:=scs (S.drop q)) (by rw [← scs_append,List.take_append_drop];exact h)
  rwa [scs_length,List.length_take,Nat.min_eq_left hq] at e
theorem own_put {w:World} {base:Nat} {v:Value} {S:List Shd} {x:Shd} {q:Nat} (hq:q≤S.length) (h:w.ownsRow base 72 6 v (q +1 +(S.length - q)) ((scs (S.take q) ++x.cs) ++scs (S.drop q))):w.ownsRow base 72 6 v (S.take q ++[x] ++S.drop q).length (scs (S.take q ++[x] ++S.drop q)):=by
 have e:(S.take q ++[x] ++S.drop q).length=q +1 +(S.length - q):=by simp;omega
 have e1:scs [x]=x.cs:=by simp [scs]
 rw [e,scs_append,scs_append,e1]
 exact h
theorem scs_one1 (x:Shd):scs [x]=x.cs:=by simp [scs]
theorem sortS_step {N:List Itm} {k:Nat} (hk:k<N.length):sortS (shdsL (N.take (k +1)))=if (N.getD k default).kd=1 then putS (sortS (shdsL (N.take k))) (N.getD k default).shd else sortS (shdsL (N.take k)):=by
 rw [shdsL_succ hk]
 split
 ·exact sortS_snoc _ _
 ·rw [List.append_nil]
theorem r2Sherds_any (a:Option Addr) (n cap:Nat) (l:List Itm) (day:Int) (w:World) (h:ItmsAt w a n cap l) (hcap:l.length≤cap) (hs:l.length≤1000) :
 Calls Tryz.prog 59 #[.slice a n cap,.int .i64 day] w fun e w'=>∃ v,e=.returned (.tuple #[v,.int .i64 (chkI l).2])∧Below w.heap.size w w'∧w'.ownsRow w.heap.size 72 6 v (sherdsL (cntL l day)).length (scs (sherdsL (cntL l day))):=by
 have hC:=r2Counting_any a n cap l day w h hcap hs
 have hw2:∀ x ∈ cntL l day,x.Wide:=fun x hx=>by
  unfold cntL at hx
  split at hx
  ·exact h.wide x (countL_sub hx).1
  ·cases hx
 have hcl:(cntL l day).length≤1000:=by
  unfold cntL
  split
  ·exact Nat.le_trans (countL_len l day) hs
  ·simp
 unfold RowE at hC
 generalize cntL l day=N at *
 generalize (chkI l).2=E at *
 have HP:=Lib.hid (show ∀ v w',Below w.heap.size w w'→w'.ownsRow w.heap.size 72 6 v (sherdsL N).length (scs (sherdsL N))→(fun (e:Ending) (w':World)=>∃ v,e=.returned (.tuple #[v,.int .i64 E])∧Below w.heap.size w w'∧w'.ownsRow w.heap.size 72 6 v (sherdsL N).length (scs (sherdsL N))) (.returned (.tuple #[v,.int .i64 E])) w' from fun v w' h1 h2=>⟨v,rfl,h1,h2⟩)
 generalize hPost:(fun (e:Ending) (w':World)=>∃ v,e=.returned (.tuple #[v,.int .i64 E])∧Below w.heap.size w w'∧w'.ownsRow w.heap.size 72 6 v (sherdsL N).length (scs (sherdsL N)))=Post at *
 clear hPost
 go_enter Tryz.func59,Tryz.ntmps59
 go_wp2_with (go_at_call 57;(with_reducible refine hC.mono ?_);rintro e w2 ⟨v2,rfl,hb2,ho2⟩;obtain ⟨va,vc,rfl,_⟩:=owns_slice ho2)
 have hN:=ItmsAt.of_owns ho2 (by omega) hw2
 have H1:=Lib.hid hb2
 have Hlen:∀ k,(sortS (shdsL (N.take k))).length≤1000:=fun k=>by
  rw [sortS_len]
  unfold shdsL
  rw [List.length_map]
  exact Nat.le_trans (List.length_filter_le _ _) (by rw [List.length_take];omega)
 have HLn:=Lib.hid Hlen
 clear h ho2 hw2 hC hb2 Hlen
 go_loopw [8,9] (fun r i wr=>∃ k:Nat,k≤N.length∧i=.int .i64 k∧wr.ownsRow w2.heap.size 72 6 r (sortS (shdsL (N.take k))).length (scs (sortS (shdsL (N.take k))))∧Below w2.heap.size w2 wr) (fun _ i _=>N.length - (RowKit.intOf i).toNat)
 case atStart=>exact ⟨0,Nat.zero_le _,rfl,World.ownsRow_nil _ _ _ _,Below.refl _ _⟩
 case round =>
  obtain ⟨k,hk,rfl,hro,hB⟩:=hrel
  have hnn:(0:Int)≤k:=by omega
  obtain ⟨oa,oc,rfl,_⟩:=owns_slice hro
  by_cases hlt:k<N.length
  ·have i1:(k:Int)<(N.length:Int):=by omega
   obtain ⟨b,o,rfl,hbz,⟨d0,d1,d2,d3,d4,d5,d6,d7,d8,d9,d10,d11,d12,d13,d14,d15⟩⟩:=(hN.below hB).get hlt
   have Hst:=Lib.hid (sortS_step hlt)
   have hSl:=HLn.out k
   have HSs:=Lib.hid (sortS_sorted (shdsL (N.take k)))
   generalize N.getD k default=x at *
   generalize sortS (shdsL (N.take k))=S at *
   by_cases hkd:x.kd=1
   ·have e1:(x.kd != 1)=false:=by simpa using hkd
    have Hst:=Lib.hid (Hst.out.trans (if_pos hkd))
    clear hkd
    have HR:=Lib.hid hro
    have HB:=Lib.hid hB
    have HN:=Lib.hid hN
    clear hro hB hN
    go_wp2_with fail
    apply SLG.rule0 ?hm [] [31,32,33,34,35,36,37,38,39,40,41,42,43,44,45,46,47,48,49,50,51,52,53,54,55,56,57,58,59,60,61,10] [SLF.pq 31 [] _,SLF.pq 32 [] _,SLF.pq 33 [0,1] _,SLF.pq 34 [2] _,SLF.pq 35 [3] _,SLF.pq 36 [] _,SLF.pq 37 [] _,SLF.pq 38 [5,6] _,SLF.pq 39 [7] _,SLF.pq 40 [8] _,SLF.pq 41 [] _,SLF.pq 42 [] _,SLF.pq 43 [10,11] _,SLF.pq 44 [12] _,SLF.pq 45 [13] _,SLF.pq 46 [] _,SLF.pq 47 [] _,SLF.pq 48 [15,16] _,SLF.pq 49 [17] _,SLF.pq 50 [18] _,SLF.pq 51 [] _,SLF.pq 52 [] _,SLF.pq 53 [20,21] _,SLF.pq 54 [22] _,SLF.pq 55 [23] _,SLF.pq 56 [] _,SLF.pq 57 [] _,SLF.pq 58 [25,26] _,SLF.pq 59 [27] _,SLF.pq 60 [28] _,SLF.pq 61 [4,9,14,19,24,29] _,SL.box 10 [] [] wr.heap.size 72 #[.int .i64 0,.string ⟨#[]⟩,.int .i64 0,.int .i64 0,.int .i64 0,.bool false],SL.box 10 [30,31] [31] wr.heap.size 72 #[.int .i64 x.id,.string x.wa,.int .i64 x.pit,.int .i64 x.ly,.int .i64 x.co,.bool x.ft]] [32] ?hck ?hkp (fun _=>[]) ?hin ?hdj ?hfr ?ob ?en1
    case hm=>kernel_rfl
    case hin=>exact SL.none_held rfl
    case hdj=>simp
    case hfr=>intro us;simp only [SL.frame,SL.put'];simp;exact rfl
    case ob =>
     refine ⟨?_,?_,?_,?_,?_,?_,?_,?_,?_,?_,?_,?_,?_,?_,?_,?_,?_,?_,?_,?_,?_,?_,?_,?_,?_,?_,?_,?_,?_,?_,?_,?_,?_,trivial⟩
     all_goals first
      | (intro us w' Fe hG hu hd hv Kx hK
         try dsimp only
         simp [SL.O] at hu hK
         have hB5:Below wr.heap.size wr w':=hG.below'
         obtain ⟨hc5,hf5⟩:=bcell hB5
         have hs5:=hB5.size
         have p0:=(hc5 b _ hbz).trans d0;have p3:=(hc5 b _ hbz).trans d3;have p4:=(hc5 b _ hbz).trans d4;have p5:=(hc5 b _ hbz).trans d5;have p6:=(hc5 b _ hbz).trans d6;have p7:=(hc5 b _ hbz).trans d7
         clear hv hG
         exact Z5z)
      | skip
     ·refine SLG.ob_sp rfl rfl rfl fun us w' Fe hG hu hd Kx hK=>?_
      try dsimp only
      simp [SL.O] at hu
      have hB5:Below wr.heap.size wr w':=hG.below'
      obtain ⟨hc5,hf5⟩:=bcell hB5
      have hs5:=hB5.size
      have p0:=(hc5 b _ hbz).trans d0;have p3:=(hc5 b _ hbz).trans d3;have p4:=(hc5 b _ hbz).trans d4;have p5:=(hc5 b _ hbz).trans d5;have p6:=(hc5 b _ hbz).trans d6;have p7:=(hc5 b _ hbz).trans d7
      refine SLF.wpo_do (SLF.wanted_free rfl) ?hd ?_
      case hd=>intro c h;cases h
      clear hu hc5 hf5
      go_step
      exact hK _ _ _ _ Zh (.alloc _ _ _) ⟨_,rfl,hs5,World.alloc_heap_new _ _,rfl⟩ (by simp)
     ·refine SLG.ob_no rfl rfl rfl fun us w' Fe hG hu hd Kx hK=>?_
      try dsimp only
      simp [SL.O] at hu
      have hB5:Below wr.heap.size wr w':=hG.below'
      obtain ⟨hc5,hf5⟩:=bcell hB5
      have hs5:=hB5.size
      have p0:=(hc5 b _ hbz).trans d0;have p3:=(hc5 b _ hbz).trans d3;have p4:=(hc5 b _ hbz).trans d4;have p5:=(hc5 b _ hbz).trans d5;have p6:=(hc5 b _ hbz).trans d6;have p7:=(hc5 b _ hbz).trans d7
      refine SLF.wpo_do (SLF.wanted_free rfl) ?hd ?_
      case hd=>intro c h;cases h
      obtain ⟨⟨e30,_⟩,M,e5,hbM,hhM,eF⟩:=hu
      obtain ⟨q0,q1,q2,q3,q4,q5,qf,ql⟩:=cell6 hhM
      clear hc5 hf5 p0 p3 p4 p5 p6 p7
      go_step
      exact hK _ [M] (chg_eq (by simp [SL.box,eF]) (SLG.chg_set6 (E:=[M]) (N:=M) w' (by simp) ..)) ⟨M,e5,hbM,SLG.heap_set6 hhM ..,rfl⟩ (fun k hk=>.inl (by simpa [SL.box,eF] using hk))
    case hck=>kernel_rfl
    case hkp=>kernel_rfl
    intro us w7 Fs hG hu hbd hd
    simp [SL.Used,SL.box] at hu
    obtain ⟨M,e10,hbM,hhM,_⟩:=hu
    have hb7:Below wr.heap.size wr w7:=hG.below'
    rw [e10]
    clear hG hbd hd e10 d0 d1 d2 d3 d4 d5 d6 d7 d8 d9 d10 d11 d12 d13 d14 d15
    have hrow:=RowAt.of_owns (HR.out.up hb7 (Nat.le_refl _))
    have hoc:=row_cap HR.out
    have zM:=(Array.getElem?_eq_some_iff.1 hhM).1
    have HM:=Lib.hid hhM
    have HB7:=Lib.hid (HB.out.ch2 hb7)
    clear hhM hb7
    go_wp2_with fail
    go_loopw [11] (fun v wx=>∃ q:Nat,q≤S.length∧v=.int .i64 q∧(∀ j,q≤j→j<S.length→x.id<(S.getD j default).id)∧Below w7.heap.size w7 wx) (fun v _=>(RowKit.intOf v).toNat)
    case atStart=>exact ⟨S.length,Nat.le_refl _,rfl,fun j h1 h2=>absurd h2 (by omega),Below.refl _ _⟩
    case round =>
     obtain ⟨q,hq,rfl,hup,hBx⟩:=hrel
     have HUp:=Lib.hid hup
     clear hup
     have m0:=(SL.cells_of ((hBx.block M zM).trans HM.out)).1 0
     simp only [List.getElem?_toArray,List.getElem?_cons_zero] at m0
     have tok1:True:=trivial
     have tok2:True:=trivial
     cases q with
     | zero =>
       rcases oa with _ | ⟨bo,oo,so⟩
       ·obtain ⟨hn1,hn2⟩:=hrow.nil rfl
        have hS0:S=[]:=by
         have e:=scs_length S
         rw [hn1] at e
         simp at e
         exact List.eq_nil_of_length_eq_zero (by omega)
        subst hS0 hn2
        clear hn1
        simp only [List.length_nil]
        go_wp2_with fail
        go_quiet (fail)
        have hBy:=belowN (n:=nq) hBx
        have HBy:=Lib.hid hBy
        clear hBx
        generalize wr.drewN nq=wy at *
        have hs1:RowAt (wy.alloc (Obj.cells #[] 72)) none 0 (scs []):=RowAt.nilAt _
        have hlit:=World.ownsRow_lit (base:=wy.heap.size) (e:=72) (size:=6) wy #[] 0 (Nat.le_refl _) (by decide) rfl
        have hMy:=(HBy.out.block M zM).trans HM.out
        have zMy:=(Array.getElem?_eq_some_iff.1 hMy).1
        have HMy:=Lib.hid hMy
        clear hMy m0 hrow
        go_wp2_with (first
         | (at_builtin;clear tok1;refine wpList_app elemH rfl _ _ rfl hlit rfl rfl hs1 (by rfl) (scs_one _) Z1s (by omega) (by simp) ?_;intro v3 w3 hr3 hg3 hb3 _ _;replace hr3:w3.ownsRow wy.heap.size 72 6 v3 0 (scs []):=Z91;obtain ⟨na,nc,rfl,_⟩:=owns_slice hr3;have hC3:=(one_alloc wy (Obj.cells #[] 72)).trans hb3;obtain ⟨q0,q1,q2,q3,q4,q5,qf,ql⟩:=cell6 ((hC3.block M zMy).trans HMy.out);have hsl:=World.alloc_heap_new w3 (Obj.cells #[.int .i64 x.id,.string x.wa,.int .i64 x.pit,.int .i64 x.ly,.int .i64 x.co,.bool x.ft] 72);have hal3:=one_alloc w3 (Obj.cells #[.int .i64 x.id,.string x.wa,.int .i64 x.pit,.int .i64 x.ly,.int .i64 x.co,.bool x.ft] 72);have hr4:=hr3.up hal3 (Nat.le_refl _);have hC4:=hC3.ch2 hal3;clear hlit hs1 hg3 hb3 hr3)
         | (at_builtin;clear tok2;refine wpList_app elemH rfl _ _ rfl hr4 rfl rfl (RowAt.of_heap hsl) (m:=1) (by rfl) (fun u hu=>scs_one [x.shd] u Z8r) Z1s (by omega) hC4.size ?_;intro v5 w5 hr5 hg5 hb5 _ _;obtain ⟨ma,mc,rfl,_⟩:=owns_slice hr5;have hC5:=hC4.trans hb5;have hs3:RowAt w5 none 0 (scs []):=RowAt.nilAt _;clear hr4 hsl hg5 hb5 hal3 hC3 q0 q1 q2 q3 q4 q5 qf ql)
         | (at_builtin;refine wpList_app elemH rfl _ _ rfl hr5 rfl rfl hs3 (by rfl) (scs_one _) Z1s (by omega) hC5.size ?_;intro v7 w7 hr7 hg7 hb7 _ _;have HR7:=Lib.hid (And.intro hr7 (hC5.trans hb7));clear hr5 hs3 hr7 hg7 hb7))
        go_roundw
        case rel=>exact ⟨k +1,by omega,by go_num,by rw [Hst.out,put_at HSs.out (k:=0) (by simp) HUp.out (.inl rfl)];exact SL.row_base (own_put (q:=0) (S:=[]) (x:=x.shd) (by simp) HR7.out.1) (Nat.le_trans HB7.out.size HBy.out.size),HB7.out.ch2 (HBy.out.ch2 HR7.out.2)⟩
        case measure=>simp [RowKit.intOf];omega
       obtain ⟨hso,ho2,_⟩:=hrow.at_ _ rfl
       simp only at hso
       subst hso
       have j3:(0:Int)≤(oc:Int):=by omega
       go_wp2_with fail
       go_quiet (fail)
       have hBy:=belowN (n:=nq) hBx
       have HBy:=Lib.hid hBy
       clear hBx
       generalize wr.drewN nq=wy at *
       have hs1:RowAt (wy.alloc (Obj.cells #[] 72)) (some ⟨bo,oo,none⟩) oc (scs (S.take (0))):=(row_fst (ws:=scs (S.drop (0))) Z8q).below (HBy.out.ch2 (one_alloc wy _))
       have hlit:=World.ownsRow_lit (base:=wy.heap.size) (e:=72) (size:=6) wy #[] 0 (Nat.le_refl _) (by decide) rfl
       have hMy:=(HBy.out.block M zM).trans HM.out
       have zMy:=(Array.getElem?_eq_some_iff.1 hMy).1
       have HMy:=Lib.hid hMy
       have HRw:=Lib.hid hrow
       clear hMy m0 hrow
       go_wp2_with (first
        | (at_builtin;clear tok1;refine wpList_app elemH rfl _ _ rfl hlit rfl rfl hs1 Z8y (scs_one _) Z1s (by omega) (by simp) ?_;intro v3 w3 hr3 hg3 hb3 _ _;replace hr3:w3.ownsRow wy.heap.size 72 6 v3 (0) (scs (S.take (0))):=Z91;obtain ⟨na,nc,rfl,_⟩:=owns_slice hr3;have hC3:=(one_alloc wy (Obj.cells #[] 72)).trans hb3;obtain ⟨q0,q1,q2,q3,q4,q5,qf,ql⟩:=cell6 ((hC3.block M zMy).trans HMy.out);have hsl:=World.alloc_heap_new w3 (Obj.cells #[.int .i64 x.id,.string x.wa,.int .i64 x.pit,.int .i64 x.ly,.int .i64 x.co,.bool x.ft] 72);have hal3:=one_alloc w3 (Obj.cells #[.int .i64 x.id,.string x.wa,.int .i64 x.pit,.int .i64 x.ly,.int .i64 x.co,.bool x.ft] 72);have hr4:=hr3.up hal3 (Nat.le_refl _);have hC4:=hC3.ch2 hal3;clear hlit hs1 hg3 hb3 hr3)
        | (at_builtin;clear tok2;refine wpList_app elemH rfl _ _ rfl hr4 rfl rfl (RowAt.of_heap hsl) (m:=1) (by rfl) (fun u hu=>scs_one [x.shd] u Z8r) Z1s (by omega) hC4.size ?_;intro v5 w5 hr5 hg5 hb5 _ _;obtain ⟨ma,mc,rfl,_⟩:=owns_slice hr5;have hC5:=hC4.trans hb5;have hs3:=(HRw.out.below (HBy.out.ch2 hC5));clear hr4 hsl hg5 hb5 hal3 hC3 q0 q1 q2 q3 q4 q5 qf ql)
        | (at_builtin;refine wpList_app elemH rfl _ _ rfl hr5 rfl rfl hs3 (scs_length S) (scs_one _) Z1s (by omega) hC5.size ?_;intro v7 w7 hr7 hg7 hb7 _ _;have HR7:=Lib.hid (And.intro hr7 (hC5.trans hb7));clear hr5 hs3 hr7 hg7 hb7))
       go_roundw
       case rel=>exact ⟨k +1,by omega,by go_num,by rw [Hst.out,put_at HSs.out (k:=0) (by omega) HUp.out (.inl rfl)];exact SL.row_base (own_put (q:=0) (x:=x.shd) (by omega) HR7.out.1) (Nat.le_trans HB7.out.size HBy.out.size),HB7.out.ch2 (HBy.out.ch2 HR7.out.2)⟩
       case measure=>simp [RowKit.intOf];omega
     | succ p =>
       obtain ⟨b2,o2,rfl,hz2,c0⟩:=shd_get (hrow.below hBx) (i:=p) (by omega)
       have hwr:IntKind.i64.wrap ((p:Int) +1 - 1)=p:=by rw [show (p:Int) +1 - 1=p by omega];exact IntWalk.i64_in _ (by omega)
       have j0:(0:Int)≤p:=by omega
       have j1:(p:Int)<(S.length:Int):=by omega
       have j2:decide ((0:Int)<(p:Int) +1)=true:=by simp <;> omega
       have j3:(p:Int) +1≤(oc:Int):=by omega
       have j4:(0:Int)≤(p:Int) +1:=by omega
       have j5:(p:Int) +1≤(S.length:Int):=by omega
       obtain ⟨yid,hy⟩:∃ y,(S.getD p default).id=y:=⟨_,rfl⟩
       rw [hy] at c0
       have Hy:=Lib.hid hy
       clear hy
       by_cases hg:x.id<yid
       ·have e2:decide (x.id<yid)=true:=by simpa using hg
        have HG:=Lib.hid hg
        clear hg
        go_wp2_with fail
        go_quiet (fail)
        go_wp2_with fail
        go_roundw
        case rel=>exact ⟨p,by omega,by go_num,fun j h1 h2=>by
         by_cases e:j=p
         ·subst e;rw [Hy.out];exact HG.out
         ·exact HUp.out j (by omega) h2,belowN hBx⟩
        case measure=>simp [RowKit.intOf]
       ·have e2:decide (x.id<yid)=false:=by simpa using hg
        have HG:=Lib.hid hg
        clear hg
        go_wp2_with fail
        go_quiet (fail)
        have hBy:=belowN (n:=nq) hBx
        have HBy:=Lib.hid hBy
        clear hBx
        generalize wr.drewN nq=wy at *
        have hs1:RowAt (wy.alloc (Obj.cells #[] 72)) (some ⟨b2,o2,none⟩) oc (scs (S.take (p +1))):=(row_fst (ws:=scs (S.drop (p +1))) Z8q).below (HBy.out.ch2 (one_alloc wy _))
        have hlit:=World.ownsRow_lit (base:=wy.heap.size) (e:=72) (size:=6) wy #[] 0 (Nat.le_refl _) (by decide) rfl
        have hMy:=(HBy.out.block M zM).trans HM.out
        have zMy:=(Array.getElem?_eq_some_iff.1 hMy).1
        have HMy:=Lib.hid hMy
        have HRw:=Lib.hid hrow
        clear hMy m0 hrow
        go_wp2_with (first
         | (at_builtin;clear tok1;refine wpList_app elemH rfl _ _ rfl hlit rfl rfl hs1 Z8y (scs_one _) Z1s (by omega) (by simp) ?_;intro v3 w3 hr3 hg3 hb3 _ _;replace hr3:w3.ownsRow wy.heap.size 72 6 v3 (p +1) (scs (S.take (p +1))):=Z91;obtain ⟨na,nc,rfl,_⟩:=owns_slice hr3;have hC3:=(one_alloc wy (Obj.cells #[] 72)).trans hb3;obtain ⟨q0,q1,q2,q3,q4,q5,qf,ql⟩:=cell6 ((hC3.block M zMy).trans HMy.out);have hsl:=World.alloc_heap_new w3 (Obj.cells #[.int .i64 x.id,.string x.wa,.int .i64 x.pit,.int .i64 x.ly,.int .i64 x.co,.bool x.ft] 72);have hal3:=one_alloc w3 (Obj.cells #[.int .i64 x.id,.string x.wa,.int .i64 x.pit,.int .i64 x.ly,.int .i64 x.co,.bool x.ft] 72);have hr4:=hr3.up hal3 (Nat.le_refl _);have hC4:=hC3.ch2 hal3;clear hlit hs1 hg3 hb3 hr3)
         | (at_builtin;clear tok2;refine wpList_app elemH rfl _ _ rfl hr4 rfl rfl (RowAt.of_heap hsl) (m:=1) (by rfl) (fun u hu=>scs_one [x.shd] u Z8r) Z1s (by omega) hC4.size ?_;intro v5 w5 hr5 hg5 hb5 _ _;obtain ⟨ma,mc,rfl,_⟩:=owns_slice hr5;have hC5:=hC4.trans hb5;have hs3:=row_from (q:=p +1) (HRw.out.below (HBy.out.ch2 hC5)) (by omega) hoc;clear hr4 hsl hg5 hb5 hal3 hC3 q0 q1 q2 q3 q4 q5 qf ql)
         | (at_builtin;refine wpList_app elemH rfl _ _ rfl hr5 rfl rfl hs3 (by rw [scs_length,List.length_drop]) (scs_one _) Z1s (by omega) hC5.size ?_;intro v7 w7 hr7 hg7 hb7 _ _;have HR7:=Lib.hid (And.intro hr7 (hC5.trans hb7));clear hr5 hs3 hr7 hg7 hb7))
        go_roundw
        case rel=>exact ⟨k +1,by omega,by go_num,by rw [Hst.out,put_at HSs.out (k:=p +1) (by omega) HUp.out (.inr (by rw [Nat.add_sub_cancel,Hy.out];first | exact HG.out | exact Int.not_lt.1 HG.out))];exact SL.row_base (own_put (q:=p +1) (x:=x.shd) (by omega) HR7.out.1) (Nat.le_trans HB7.out.size HBy.out.size),HB7.out.ch2 (HBy.out.ch2 HR7.out.2)⟩
        case measure=>simp [RowKit.intOf];omega
   ·have e1:(x.kd != 1)=true:=by simpa using hkd
    have Hst:=Lib.hid (Hst.out.trans (if_neg hkd))
    clear hkd
    go_wp2_with fail
    go_roundw
    case rel=>exact ⟨k +1,by omega,by go_num,by rw [Hst.out];exact hro,hB⟩
    case measure=>simp [RowKit.intOf];omega
  ·have htk:N.take k=N:=List.take_of_length_le (by omega)
   rw [htk] at hro ⊢
   clear htk
   go_wp2_with fail
   exact HP.out _ _ (H1.out.ch2 hB) (SL.row_base hro H1.out.size)
end Go.Proofs.YtelkcohhagblaaaGreat
