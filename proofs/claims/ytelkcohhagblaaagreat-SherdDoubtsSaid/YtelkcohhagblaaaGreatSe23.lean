/- What the functions answer, for every input. -/
import Derived.Test.YtelkcohhagblaaaGreatSe22
import Derived.Test.YtelkcohhagblaaaGreatSe18
import Derived.Test.YtelkcohhagblaaaGreatSe19
import Derived.Test.YtelkcohhagblaaaGreatSe20
import Derived.Test.YtelkcohhagblaaaGreatSe15
set_option linter.unusedSimpArgs false
set_option linter.unusedVariables false
set_option linter.unnecessarySimpa false
namespace Go.Proofs.YtelkcohhagblaaaGreat
open Go.RowKit Go.Shelf
set_option maxHeartbeats 4000000
set_option maxRecDepth 100000
theorem tup_eq {y z:Itm} {b c:Bool} (h1:y=z) (h2:b=c):Ending.returned (.tuple #[Itm.v y,.bool b])=.returned (.tuple #[Itm.v z,.bool c]):=by rw [h1,h2]
theorem form1 (w:World):FormAt w 1 143 #[]:=⟨enters_of Tryz.func143 Zk rfl,fun x hk ha _ w1 _=>(sformed2_any x w1 ha).mono fun e w' ⟨he,hw⟩=>by
 subst he
 have hk:x.kd=1:=hk
 refine ⟨tup_eq ?_ ?_,hw⟩
 ·unfold Itm.form;rw [if_pos hk];rfl
 ·unfold kindB;rw [if_pos hk]⟩
theorem form23 (w:World) (k:Nat) (hk2:k=2∨k=3) (B0 B1 B2:Nat) (co le mo:Int) (h0:w.cell? ⟨B0,0,none⟩=some (.int .i64 co)) (h1:w.cell? ⟨B1,0,none⟩=some (.int .i64 le)) (h2:w.cell? ⟨B2,0,none⟩=some (.int .i64 mo))
 (hc:k=2∧co=16∧le=1∧mo=10000∨k=3∧co=15∧le= -2880∧mo=2880):FormAt w k 141 #[.pointer (some ⟨B0,0,none⟩),.pointer (some ⟨B1,0,none⟩),.pointer (some ⟨B2,0,none⟩)] :=
 ⟨enters_of Tryz.func141 Zk rfl,fun x hk _ _ w1 hb=>by
  have z0:=World.block_lt_of_cell? w _ h0
  have z1:=World.block_lt_of_cell? w _ h1
  have z2:=World.block_lt_of_cell? w _ h2
  have hcc:=(bcell hb).1
  refine (sformed11_any x co le mo B0 B1 B2 w1 ((hcc _ 0 z0).trans h0) ((hcc _ 0 z1).trans h1) ((hcc _ 0 z2).trans h2)).mono fun e w' ⟨he,hw⟩=>?_
  subst he
  refine ⟨tup_eq ?_ ?_,hw⟩
  ·unfold Itm.form
   rw [if_neg (by omega),if_pos (by omega)]
   rfl
  ·unfold kindB
   rcases hc with ⟨rfl,rfl,rfl,rfl⟩ | ⟨rfl,rfl,rfl,rfl⟩
   ·rw [if_neg (by omega),if_pos (by omega)]
    unfold rngB
    simp only [Bool.and_assoc]
   ·rw [if_neg (by omega),if_neg (by omega),if_pos (by omega)]
    unfold rngB
    simp only [Bool.and_assoc]⟩
theorem form4 (w:World):FormAt w 4 145 #[]:=⟨enters_of Tryz.func145 Zk rfl,fun x hk _ _ w1 _=>(sformed3_any x w1).mono fun e w' ⟨he,hw⟩=>by
 subst he
 refine ⟨tup_eq ?_ ?_,hw⟩
 ·unfold Itm.form;rw [if_neg (by omega),if_neg (by omega),if_pos (by omega)];rfl
 ·unfold kindB;rw [if_neg (by omega),if_neg (by omega),if_neg (by omega),if_pos (by omega)]
  unfold rngB
  simp only [Bool.and_assoc]⟩
theorem form5 (w:World):FormAt w 5 146 #[]:=⟨enters_of Tryz.func146 Zk rfl,fun x hk _ hs w1 _=>(sformed4_any x w1 hs).mono fun e w' ⟨he,hw⟩=>by
 subst he
 refine ⟨tup_eq ?_ ?_,hw⟩
 ·unfold Itm.form;rw [if_neg (by omega),if_neg (by omega),if_neg (by omega),if_pos (by omega)];rfl
 ·unfold kindB;rw [if_neg (by omega),if_neg (by omega),if_neg (by omega),if_neg (by omega),if_pos (by omega)]⟩
theorem form6 (w:World):FormAt w 6 148 #[]:=⟨enters_of Tryz.func148 Zk rfl,fun x hk ha _ w1 _=>(sformed5_any x w1 ha).mono fun e w' ⟨he,hw⟩=>by
 subst he
 refine ⟨tup_eq ?_ ?_,hw⟩
 ·unfold Itm.form;rw [if_neg (by omega),if_neg (by omega),if_neg (by omega),if_neg (by omega),if_pos (by omega)];rfl
 ·unfold kindB;rw [if_neg (by omega),if_neg (by omega),if_neg (by omega),if_neg (by omega),if_neg (by omega),if_pos (by omega)]⟩
theorem form7 (w:World):FormAt w 7 149 #[]:=⟨enters_of Tryz.func149 Zk rfl,fun x hk _ _ w1 _=>(sformed6_any x w1).mono fun e w' ⟨he,hw⟩=>by
 subst he
 refine ⟨tup_eq ?_ ?_,hw⟩
 ·unfold Itm.form;rw [if_neg (by omega),if_neg (by omega),if_neg (by omega),if_neg (by omega),if_neg (by omega)];rfl
 ·unfold kindB;rw [if_neg (by omega),if_neg (by omega),if_neg (by omega),if_neg (by omega),if_neg (by omega),if_neg (by omega),if_pos (by omega)]⟩
theorem sformed (w:World):Calls Tryz.prog 76 #[] w (FormPost w):=by
 have HP:=Lib.hid (show ∀ w' N,Below w.heap.size w w'→w'.cell? ⟨N +1,0,none⟩=some (.int .i64 16)→w'.cell? ⟨N +1 +1,0,none⟩=some (.int .i64 1)→w'.cell? ⟨N +1 +1 +1,0,none⟩=some (.int .i64 10000) →
  w'.cell? ⟨N +1 +1 +1 +1,0,none⟩=some (.int .i64 15)→w'.cell? ⟨N +1 +1 +1 +1 +1,0,none⟩=some (.int .i64 (-2880))→w'.cell? ⟨N +1 +1 +1 +1 +1 +1,0,none⟩=some (.int .i64 2880) →
  FormPost w (.returned (.agg #[.nilFunc,.func (.func 143) #[] #[],.func (.func 141) #[] #[.pointer (some ⟨N +1,0,none⟩),.pointer (some ⟨N +1 +1,0,none⟩),.pointer (some ⟨N +1 +1 +1,0,none⟩)],
   .func (.func 141) #[] #[.pointer (some ⟨N +1 +1 +1 +1,0,none⟩),.pointer (some ⟨N +1 +1 +1 +1 +1,0,none⟩),.pointer (some ⟨N +1 +1 +1 +1 +1 +1,0,none⟩)],
   .func (.func 145) #[] #[],.func (.func 146) #[] #[],.func (.func 148) #[] #[],.func (.func 149) #[] #[]])) w' from
  fun w' N hb c1 c2 c3 c4 c5 c6=>⟨_,_,_,_,_,_,_,_,_,_,_,_,_,_,rfl,hb,form1 _,form23 _ 2 (.inl rfl) _ _ _ _ _ _ c1 c2 c3 (.inl ⟨rfl,rfl,rfl,rfl⟩),form23 _ 3 (.inr rfl) _ _ _ _ _ _ c4 c5 c6 (.inr ⟨rfl,rfl,rfl,rfl⟩),form4 _,form5 _,form6 _,form7 _⟩)
 generalize FormPost w=Post at *
 have hen:=enters_of Tryz.func140 Zk rfl
 have h1:=fun w1=>sformed1 16 1 10000 w1
 have h2:=fun w1=>sformed1 15 (-2880) 2880 w1
 go_enter Tryz.func76,Tryz.ntmps76
 go_wp2_with fail
 refine (h1 _).mono ?_
 rintro e w1 ⟨rfl,rfl⟩
 go_wp2_with fail
 refine (h2 _).mono ?_
 rintro e w2 ⟨rfl,rfl⟩
 go_wp2_with fail
 refine bodyPost_ret (v:=.agg #[.nilFunc,.func (.func 143) #[] #[],.func (.func 141) #[] #[.pointer (some ⟨w.heap.size +1,0,none⟩),.pointer (some ⟨w.heap.size +1 +1,0,none⟩),.pointer (some ⟨w.heap.size +1 +1 +1,0,none⟩)],
  .func (.func 141) #[] #[.pointer (some ⟨w.heap.size +1 +1 +1 +1,0,none⟩),.pointer (some ⟨w.heap.size +1 +1 +1 +1 +1,0,none⟩),.pointer (some ⟨w.heap.size +1 +1 +1 +1 +1 +1,0,none⟩)],
  .func (.func 145) #[] #[],.func (.func 146) #[] #[],.func (.func 148) #[] #[],.func (.func 149) #[] #[]]) (by simp [results,Tryz.results76,go_sem]) rfl ?_
 refine HP.out _ _ ?_ ?_ ?_ ?_ ?_ ?_ ?_
 ·((repeat (first | assumption | exact Below.refl _ _ | refine Below.alloc ?_ ?_ _ | refine Below.setCell ?_ ?_ _ | refine Below.drew ?_ | refine belowN ?_ | refine Below.up ?_ Z18 ?_)) <;> (first | assumption | omega | (simp;done) | (simp;omega)))
 all_goals simp [go_sem]
theorem sCheckItem_any (x:Itm) (w:World) (hx:x.Wide):Calls Tryz.prog 26 #[x.v] w (EPost w (itemE x)):=sCheckItem_of x w hx sformed
end Go.Proofs.YtelkcohhagblaaaGreat
