/- What the functions answer, for every input. -/
import Derived.Test.YtelkcohhagblaaaGreatSe11
import Derived.Test.YtelkcohhagblaaaGreatSe08
import Derived.Test.YtelkcohhagblaaaGreatSe10
import Derived.Test.YtelkcohhagblaaaGreatSe04
import Derived.Laws.EntriesVeiled
set_option linter.unusedSimpArgs false
set_option linter.unusedVariables false
set_option linter.unnecessarySimpa false
namespace Go.Proofs.YtelkcohhagblaaaGreat
open Go.RowKit Go.Shelf
set_option maxHeartbeats 4000000
set_option maxRecDepth 100000
theorem sformed1 (co le mo:Int) (w:World) :
 Calls Tryz.prog 140 #[.int .i64 co,.int .i64 le,.int .i64 mo] w fun e w'=>e=.returned (.func (.func 141) #[] #[.pointer (some ⟨w.heap.size,0,none⟩),.pointer (some ⟨w.heap.size +1,0,none⟩),.pointer (some ⟨w.heap.size +1 +1,0,none⟩)]) ∧
  w'=((w.alloc (.cells #[.int .i64 co] 3)).alloc (.cells #[.int .i64 le] 3)).alloc (.cells #[.int .i64 mo] 3):=by
 have hmk:=makeFuncS
 go_enter Tryz.func140,Tryz.ntmps140
 exact Z4m
/-- The closure for a kind lies in the table, and says what its kind wants. -/
structure FormAt (w:World) (k:Nat) (F:Nat) (caps:Array Value):Prop where
 ent:∀ args w,(callFunc F args).run Tryz.prog w=.ok (.enter F args) w
 says:∀ (x:Itm),x.kd=k→x.wa.size≤maxLen→x.st.size≤maxLen→∀ w1,Below w.heap.size w w1→Calls Tryz.prog F (#[x.v] ++caps) w1 fun e w'=>e=.returned (.tuple #[Itm.v { x.form with id:=0,kn:=0,kd:=0 },.bool (kindB x)])∧Below w1.heap.size w1 w'
def FormPost (w:World) (e:Ending) (w':World):Prop :=
 ∃ f1 f2 f3 f4 f5 f6 f7 c1 c2 c3 c4 c5 c6 c7,e=.returned (.agg #[.nilFunc,.func (.func f1) #[] c1,.func (.func f2) #[] c2,.func (.func f3) #[] c3,.func (.func f4) #[] c4,.func (.func f5) #[] c5,.func (.func f6) #[] c6,.func (.func f7) #[] c7])∧Below w.heap.size w w' ∧
   FormAt w' 1 f1 c1∧FormAt w' 2 f2 c2∧FormAt w' 3 f3 c3∧FormAt w' 4 f4 c4∧FormAt w' 5 f5 c5∧FormAt w' 6 f6 c6∧FormAt w' 7 f7 c7
end Go.Proofs.YtelkcohhagblaaaGreat
