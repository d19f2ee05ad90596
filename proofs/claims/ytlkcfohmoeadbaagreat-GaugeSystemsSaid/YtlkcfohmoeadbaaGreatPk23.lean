/-
  Lemmas and walks for the laws on bounds and their sums; the parts' own heads say what each proves, for every input.
-/
import Derived.Test.YtlkcfohmoeadbaaGreatPk12
import Derived.Test.YtlkcfohmoeadbaaGreatPk04
import Derived.Test.YtlkcfohmoeadbaaGreatPk22
set_option linter.unusedSimpArgs false
set_option linter.unusedVariables false
set_option linter.unnecessarySimpa false
/-
  The reference of layer 1, walked: tied.
-/
namespace Go.Proofs.YtlkcfohmoeadbaaGreat
open Go.RowKit Go.Shelf
set_option maxHeartbeats 4000000
set_option maxRecDepth 100000

def tiedL (bs : List Bd) (x y n : Int) : List Bd := bs ++ [⟨x, y, n, 0⟩, ⟨y, x, -n, 0⟩]

end Go.Proofs.YtlkcfohmoeadbaaGreat

/-
  The reference of layer 1, walked: asked, solved.
-/
namespace Go.Proofs.YtlkcfohmoeadbaaGreat
open Go.RowKit Go.Shelf
set_option maxHeartbeats 4000000
set_option maxRecDepth 100000

def rask (p : Int) (bs : List Bd) (x y : Int) : Int := if chk p bs = 0 then (if both p x y then 0 else 1) else chk p bs

theorem both_within (p x y : Int) : both p x y = (withinB x 0 (p - 1) && withinB y 0 (p - 1)) := by
  unfold both inP withinB
  rw [Bool.eq_iff_iff]
  simp

end Go.Proofs.YtlkcfohmoeadbaaGreat
