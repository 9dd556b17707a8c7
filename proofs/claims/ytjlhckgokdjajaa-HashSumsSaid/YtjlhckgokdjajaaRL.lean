/- The loops of the reference's Sum, taken out of its text by a function. -/
import Derived.Test.YtjlhckgokdjajaaRPlain
namespace Go.Proofs.Ytjlhckgokdjajaa
open Go.RowKit
/-- The loops of a text, the outer ones first. -/
def loopsOf : Code → List Code
  | .loop c => .loop c :: loopsOf c
  | .seq a b => loopsOf a ++ loopsOf b
  | .block _ c => loopsOf c
  | .scope c => loopsOf c
  | .cond _ a b => loopsOf a ++ loopsOf b
  | _ => []
noncomputable def sumLoop (n : Nat) : Code := (((Try.f25.body.map loopsOf).getD [])[n]?).getD .skip
end Go.Proofs.Ytjlhckgokdjajaa
