/- part -/
import Derived.Test.YtjoohkjmoghmoaaGreatDoorCards
import Derived.Deep.DeepHandedRow
import Derived.Stop.LaidErr
set_option linter.all false
namespace Go.Proofs.YtjoohkjmoghmoaaGreatDoor.blameBreach
open Go.ChangeShapes Go.WideShapes Go.ChangeAt Go.RowKit
theorem aaA{a b:Bool}(h1:a=true)(h2:b=true):(a&&b)=true:=by rw[h1,h2];rfl
set_option maxHeartbeats 8000000 in
theorem closed:joinedFacts Tryz.pinned.checked.prog 5 Tryz.f5 (OpenSpec.ofChange Rows.blameBreachSpec).bare Rows.blameBreachRow=true:=by
 unfold joinedFacts;repeat' (with_reducible refine aaA ?_ ?_)
 all_goals(as_aux_lemma=>kernel_rfl)
end Go.Proofs.YtjoohkjmoghmoaaGreatDoor.blameBreach
