/- part -/
import Derived.Test.YtfnnplicbjeifaaGreatDoorCards
import Derived.Deep.DeepHandedRow
import Derived.Stop.LaidErr
set_option linter.all false
namespace Go.Proofs.YtfnnplicbjeifaaGreatDoor.arbiterAdvice
open Go.ChangeShapes Go.WideShapes Go.ChangeAt Go.RowKit
theorem aeE{a b:Bool}(h1:a=true)(h2:b=true):(a&&b)=true:=by rw[h1,h2];rfl
set_option maxHeartbeats 8000000 in
theorem closed:joinedFacts Tryz.pinned.checked.prog 9 Tryz.f9 (OpenSpec.ofChange Rows.arbiterAdviceSpec).bare Rows.arbiterAdviceRow=true:=by
 unfold joinedFacts;repeat' (with_reducible refine aeE ?_ ?_)
 all_goals(as_aux_lemma=>kernel_rfl)
end Go.Proofs.YtfnnplicbjeifaaGreatDoor.arbiterAdvice
