/- TopGroupsAsked: closed facts of its row. -/
import Derived.Test.YtbdbmpmijmmbeaaGreatDoorEnd
namespace Go.Proofs.YtbdbmpmijmmbeaaGreatDoor
open Go.ChangeShapes Go.WideShapes Go.ChangeAt Go.RowKit

theorem k1_10 : (Rows.topGroupsAskedUptoRow.inPlace == Tryz.prog.inPlace 3) = true := by kernel_rfl
theorem k1_11 : (Rows.topGroupsAskedUptoRow.unfollowed == Tryz.prog.unfollowed 3) = true := by kernel_rfl
theorem k1_12 : (Rows.topGroupsAskedUptoRow.recurses == Tryz.prog.recurses 3) = true := by kernel_rfl
theorem k1_13 : (Rows.topGroupsAskedUptoRow.named == Tryz.prog.varsNamed 3) = true := by kernel_rfl
set_option maxRecDepth 100000 in
set_option maxHeartbeats 8000000 in
theorem closed1 : joinedFacts Tryz.prog 3 Tryz.f3 Rows.topGroupsAskedSpec Rows.topGroupsAskedUptoRow = true := by
  unfold joinedFacts
  repeat' (first | with_reducible exact k1_10 | with_reducible exact k1_11 | with_reducible exact k1_12 | with_reducible exact k1_13 | with_reducible exact laid_out | with_reducible exact maps_rowed | with_reducible refine and_mk ?_ ?_)
  all_goals as_aux_lemma => kernel_rfl
theorem goes1 : false = Rows.topGroupsAskedUptoRow.goesBy Tryz.prog := by kernel_rfl
theorem looks_on : true = Tryz.prog.looks [] := by kernel_rfl
end Go.Proofs.YtbdbmpmijmmbeaaGreatDoor
