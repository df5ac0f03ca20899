/- TopTellsMore: closed facts of its row. -/
import Derived.Test.YtbdbmpmijmmbeaaGreatDoorEnd
namespace Go.Proofs.YtbdbmpmijmmbeaaGreatDoor
open Go.ChangeShapes Go.WideShapes Go.ChangeAt Go.RowKit

theorem k2_10 : (Rows.topTellsMoreUptoRow.inPlace == Tryz.prog.inPlace 4) = true := by kernel_rfl
theorem k2_11 : (Rows.topTellsMoreUptoRow.unfollowed == Tryz.prog.unfollowed 4) = true := by kernel_rfl
theorem k2_12 : (Rows.topTellsMoreUptoRow.recurses == Tryz.prog.recurses 4) = true := by kernel_rfl
theorem k2_13 : (Rows.topTellsMoreUptoRow.named == Tryz.prog.varsNamed 4) = true := by kernel_rfl
set_option maxRecDepth 100000 in
set_option maxHeartbeats 8000000 in
theorem closed2 : joinedFacts Tryz.prog 4 Tryz.f4 Rows.topTellsMoreSpec Rows.topTellsMoreUptoRow = true := by
  unfold joinedFacts
  repeat' (first | with_reducible exact k2_10 | with_reducible exact k2_11 | with_reducible exact k2_12 | with_reducible exact k2_13 | with_reducible exact laid_out | with_reducible exact maps_rowed | with_reducible refine and_mk ?_ ?_)
  all_goals as_aux_lemma => kernel_rfl
theorem goes2 : false = Rows.topTellsMoreUptoRow.goesBy Tryz.prog := by kernel_rfl
theorem looks_on : true = Tryz.prog.looks [] := by kernel_rfl
end Go.Proofs.YtbdbmpmijmmbeaaGreatDoor
