/- TopTellsMore, for arguments of bulk at most 1048576: whatever the query, the rows and the number, the call returns true and its arguments read as they did. No other condition. -/
import Derived.Test.YtbdbmpmijmmbeaaGreatDoorWkY
import Derived.Test.YtbdbmpmijmmbeaaGreatDoorTop2F
namespace Go.Proofs.YtbdbmpmijmmbeaaGreatDoor
open Go.ChangeShapes Go.WideShapes Go.ChangeAt Go.RowKit

theorem laid_met2 (os : Os) : laidMet Tryz.prog Rows.topTellsMoreUptoRow.laid ((laidWorld os).forCall (fun _ _ => 0) ⟨#[], wArgs, []⟩).memory :=
  laidMet_of_run' 8 (by kernel_rfl) (by kernel_rfl)
theorem reads2 (os : Os) {H : Type} (enc : TypeId × Value → H) : ∃ places, DataW.whole enc Tryz.prog ((laidWorld os).forCall (fun _ _ => 0) ⟨#[], wArgs, []⟩).memory Tryz.f4.params.toList Rows.topTellsMoreSpec.vars false wArgs.toList 8 = some (wData, [], places) :=
  ⟨[], by kernel_rfl⟩

set_option maxRecDepth 100000 in
theorem lifted2 (os : Os) (started : os.Started) (H : Type) (enc : TypeId × Value → H) (F : Stop.Interp) :
    ReturnsInHanded {} Tryz.checked os 4 .any ((Rows.OpenSpec.upto Rows.topTellsMoreSpec).preRow enc Tryz.prog Tryz.f4 Rows.topTellsMoreUptoRow.domain false Rows.topTellsMoreUptoRow.laid) (((Rows.OpenSpec.upto Rows.topTellsMoreSpec).at F).post enc Tryz.prog Tryz.f4 false true false false) := by
  obtain ⟨places, hx⟩ := reads2 os enc
  refine returnsInHanded_of_row (C := Tryz.checked) (s := Rows.OpenSpec.upto Rows.topTellsMoreSpec) own_knob started (by kernel_rfl) Tryz.func4
    (witness_row_at (enc := enc) (C := Tryz.checked) false (laidWorld os) wArgs rfl (by kernel_rfl) (by kernel_rfl) (by kernel_rfl)
      (OpenSpec.preRow_of_cond 8 hx (by kernel_rfl) (fun k hk => by cases hk; kernel_rfl) (by kernel_rfl) (laid_met2 os))) ?_
  intro W base args ds gs before hval hW _ hcond _ hL hsh _
  exact contract3 Tryz.params4 (by kernel_rfl) rfl (fun _ _ _ _ => rfl) (fun q rows pick s u t W m h1 h2 h3 h4 h5 => top2_walk h1 h2 h3 (fun _ hb => hb) h4 (by omega)) H enc W base args ds gs before hval hW (hcond _ rfl) hsh

set_option maxRecDepth 100000 in
theorem top2_said : Rows.TopTellsMoreUptoSaid :=
  OpenClaim.holds_of_cond 4 Tryz.f4 rfl rfl rfl rfl rfl rfl rfl ⟨rfl, rfl, rfl, rfl, rfl⟩ rfl rfl rfl rfl rfl (by kernel_rfl) Tryz.func4 closed2
    (of_decide_eq_true (by kernel_rfl)) (by unfold Func.isWrapper; first | (rw [if_pos (by decide +kernel)]; kernel_rfl) | (rw [if_neg (by decide +kernel)]; exact ⟨rfl, rfl⟩))
    (fun os started H enc _ F => by rw [OpenClaim.pre_eq_preRow]; exact lifted2 os started H enc F)

set_option maxRecDepth 100000 in
theorem plain2 (f : FuncId) (fn : Func) (hf : Tryz.pinned.checked.prog.funcNamed "harrier/harriertop.TopTellsMore" = some f) (hfn : Tryz.pinned.checked.prog.funcs[f]? = some fn) :
    true = Tryz.pinned.checked.prog.looks [] ∧ ∀ (j : Nat) t, fn.params[j]? = some t → Tryz.pinned.checked.prog.wantsStandIn t = false := by
  obtain rfl : f = 4 := Option.some.inj ((show Tryz.prog.funcNamed "harrier/harriertop.TopTellsMore" = some 4 by kernel_rfl).symm.trans hf) |>.symm
  obtain rfl : fn = Tryz.f4 := (Option.some.inj (Tryz.func4.symm.trans hfn)).symm
  refine ⟨looks_on, fun j t ht => ?_⟩
  rw [Tryz.params4] at ht
  rcases (by simpa using Array.mem_of_getElem? ht : t = 27 ∨ t = 28 ∨ t = 3) with rfl | rfl | rfl
  · exact (show Tryz.prog.wantsStandIn 27 = false by kernel_rfl)
  · exact (show Tryz.prog.wantsStandIn 28 = false by kernel_rfl)
  · exact (show Tryz.prog.wantsStandIn 3 = false by kernel_rfl)

theorem top2_holds : Rows.TopTellsMoreUptoCardSaid :=
  Claim7.holds_tied_plain_at .later [] _ _ _ _ top2_said (fun _ h => by cases h) (by kernel_rfl) (fun _ h => by cases h) topTellsMoreUpto_row_tie rfl ⟨rfl, rfl⟩ (by kernel_rfl) rfl plain2 goes2

#print axioms top2_holds
end Go.Proofs.YtbdbmpmijmmbeaaGreatDoor
