/- TopGroupsAsked, for arguments of bulk at most 1048576: whatever the query, the rows and the number, the call returns true and its arguments read as they did. No other condition. -/
import Derived.Test.YtbdbmpmijmmbeaaGreatDoorWkT
import Derived.Test.YtbdbmpmijmmbeaaGreatDoorTop1F
namespace Go.Proofs.YtbdbmpmijmmbeaaGreatDoor
open Go.ChangeShapes Go.WideShapes Go.ChangeAt Go.RowKit

theorem laid_met1 (os : Os) : laidMet Tryz.prog Rows.topGroupsAskedUptoRow.laid ((laidWorld os).forCall (fun _ _ => 0) ⟨#[], wArgs, []⟩).memory :=
  laidMet_of_run' 8 (by kernel_rfl) (by kernel_rfl)
theorem reads1 (os : Os) {H : Type} (enc : TypeId × Value → H) : ∃ places, DataW.whole enc Tryz.prog ((laidWorld os).forCall (fun _ _ => 0) ⟨#[], wArgs, []⟩).memory Tryz.f3.params.toList Rows.topGroupsAskedSpec.vars false wArgs.toList 8 = some (wData, [], places) :=
  ⟨[], by kernel_rfl⟩

set_option maxRecDepth 100000 in
theorem lifted1 (os : Os) (started : os.Started) (H : Type) (enc : TypeId × Value → H) (F : Stop.Interp) :
    ReturnsInHanded {} Tryz.checked os 3 .any ((Rows.OpenSpec.upto Rows.topGroupsAskedSpec).preRow enc Tryz.prog Tryz.f3 Rows.topGroupsAskedUptoRow.domain false Rows.topGroupsAskedUptoRow.laid) (((Rows.OpenSpec.upto Rows.topGroupsAskedSpec).at F).post enc Tryz.prog Tryz.f3 false true false false) := by
  obtain ⟨places, hx⟩ := reads1 os enc
  refine returnsInHanded_of_row (C := Tryz.checked) (s := Rows.OpenSpec.upto Rows.topGroupsAskedSpec) own_knob started (by kernel_rfl) Tryz.func3
    (witness_row_at (enc := enc) (C := Tryz.checked) false (laidWorld os) wArgs rfl (by kernel_rfl) (by kernel_rfl) (by kernel_rfl)
      (OpenSpec.preRow_of_cond 8 hx (by kernel_rfl) (fun k hk => by cases hk; kernel_rfl) (by kernel_rfl) (laid_met1 os))) ?_
  intro W base args ds gs before hval hW _ hcond _ hL hsh _
  exact contract3 Tryz.params3 (by kernel_rfl) rfl (fun _ _ _ _ => rfl) (fun q rows pick s u t W m h1 h2 h3 h4 h5 => top1_walk h1 h2 h3 (fun _ hb => hb) h4 (by omega)) H enc W base args ds gs before hval hW (hcond _ rfl) hsh

set_option maxRecDepth 100000 in
theorem top1_said : Rows.TopGroupsAskedUptoSaid :=
  OpenClaim.holds_of_cond 3 Tryz.f3 rfl rfl rfl rfl rfl rfl rfl ⟨rfl, rfl, rfl, rfl, rfl⟩ rfl rfl rfl rfl rfl (by kernel_rfl) Tryz.func3 closed1
    (of_decide_eq_true (by kernel_rfl)) (by unfold Func.isWrapper; first | (rw [if_pos (by decide +kernel)]; kernel_rfl) | (rw [if_neg (by decide +kernel)]; exact ⟨rfl, rfl⟩))
    (fun os started H enc _ F => by rw [OpenClaim.pre_eq_preRow]; exact lifted1 os started H enc F)

set_option maxRecDepth 100000 in
theorem plain1 (f : FuncId) (fn : Func) (hf : Tryz.pinned.checked.prog.funcNamed "harrier/harriertop.TopGroupsAsked" = some f) (hfn : Tryz.pinned.checked.prog.funcs[f]? = some fn) :
    true = Tryz.pinned.checked.prog.looks [] ∧ ∀ (j : Nat) t, fn.params[j]? = some t → Tryz.pinned.checked.prog.wantsStandIn t = false := by
  obtain rfl : f = 3 := Option.some.inj ((show Tryz.prog.funcNamed "harrier/harriertop.TopGroupsAsked" = some 3 by kernel_rfl).symm.trans hf) |>.symm
  obtain rfl : fn = Tryz.f3 := (Option.some.inj (Tryz.func3.symm.trans hfn)).symm
  refine ⟨looks_on, fun j t ht => ?_⟩
  rw [Tryz.params3] at ht
  rcases (by simpa using Array.mem_of_getElem? ht : t = 27 ∨ t = 28 ∨ t = 3) with rfl | rfl | rfl
  · exact (show Tryz.prog.wantsStandIn 27 = false by kernel_rfl)
  · exact (show Tryz.prog.wantsStandIn 28 = false by kernel_rfl)
  · exact (show Tryz.prog.wantsStandIn 3 = false by kernel_rfl)

theorem top1_holds : Rows.TopGroupsAskedUptoCardSaid :=
  Claim7.holds_tied_plain_at .later [] _ _ _ _ top1_said (fun _ h => by cases h) (by kernel_rfl) (fun _ h => by cases h) topGroupsAskedUpto_row_tie rfl ⟨rfl, rfl⟩ (by kernel_rfl) rfl plain1 goes1

#print axioms top1_holds
end Go.Proofs.YtbdbmpmijmmbeaaGreatDoor
