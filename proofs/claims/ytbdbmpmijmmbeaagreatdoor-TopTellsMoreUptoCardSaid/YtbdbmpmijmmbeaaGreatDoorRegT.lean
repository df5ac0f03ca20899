/- A drawn region: two operations that may come up now. -/
import Derived.Test.YtbdbmpmijmmbeaaGreatDoorRegR
namespace Go.Proofs.YtbdbmpmijmmbeaaGreatDoor
open Go.RowKit

theorem twoR {P : Program} {ops : Array Oper} {Q : Exit → Act → World → Prop} {R : World → World → Prop} {z : Nat} (i j : Nat) {oi oj : Oper} {fuel : Nat} {listed : Array Bool} {a : Act} {w : World}
    (hi : ops[i]? = some oi) (hj : ops[j]? = some oj) (hr : Region.ready .any ops listed = [i, j]) (gi : oi.guard = none) (gj : oj.guard = none)
    (h1 : ∀ K' : Act → World → Prop, Shut (∀ a' w', (i = z ∨ R w w') → wpR P ops Q R z fuel (listed.setIfInBounds i true) a' w' → K' a' w') → Oper.wp P oi a w K' Q)
    (h2 : ∀ K' : Act → World → Prop, Shut (∀ a' w', (j = z ∨ R w w') → wpR P ops Q R z fuel (listed.setIfInBounds j true) a' w' → K' a' w') → Oper.wp P oj a w K' Q) :
    wpR P ops Q R z (fuel + 1) listed a w := by
  refine ⟨fun h0 => (by rw [hr] at h0; cases h0), fun k hk => ?_⟩
  rw [hr] at hk
  rcases List.mem_cons.1 hk with rfl | hk
  · exact wpOp_step hi fun K' hK => by
      rw [if_pos (by simp [Region.wanted, gi])]
      exact h1 K' fun a' w' e1 e2 => hK a' w' ⟨e1, e2⟩
  · obtain rfl : k = j := by simpa using hk
    exact wpOp_step hj fun K' hK => by
      rw [if_pos (by simp [Region.wanted, gj])]
      exact h2 K' fun a' w' e1 e2 => hK a' w' ⟨e1, e2⟩
end Go.Proofs.YtbdbmpmijmmbeaaGreatDoor
