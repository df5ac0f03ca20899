/- A region that draws its order: operation by operation, where each one keeps what a relation R between worlds says. -/
import Derived.OrdersHeld
import Derived.RegionTactic
import Derived.Deep.RegionHeld
import Derived.Test.YtbdbmpmijmmbeaaGreatDoorMem
namespace Go.Proofs.YtbdbmpmijmmbeaaGreatDoor
open Go.RowKit

section
variable {P : Program} {ops : Array Oper} {Q : Exit → Act → World → Prop} {R : World → World → Prop}

/-- Whatever order is picked from here on; behind each operation but number z R holds between the world ahead of it and the one behind it. -/
def wpR (P : Program) (ops : Array Oper) (Q : Exit → Act → World → Prop) (R : World → World → Prop) (z : Nat) : Nat → Array Bool → Act → World → Prop
  | 0, listed, a, w => Region.ready .any ops listed = [] ∧ Q .normal a w
  | fuel + 1, listed, a, w =>
    (Region.ready .any ops listed = [] → Q .normal a w) ∧
    ∀ i ∈ Region.ready .any ops listed, wpOp P ops Q i (fun a' w' => (i = z ∨ R w w') ∧ wpR P ops Q R z fuel (listed.setIfInBounds i true) a' w') a w

/-- Number z waits for all others (or there is no such number). -/
def sinkZ (ops : Array Oper) (z : Nat) : Bool :=
  match ops[z]? with
  | none => true
  | some o => (List.range ops.size).all fun i => i == z || o.after.any fun e => Region.binds .any e && e.on == i

theorem wpAny_of_R {z : Nat} : ∀ (fuel : Nat) (listed : Array Bool) (a : Act) (w : World), wpR P ops Q R z fuel listed a w → wpAny P .any ops Q fuel listed a w
  | 0, _, _, _, h => h
  | fuel + 1, _, _, _, h => ⟨h.1, fun i hi => wpOp_mono (fun a' w' h' => wpAny_of_R fuel _ a' w' h'.2) (h.2 i hi)⟩

theorem not_sink {z i : Nat} {listed : Array Bool} (hz : sinkZ ops z = true) (hi : i ∈ Region.ready .any ops listed) (hzr : z ∈ Region.ready .any ops listed) : z = i := by
  obtain ⟨hzun, oz, hoz, hall⟩ := mem_ready.1 hzr
  obtain ⟨hiun, oi, hoi, _⟩ := mem_ready.1 hi
  unfold sinkZ at hz
  simp only [hoz, List.all_eq_true, List.mem_range] at hz
  have h := hz i (Array.getElem?_eq_some_iff.1 hoi).1
  rw [Bool.or_eq_true] at h
  rcases h with h | h
  · exact (beq_iff_eq.1 h).symm
  · obtain ⟨e, he, hb⟩ := Array.any_eq_true'.1 h
    rw [Bool.and_eq_true, beq_iff_eq] at hb
    have h1 := hall e he hb.1
    rw [hb.2] at h1
    rcases Nat.lt_or_ge i listed.size with h' | h'
    · simp [h'] at hiun h1; rw [hiun] at h1; cases h1
    · simp [Array.getElem?_eq_none h'] at h1

theorem wpR_first {z : Nat} (hz : sinkZ ops z = true) (hrefl : ∀ w, R w w) (htrans : ∀ a b c, R a b → R b c → R a c) {i : Nat} {oi : Oper} {v : Value} (hi : ops[i]? = some oi) (hsel : ∀ (j : Nat) (o : Oper) cs b, ops[j]? = some o → o.op ≠ .select cs b)
    (hQ : ∀ c a w, Q (.panic c) (a.put oi.dst v) w → Q (.panic c) a w) (w0 : World) :
    ∀ (fuel : Nat) (listed : Array Bool) (a : Act) (w : World),
      (∀ j oj, ops[j]? = some oj → j ≠ i → listed.getD j true = false → (∀ e ∈ oj.after, Region.binds .any e = true → e.on ≠ i) → oi.apart ops oj = true) →
      i ∈ Region.ready .any ops listed → YieldsIf P ops (R w0) oi v a → R w0 w →
      wpR P ops Q R z fuel (listed.setIfInBounds i true) (a.put oi.dst v) w → wpR P ops Q R z (fuel + 1) listed a w := by
  intro fuel
  induction fuel with
  | zero =>
    intro listed a w _ hr hy hS H
    refine ⟨fun h => (by rw [h] at hr; cases hr), fun j hj => ?_⟩
    by_cases hji : j = i
    · subst hji; exact hy.wpOp hi hS ⟨.inr (hrefl w), H⟩
    · have := ready_mono hj hji
      rw [H.1] at this
      cases this
  | succ fuel ih =>
    intro listed a w hfree hr hy hS H
    refine ⟨fun h => (by rw [h] at hr; cases hr), fun j hj => ?_⟩
    by_cases hji : j = i
    · subst hji; exact hy.wpOp hi hS ⟨.inr (hrefl w), H⟩
    · have h1 := H.2 j (ready_mono hj hji)
      have hjz : j ≠ z := fun e => hji (by subst e; exact not_sink hz hr hj)
      obtain ⟨hjun, oj, hoj, hall⟩ := mem_ready.1 hj
      have hnot : ∀ e ∈ oj.after, Region.binds .any e = true → e.on ≠ i := fun e he hb heq => by
        have h1 := hall e he hb
        have h0 := (mem_ready.1 hr).1
        rw [heq] at h1
        rcases Nat.lt_or_ge i listed.size with h' | h'
        · simp [h'] at h0 h1; rw [h0] at h1; cases h1
        · simp [Array.getElem?_eq_none h'] at h1
      have h2 := wpOp_putIf hoj (hfree j oj hoj hji hjun hnot) (fun cs b => hsel i oi cs b hi) (fun cs b => hsel j oj cs b hoj) hQ hy h1
      have hfree' : ∀ k ok, ops[k]? = some ok → k ≠ i → (listed.setIfInBounds j true).getD k true = false →
          (∀ e ∈ ok.after, Region.binds .any e = true → e.on ≠ i) → oi.apart ops ok = true := fun k ok hk hki hun hno => by
        refine hfree k ok hk hki ?_ hno
        by_cases hjk : j = k
        · subst hjk; exact hjun
        · rw [getD_set_ne true hjk] at hun; exact hun
      refine wpOp_mono (fun a' w' h3 => ?_) h2
      have hR : R w w' := h3.2.1.resolve_left hjz
      refine ⟨.inr hR, ih (listed.setIfInBounds j true) a' w' hfree' (ready_mono hr (Ne.symm hji)) h3.1 (htrans _ _ _ hS hR) ?_⟩
      rw [Array.setIfInBounds_comm _ _ hji]
      exact h3.2.2

/-- The relation keeps and chains. -/
structure Chains (R : World → World → Prop) : Prop where
  refl : ∀ w, R w w
  trans : ∀ a b c, R a b → R b c → R a c

theorem wpR_take {z : Nat} (hR : Chains R) {i : Nat} {oi : Oper} {v : Value} {fuel : Nat} {listed : Array Bool} {a : Act} {w : World} (hi : ops[i]? = some oi)
    (hz : sinkZ ops z = true) (hs : Region.noSelect ops = true) (hf : Region.free .any ops listed i = true) (hr : (Region.ready .any ops listed).contains i = true)
    (hQ : ∀ c a w, Q (.panic c) (a.put oi.dst v) w → Q (.panic c) a w) (hy : YieldsIf P ops (R w) oi v a)
    (h : wpR P ops Q R z fuel (listed.setIfInBounds i true) (a.put oi.dst v) w) : wpR P ops Q R z (fuel + 1) listed a w :=
  wpR_first hz hR.refl hR.trans hi (Region.noSelect_spec hs) hQ w fuel listed a w (Region.free_spec hi hf) (by simpa using hr) hy (hR.refl w) h

/-- The one operation that may come up now. -/
theorem wpR_only {z : Nat} {i : Nat} {o : Oper} {fuel : Nat} {listed : Array Bool} {a : Act} {w : World} (hi : ops[i]? = some o) (hr : Region.ready .any ops listed = [i])
    (h : ∀ K' : Act → World → Prop, Shut (∀ a' w', (i = z ∨ R w w') → wpR P ops Q R z fuel (listed.setIfInBounds i true) a' w' → K' a' w') →
      if Region.wanted o (yielded ops a.tmps) = true then Oper.wp P o a w K' Q else K' (a.put o.dst undef) w) : wpR P ops Q R z (fuel + 1) listed a w := by
  refine ⟨fun h0 => (by rw [hr] at h0; cases h0), fun j hj => ?_⟩
  rw [hr] at hj
  obtain rfl : j = i := by simpa using hj
  exact wpOp_step hi fun K' hK => h K' fun a' w' h1 h2 => hK a' w' ⟨h1, h2⟩

theorem onlyR {z : Nat} (i : Nat) {o : Oper} {fuel : Nat} {listed : Array Bool} {a : Act} {w : World} (hi : ops[i]? = some o) (hr : Region.ready .any ops listed = [i]) (hg : o.guard = none)
    (h : ∀ K' : Act → World → Prop, Shut (∀ a' w', (i = z ∨ R w w') → wpR P ops Q R z fuel (listed.setIfInBounds i true) a' w' → K' a' w') → Oper.wp P o a w K' Q) : wpR P ops Q R z (fuel + 1) listed a w :=
  wpR_only hi hr fun K' hK => by rw [if_pos (by simp [Region.wanted, hg])]; exact h K' hK

theorem wpR_done {z : Nat} {listed : Array Bool} {a : Act} {w : World} (hr : Region.ready .any ops listed = []) (h : Q .normal a w) : ∀ fuel, wpR P ops Q R z fuel listed a w
  | 0 => ⟨hr, h⟩
  | _ + 1 => ⟨fun _ => h, by rw [hr]; simp⟩

/-- Number i may be taken now. -/
def canTake (ops : Array Oper) (z : Nat) (listed : Array Bool) (i : Nat) : Bool :=
  sinkZ ops z && Region.noSelect ops && Region.free .any ops listed i && (Region.ready .any ops listed).contains i
theorem takeR {z : Nat} (hR : Chains R) (i : Nat) {oi : Oper} {v : Value} {fuel : Nat} {listed : Array Bool} {a : Act} {w : World} (hi : ops[i]? = some oi) (hc : canTake ops z listed i = true)
    (hQ : ∀ c a w, Q (.panic c) (a.put oi.dst v) w → Q (.panic c) a w) (hw : Region.wanted oi (yielded ops a.tmps) = true) (hy : ∀ w', R w w' → (execOp a.eval oi).run P w' = .ok (.value v) w')
    (h : wpR P ops Q R z fuel (listed.setIfInBounds i true) (a.put oi.dst v) w) : wpR P ops Q R z (fuel + 1) listed a w := by
  unfold canTake at hc
  simp only [Bool.and_eq_true] at hc
  exact wpR_take hR hi hc.1.1.1 hc.1.1.2 hc.1.2 hc.2 hQ (.inl ⟨hw, hy⟩) h

theorem wp_region_RS (R : World → World → Prop) (z : Nat) (S : World → Prop) {id : Nat} {a : Act} {w : World} (hm : P.follows .mixedOrders = true) (hS : S w.drew)
    (h : ∀ W, S W → wpR P ops Q R z ops.size (Array.replicate ops.size false) a W) : (Code.region id ops true).wp P Q a w :=
  wp_region_any hm (wpAny_of_R _ _ _ _ (h w.drew hS))
/-- The beginning; R is a relation of the prover's choice, z the number of the operation that waits for all others (or a greater number than any). -/
theorem wp_region_R (R : World → World → Prop) (z : Nat) {id : Nat} {a : Act} {w : World} (hm : P.follows .mixedOrders = true)
    (h : ∀ W, W = w.drew → wpR P ops Q R z ops.size (Array.replicate ops.size false) a W) : (Code.region id ops true).wp P Q a w :=
  wp_region_any hm (wpAny_of_R _ _ _ _ (h w.drew rfl))
end

/-- What lay below stays: the usual relation. -/
def Bel (w w' : World) : Prop := Below w.heap.size w w'
theorem bel_chains : Chains Bel := ⟨below_refl, fun _ _ _ h k => below_trans h k⟩
theorem bel_cell {w w' : World} {b o : Nat} {v : Value} (h : w.cell? ⟨b, o, none⟩ = some v) (hB : Bel w w') : w'.cell? ⟨b, o, none⟩ = some v :=
  (cell_same (hB.block b (World.block_lt_of_cell? w _ h)) o).trans h
end Go.Proofs.YtbdbmpmijmmbeaaGreatDoor
