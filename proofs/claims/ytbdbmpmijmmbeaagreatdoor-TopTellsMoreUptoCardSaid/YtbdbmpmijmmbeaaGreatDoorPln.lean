/- Plain facts on rows, keys and groups. -/
import Derived.Test.YtbdbmpmijmmbeaaGreatDoorGrp
import Derived.Test.YtbdbmpmijmmbeaaGreatDoorOrd
import Derived.Test.YtbdbmpmijmmbeaaGreatDoorWkF
namespace Go.Proofs.YtbdbmpmijmmbeaaGreatDoor
open Go.RowKit

theorem leB_false {a b : ByteArray} (h : leB a b = false) : b.data.toList < a.data.toList := by
  unfold leB at h
  rw [Bool.or_eq_false_iff, bl_lt, Lib.toList_data, Lib.toList_data] at h
  obtain ⟨h1, h2⟩ := h
  have h1 : ¬ a.data.toList < b.data.toList := by simpa using h1
  have h2 : a.data.toList ≠ b.data.toList := by simpa using h2
  rcases Classical.em (b.data.toList < a.data.toList) with h | h
  · exact h
  · exact absurd (List.le_antisymm (List.not_lt.1 h) (List.not_lt.1 h1)) h2
theorem tags_sorted : ∀ {l : List ByteArray} {prev : Option ByteArray}, chkTags prev l = 0 → l.Pairwise (fun a b => a.data.toList < b.data.toList) ∧ ∀ a, prev = some a → ∀ x ∈ l, a.data.toList < x.data.toList
  | [], _, _ => ⟨.nil, fun _ _ x hx => by cases hx⟩
  | t :: r, prev, h => by
    unfold chkTags at h
    cases h1 : isNameB t <;> simp [h1] at h
    cases h2 : prev.any (leB t)
    · rw [h2] at h
      simp only [Bool.false_eq_true, if_false] at h
      obtain ⟨h3, h4⟩ := tags_sorted h
      refine ⟨List.pairwise_cons.2 ⟨h4 t rfl, h3⟩, fun a ha x hx => ?_⟩
      subst ha
      have h5 : a.data.toList < t.data.toList := leB_false (by simpa using h2)
      rcases List.mem_cons.1 hx with rfl | hx
      · exact h5
      · exact List.lt_trans h5 (h4 t rfl x hx)
    · rw [h2] at h; simp at h
theorem row_tags {r : Rw} (h : chkRow r = 0) : r.tags.length ≤ 20 ∧ chkTags none r.tags = 0 := by
  unfold chkRow at h
  cases h1 : isNameB r.name <;> simp [h1] at h
  cases h2 : inB r.sport 1 5 <;> simp [h2] at h
  cases h3 : inB r.start 0 86399999999 <;> simp [h3] at h
  cases h4 : numsB r <;> simp [h4] at h
  by_cases h5 : 20 < r.tags.length
  · simp [h5] at h
  · simp only [h5, if_false] at h; exact ⟨by omega, h⟩
theorem row_name {r : Rw} (h : chkRow r = 0) : r.name.size ≤ 60 := by
  unfold chkRow at h
  cases h1 : isNameB r.name <;> simp [h1] at h
  simp only [isNameB, Bool.and_eq_true, decide_eq_true_eq] at h1
  omega
theorem tags_nodup {r : Rw} (h : chkRow r = 0) : r.tags.Nodup :=
  (tags_sorted (row_tags h).2).1.imp fun {a b} hab e => by subst e; exact List.lt_irrefl _ hab
theorem keysF_nodup {r : Rw} (g : Int) (h : chkRow r = 0) : (keysF g r).Nodup := by
  unfold keysF; split; · simp
  split; · simp
  split; · simp
  split; · simp
  exact (tags_nodup h).map _ fun a b hab e => hab (by simpa using e)
theorem keysF_length (g : Int) (r : Rw) (h : r.tags.length ≤ 20) : (keysF g r).length ≤ 20 := by
  unfold keysF; split; · simp
  split; · simp
  split; · simp
  split; · simp
  simpa using h

/-- The pairs of a key and a row. -/
def prs (g : Int) (c : Cd) (xs : List RS) : List (Ky × RS) := (xs.filter fun x => holdsF x.1 c).flatMap fun x => (keysF g x.1).map fun k => (k, x)
theorem prs_take {g : Int} {c : Cd} {xs : List RS} {j : Nat} {x : RS} (h : xs[j]? = some x) :
    prs g c (xs.take (j + 1)) = prs g c (xs.take j) ++ if holdsF x.1 c then (keysF g x.1).map fun k => (k, x) else [] := by
  unfold prs
  rw [List.take_add_one, h, List.filter_append, List.flatMap_append]
  cases hh : holdsF x.1 c <;> simp [hh]
theorem prs_length (g : Int) (c : Cd) (xs : List RS) (h : ∀ x ∈ xs, x.1.tags.length ≤ 20) : (prs g c xs).length ≤ xs.length * 20 := by
  induction xs with
  | nil => simp [prs]
  | cons x r ih =>
    have h1 := ih fun y hy => h y (by simp [hy])
    have h2 := keysF_length g x.1 (h x (by simp))
    unfold prs at h1 ⊢
    rw [List.filter_cons]
    split
    · rw [List.flatMap_cons, List.length_append, List.length_map, List.length_cons]; omega
    · rw [List.length_cons]; omega
theorem filter_one {l : List Ky} (h : l.Nodup) (k : Ky) (x : RS) : (((l.map fun k => (k, x)).filter fun p => decide (p.1 = k)).map (·.2)) = if k ∈ l then [x] else [] := by
  induction l with
  | nil => simp
  | cons a r ih =>
    obtain ⟨h1, h2⟩ := List.nodup_cons.1 h
    simp only [List.map_cons, List.filter_cons]
    by_cases e : a = k
    · subst e
      have := ih h2
      rw [if_neg h1] at this
      simp [this]
    · have := ih h2
      have hne : k ≠ a := fun e' => e e'.symm
      simp [e, this, hne]
theorem grp_prs {g : Int} {c : Cd} {xs : List RS} (h : ∀ x ∈ xs, (keysF g x.1).Nodup) (k : Ky) : grp (prs g c xs) k = xs.filter fun x => holdsF x.1 c && decide (k ∈ keysF g x.1) := by
  induction xs with
  | nil => simp [prs, grp]
  | cons x r ih =>
    have h1 := ih fun y hy => h y (by simp [hy])
    unfold prs grp at h1 ⊢
    rw [List.filter_cons, List.filter_cons]
    cases hh : holdsF x.1 c
    · simpa using h1
    · simp only [if_true, List.flatMap_cons, List.filter_append, List.map_append, filter_one (h x (by simp)), h1, Bool.true_and]
      by_cases e : k ∈ keysF g x.1 <;> simp [e]
theorem prs_mem {g : Int} {c : Cd} {xs : List RS} {k : Ky} {x : RS} (h : (k, x) ∈ prs g c xs) : x ∈ xs ∧ holdsF x.1 c = true ∧ k ∈ keysF g x.1 := by
  unfold prs at h
  obtain ⟨y, hy, hm⟩ := List.mem_flatMap.1 h
  obtain ⟨h1, h2⟩ := List.mem_filter.1 hy
  obtain ⟨k', hk', e⟩ := List.mem_map.1 hm
  simp only [Prod.mk.injEq] at e
  obtain ⟨rfl, rfl⟩ := e
  exact ⟨h1, h2, hk'⟩
end Go.Proofs.YtbdbmpmijmmbeaaGreatDoor
