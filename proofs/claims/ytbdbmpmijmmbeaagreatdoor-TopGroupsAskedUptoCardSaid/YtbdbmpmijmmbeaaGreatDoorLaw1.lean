/- The plain law: what is told of a group is told of all rows for which also its day, week, sport or tag is asked. -/
import Derived.Test.YtbdbmpmijmmbeaaGreatDoorWkS
namespace Go.Proofs.YtbdbmpmijmmbeaaGreatDoor
open Go.RowKit

theorem if_zero {c : Bool} {n a : Int} (hn : n ≠ 0) (h : (if c = true then n else a) = 0) : c = false ∧ a = 0 := by
  cases c
  · exact ⟨rfl, h⟩
  · exact absurd h hn
/-- One level deeper: as good, or too deep. -/
theorem chkTop_up {lv : Nat} {k f l h : Int} {t : ByteArray} {n : Nat} (hz : chkTop lv k f l h t n = 0) : chkTop (lv + 1) k f l h t n = 0 ∨ chkTop (lv + 1) k f l h t n = 3 := by
  unfold chkTop at hz ⊢
  obtain ⟨h1, hz⟩ := if_zero (by decide) hz
  obtain ⟨h2, hz⟩ := if_zero (by decide) hz
  obtain ⟨h3, hz⟩ := if_zero (by decide) hz
  obtain ⟨h4, hz⟩ := if_zero (by decide) hz
  obtain ⟨h5, hz⟩ := if_zero (by decide) hz
  obtain ⟨h6, hz⟩ := if_zero (by decide) hz
  obtain ⟨h7, hz⟩ := if_zero (by decide) hz
  obtain ⟨h8, hz⟩ := if_zero (by decide) hz
  obtain ⟨h9, hz⟩ := if_zero (by decide) hz
  obtain ⟨h10, hz⟩ := if_zero (by decide) hz
  obtain ⟨h11, hz⟩ := if_zero (by decide) hz
  rw [if_neg (by rw [h1]; decide)]
  rw [if_neg (by rw [h2]; decide)]
  rw [if_neg (by rw [h3]; decide)]
  rw [if_neg (by rw [h4]; decide)]
  rw [if_neg (by rw [h5]; decide)]
  rw [if_neg (by rw [h6]; decide)]
  rw [if_neg (by rw [h7]; decide)]
  rw [if_neg (by rw [h8]; decide)]
  rw [if_neg (by rw [h9]; decide)]
  rw [if_neg (by rw [h10]; decide)]
  rw [if_neg (by rw [h11]; decide)]
  by_cases h20 : 20 < lv + 1
  · rw [if_pos h20]; exact .inr rfl
  · rw [if_neg h20]; exact .inl rfl
mutual
theorem chkPart_up : ∀ (d : Cd) (lv : Nat), chkPart lv d = 0 → chkPart (lv + 1) d = 0 ∨ chkPart (lv + 1) d = 3
  | .mk k f l h t ks, lv, hz => by
    obtain ⟨h1, h2⟩ := chkPart_zero hz
    rw [chkPart]
    rcases chkTop_up h1 with e | e
    · rw [e, if_neg (by omega)]
      exact chkList_up ks (lv + 1) h2
    · rw [e, if_pos (by omega)]; exact .inr rfl
theorem chkList_up : ∀ (ks : List Cd) (lv : Nat), chkList lv ks = 0 → chkList (lv + 1) ks = 0 ∨ chkList (lv + 1) ks = 3
  | [], _, _ => .inl rfl
  | d :: r, lv, hz => by
    have h1 := chkList_mem hz d (by simp)
    have h2 : chkList lv r = 0 := by rw [chkList, if_neg (by omega)] at hz; exact hz
    rw [chkList]
    rcases chkPart_up d lv h1 with e | e
    · rw [e, if_neg (by omega)]; exact chkList_up r lv h2
    · rw [e, if_pos (by omega)]; exact .inr rfl
end

/-- What is asked besides, of a group with key k. -/
def moreC (g : Int) (k : Ky) : Cd :=
  if g = 1 then .mk 7 2 k.1 k.1 ⟨#[]⟩ [] else if g = 2 then .mk 7 2 k.1 (k.1 + 6) ⟨#[]⟩ [] else if g = 3 then .mk 4 0 k.1 0 ⟨#[]⟩ [] else if g = 4 then .mk 5 0 0 0 k.2 [] else .mk 1 0 0 0 ⟨#[]⟩ []
def askQ (q : Qy) (k : Ky) : Qy := ⟨.mk 1 0 0 0 ⟨#[]⟩ [q.whr, moreC q.group k], 0, q.tells⟩

theorem tags_names : ∀ {l : List ByteArray} {prev : Option ByteArray}, chkTags prev l = 0 → ∀ t ∈ l, isNameB t = true
  | [], _, _ => fun t h => (by cases h)
  | a :: r, prev, h => by
    unfold chkTags at h
    cases h1 : isNameB a <;> simp [h1] at h
    cases h2 : prev.any (leB a)
    · rw [h2] at h
      simp only [Bool.false_eq_true, if_false] at h
      intro t ht
      rcases List.mem_cons.1 ht with rfl | ht
      · exact h1
      · exact tags_names h t ht
    · rw [h2] at h; simp at h
theorem row_parts {r : Rw} (h : chkRow r = 0) : inB r.sport 1 5 = true ∧ inB r.start 0 86399999999 = true := by
  unfold chkRow at h
  cases h1 : isNameB r.name <;> simp [h1] at h
  cases h2 : inB r.sport 1 5 <;> simp [h2] at h
  cases h3 : inB r.start 0 86399999999 <;> simp [h3] at h
  exact ⟨rfl, rfl⟩

theorem more_ok {g : Int} {k : Ky} {r : Rw} (hr : chkRow r = 0) (hk : k ∈ keysF g r) : chkPart 1 (moreC g k) = 0 := by
  obtain ⟨h1, h2⟩ := row_parts hr
  simp only [inB, Bool.and_eq_true, decide_eq_true_eq] at h1 h2
  unfold keysF at hk
  unfold moreC
  by_cases g0 : g = 0
  · subst g0; rw [if_neg (by decide), if_neg (by decide), if_neg (by decide), if_neg (by decide)]; decide
  · rw [if_neg g0] at hk
    by_cases g1 : g = 1
    · rw [if_pos g1] at hk ⊢
      simp at hk; subst hk
      have e1 : decide ((-1000000000000000 : Int) ≤ r.start / 86400) = true := by rw [decide_eq_true_eq]; omega
      have e2 : decide (r.start / 86400 ≤ 1000000000000000) = true := by rw [decide_eq_true_eq]; omega
      simp [chkPart, chkList, chkTop, inB, emptyB, e1, e2]
    · rw [if_neg g1] at hk ⊢
      by_cases g2 : g = 2
      · rw [if_pos g2] at hk ⊢
        simp at hk; subst hk
        simp [chkPart, chkList, chkTop, inB, emptyB]
        omega
      · rw [if_neg g2] at hk ⊢
        by_cases g3 : g = 3
        · rw [if_pos g3] at hk ⊢
          simp at hk; subst hk
          simp [chkPart, chkList, chkTop, inB, emptyB]
          omega
        · rw [if_neg g3] at hk ⊢
          obtain ⟨t, ht, rfl⟩ := List.mem_map.1 hk
          by_cases g4 : g = 4
          · rw [if_pos g4]
            have := tags_names (row_tags hr).2 t ht
            simp [chkPart, chkList, chkTop, inB, emptyB, this]
          · rw [if_neg g4]; decide

theorem more_holds {g : Int} {k : Ky} {r r0 : Rw} (hg : inB g 0 4 = true) (h0 : chkRow r0 = 0) (hr : chkRow r = 0) (hk : k ∈ keysF g r0) : holdsF r (moreC g k) = decide (k ∈ keysF g r) := by
  obtain ⟨_, h2⟩ := row_parts hr
  obtain ⟨_, h3⟩ := row_parts h0
  simp only [inB, Bool.and_eq_true, decide_eq_true_eq] at h2 h3 hg
  unfold moreC
  rcases (by omega : g = 0 ∨ g = 1 ∨ g = 2 ∨ g = 3 ∨ g = 4) with rfl | rfl | rfl | rfl | rfl
  · simp [keysF] at hk; subst hk
    simp [holdsF, holdsL, keysF]
  · simp [keysF] at hk; subst hk
    simp [holdsF, keysF, inB, numF]
    rw [Bool.eq_iff_iff]; simp; omega
  · simp [keysF] at hk; subst hk
    simp [holdsF, keysF, inB, numF]
    rw [Bool.eq_iff_iff]; simp; omega
  · simp [keysF] at hk; subst hk
    simp [holdsF, keysF]
    rw [Bool.eq_iff_iff]; simp; exact ⟨fun h => h.symm, fun h => h.symm⟩
  · simp [keysF] at hk
    obtain ⟨t, ht, rfl⟩ := hk
    simp [holdsF, keysF]
    rw [Bool.eq_iff_iff]; simp

theorem ask_grp {q : Qy} {rows : List Rw} {k : Ky} {r0 : Rw} (hg : inB q.group 0 4 = true) (hr : ∀ r ∈ rows, chkRow r = 0) (h0 : r0 ∈ rows) (hk : k ∈ keysF q.group r0) :
    grpR (askQ q k) rows (0, ⟨#[]⟩) = grpR q rows k := by
  unfold grpR
  apply List.filter_congr
  intro r hm
  have := more_holds hg (hr r0 h0) (hr r hm) hk
  simp [askQ, holdsF, holdsL, keysF, this]

theorem dedup_one {l : List Ky} {k : Ky} (h : ∀ x ∈ l, x = k) (hne : l ≠ []) : dedup l = [k] := by
  have H : ∀ (l : List Ky), (∀ x ∈ l, x = k) → l.foldl addK [k] = [k] := by
    intro l
    induction l with
    | nil => intro _; rfl
    | cons a r ih =>
      intro h
      obtain rfl := h a (by simp)
      rw [List.foldl_cons]
      have : addK [a] a = [a] := by simp [addK]
      rw [this]
      exact ih fun x hx => h x (by simp [hx])
  cases l with
  | nil => exact absurd rfl hne
  | cons a r =>
    obtain rfl := h a (by simp)
    unfold dedup
    rw [List.foldl_cons]
    have : addK [] a = [a] := by simp [addK]
    rw [this]
    exact H r fun x hx => h x (by simp [hx])

theorem mem_dedup {l : List Ky} {k : Ky} : k ∈ dedup l ↔ k ∈ l := by
  have H : ∀ (l acc : List Ky), k ∈ l.foldl addK acc ↔ k ∈ acc ∨ k ∈ l := by
    intro l
    induction l with
    | nil => intro acc; simp
    | cons a r ih =>
      intro acc
      rw [List.foldl_cons, ih, mem_addK]
      simp only [List.mem_cons]
      constructor
      · rintro ((h | h) | h)
        · exact .inl h
        · exact .inr (.inl h)
        · exact .inr (.inr h)
      · rintro (h | h | h)
        · exact .inl (.inl h)
        · exact .inl (.inr h)
        · exact .inr h
  unfold dedup; rw [H]; simp
theorem mem_keysR {q : Qy} {rows : List Rw} {k : Ky} : k ∈ keysR q rows ↔ ∃ r ∈ rows, holdsF r q.whr = true ∧ k ∈ keysF q.group r := by
  unfold keysR heldR
  rw [mem_dedup, List.mem_flatMap]
  constructor
  · rintro ⟨r, hr, hk⟩
    obtain ⟨h1, h2⟩ := List.mem_filter.1 hr
    exact ⟨r, h1, h2, hk⟩
  · rintro ⟨r, h1, h2, hk⟩
    exact ⟨r, List.mem_filter.2 ⟨h1, h2⟩, hk⟩

/-- The law. -/
theorem law1 {q : Qy} {rows : List Rw} {k : Ky} (hz : chkAns q rows = 0) (hk : k ∈ keysR q rows) :
    chkAns (askQ q k) rows = 3 ∨ (chkAns (askQ q k) rows = 0 ∧ ansF (askQ q k) rows = [⟨0, ⟨#[]⟩, (gpR q rows k).told⟩]) := by
  obtain ⟨hq, hR⟩ := or2_zero hz
  obtain ⟨g1, g2, g3, g4, g5⟩ := chkQuery_zero hq
  obtain ⟨r1, r2, r3⟩ := chkRows_zero hR
  obtain ⟨c1, c2⟩ := chkCond_zero g1
  obtain ⟨r0, hr0, hh0, hk0⟩ := mem_keysR.1 hk
  have hmo := more_ok (r2 r0 hr0) hk0
  have hcc : chkCond (askQ q k).whr = 0 ∨ chkCond (askQ q k).whr = 3 := by
    unfold chkCond
    split
    · exact .inr rfl
    · show chkPart 0 (.mk 1 0 0 0 ⟨#[]⟩ [q.whr, moreC q.group k]) = 0 ∨ _
      have ht : chkTop 0 1 0 0 0 ⟨#[]⟩ 2 = 0 := by decide
      have hl : chkPart 0 (.mk 1 0 0 0 ⟨#[]⟩ [q.whr, moreC q.group k]) = chkList 1 [q.whr, moreC q.group k] := by
        rw [chkPart]; rw [show [q.whr, moreC q.group k].length = 2 from rfl, ht, if_neg (by omega)]
      rw [show (askQ q k).whr = .mk 1 0 0 0 ⟨#[]⟩ [q.whr, moreC q.group k] from rfl, hl]
      rcases chkPart_up q.whr 0 c2 with e | e
      · left; simp [chkList, e, hmo]
      · right; simp [chkList, e]
  have hca : chkQuery (askQ q k) = chkCond (askQ q k).whr := by
    unfold chkQuery
    rcases hcc with e | e
    · rw [e, if_neg (by decide), if_neg (by simp [askQ, inB]), if_neg (show ¬ (askQ q k).tells.length = 0 by show ¬ q.tells.length = 0; omega), if_neg (show ¬ 10 < (askQ q k).tells.length by show ¬ 10 < q.tells.length; omega)]; exact if_pos g5
    · rw [e]; simp
  rcases hcc with e | e
  · right
    have h0 : chkAns (askQ q k) rows = 0 := by unfold chkAns; rw [hca, e, hR]; rfl
    refine ⟨h0, ?_⟩
    unfold ansF
    rw [if_pos h0]
    have hkeys : keysR (askQ q k) rows = [(0, ⟨#[]⟩)] := by
      unfold keysR
      refine dedup_one (fun x hx => ?_) ?_
      · obtain ⟨r, _, hx⟩ := List.mem_flatMap.1 hx
        simpa [askQ, keysF] using hx
      · intro he
        have hm : r0 ∈ heldR (askQ q k) rows := by
          unfold heldR
          refine List.mem_filter.2 ⟨hr0, ?_⟩
          have := more_holds g2 (r2 r0 hr0) (r2 r0 hr0) hk0
          simp [askQ, holdsF, holdsL, hh0, this, hk0]
        have : (0, (⟨#[]⟩ : ByteArray)) ∈ (heldR (askQ q k) rows).flatMap (keysF (askQ q k).group) := List.mem_flatMap.2 ⟨r0, hm, by simp [askQ, keysF]⟩
        rw [he] at this; cases this
    unfold answerR
    rw [hkeys]
    have : ([(0, (⟨#[]⟩ : ByteArray))] : List Ky).mergeSort kyLe = [(0, ⟨#[]⟩)] := by simp
    rw [this]
    simp only [List.map_cons, List.map_nil]
    unfold gpR
    rw [ask_grp g2 r2 hr0 hk0]
    rfl
  · left
    unfold chkAns; rw [hca, e]; rfl
end Go.Proofs.YtbdbmpmijmmbeaaGreatDoor
