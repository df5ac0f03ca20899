/- The order of bytes and of keys. -/
import Derived.Test.YtbdbmpmijmmbeaaGreatDoorWkM
import Derived.Shelf.SlSortCmp.WholeK
namespace Go.Proofs.YtbdbmpmijmmbeaaGreatDoor
open Go.RowKit Go.Sort

theorem bl_lt : ∀ (x y : List UInt8), Op.bytesLess x y = decide (x < y)
  | [], [] => by simp [Op.bytesLess]
  | _ :: _, [] => by simp [Op.bytesLess]
  | [], _ :: _ => by simp [Op.bytesLess]
  | a :: x, b :: y => by
    rw [Op.bytesLess, bl_lt x y]
    simp only [List.cons_lt_cons_iff]
    by_cases h1 : a < b <;> by_cases h2 : a = b <;> by_cases h3 : x < y <;> simp [h1, h2, h3]
theorem cb_lt : ∀ (x y : List UInt8), (Lib.compareBytes x y < 0 ↔ x < y) ∧ (Lib.compareBytes x y = 0 ↔ x = y)
  | [], [] => by simp [Lib.compareBytes]
  | _ :: _, [] => by simp [Lib.compareBytes]
  | [], _ :: _ => by simp [Lib.compareBytes]
  | a :: x, b :: y => by
    obtain ⟨h1, h2⟩ := cb_lt x y
    unfold Lib.compareBytes
    simp only [List.cons_lt_cons_iff, List.cons.injEq]
    rcases (show a < b ∨ a = b ∨ b < a from (Nat.lt_trichotomy a.toNat b.toNat).imp id (.imp UInt8.toNat_inj.1 id)) with h | h | h
    · have : a ≠ b := fun e => by subst e; exact UInt8.lt_irrefl _ h
      simp [h, this]
    · subst h; simp [UInt8.lt_irrefl, h1, h2]
    · have h5 : ¬ a < b := fun e => UInt8.lt_irrefl _ (UInt8.lt_trans e h)
      have h6 : a ≠ b := fun e => by subst e; exact UInt8.lt_irrefl _ h
      simp [h5, h, h6]
theorem ba_toList {a b : ByteArray} : a.data.toList = b.data.toList ↔ a = b := ⟨fun h => Go.WideShapes.bytes_inj h, fun h => by rw [h]⟩
theorem ci_lt (a b : Int) : (Lib.compareInt a b < 0 ↔ a < b) ∧ (Lib.compareInt a b = 0 ↔ a = b) := by
  unfold Lib.compareInt
  by_cases h : a < b
  · simp [h]; omega
  · by_cases h' : a > b
    · simp [h, h']; omega
    · simp [h, h']; omega

theorem gpCmp_lt (x y : Int × ByteArray) : gpCmp x y < 0 ↔ x.1 < y.1 ∨ (x.1 = y.1 ∧ x.2.data.toList < y.2.data.toList) := by
  obtain ⟨h1, h2⟩ := ci_lt x.1 y.1
  obtain ⟨h3, h4⟩ := cb_lt x.2.data.toList y.2.data.toList
  unfold gpCmp or2
  by_cases h : x.1 = y.1
  · have := h2.2 h; rw [this]; simp [h, h3]
  · have : Lib.compareInt x.1 y.1 ≠ 0 := fun e => h (h2.1 e)
    rw [if_pos this, h1]; simp [h]
theorem gpCmp_swo : SWO (ltOf gpCmp) where
  irrefl x := by
    have : ¬ gpCmp x x < 0 := by rw [gpCmp_lt]; rintro (h | ⟨_, h⟩); omega; exact List.lt_irrefl _ h
    simpa [ltOf] using this
  trans x y z h1 h2 := by
    simp only [ltOf, decide_eq_true_eq, gpCmp_lt] at *
    rcases h1 with h1 | ⟨h1, h1'⟩ <;> rcases h2 with h2 | ⟨h2, h2'⟩
    · left; omega
    · left; omega
    · left; omega
    · right; exact ⟨by omega, List.lt_trans h1' h2'⟩
  ntrans x y z h1 h2 := by
    simp only [ltOf, decide_eq_false_iff_not, gpCmp_lt, not_or, not_and] at *
    refine ⟨by omega, fun e => ?_⟩
    have e1 : x.1 = y.1 := by omega
    have e2 : y.1 = z.1 := by omega
    exact List.not_lt.2 (List.le_trans (List.not_lt.1 (h2.2 e2)) (List.not_lt.1 (h1.2 e1)))
theorem gpCmp_tri {x y : Int × ByteArray} (h1 : ¬ gpCmp x y < 0) (h2 : ¬ gpCmp y x < 0) : x = y := by
  rw [gpCmp_lt] at h1 h2
  have e : x.1 = y.1 := by omega
  have h3 : ¬ x.2.data.toList < y.2.data.toList := fun h => h1 (.inr ⟨e, h⟩)
  have h4 : ¬ y.2.data.toList < x.2.data.toList := fun h => h2 (.inr ⟨e.symm, h⟩)
  obtain ⟨a, s⟩ := x; obtain ⟨b, t⟩ := y
  dsimp only at e h3 h4; subst e
  have := ba_toList.1 (List.le_antisymm (List.not_lt.1 h4) (List.not_lt.1 h3))
  rw [this]
end Go.Proofs.YtbdbmpmijmmbeaaGreatDoor
