/- slices.Reverse of tells and of ratios; slices.Clone of tells. -/
import Derived.Test.YtbdbmpmijmmbeaaGreatDoorWkV
import Derived.RegionTactic
import Derived.Maps.AppendAt
namespace Go.Proofs.YtbdbmpmijmmbeaaGreatDoor
open Go.RowKit

theorem grown_refl (w : World) (r : Option Nat) : w.grownBy w r := ⟨rfl, rfl, rfl, Nat.le_refl _, fun _ _ _ => rfl⟩
theorem grown_trans {a b c : World} {r : Option Nat} (h : a.grownBy b r) (k : b.grownBy c r) : a.grownBy c r :=
  ⟨k.os.trans h.os, k.tape.trans h.tape, k.output.trans h.output, Nat.le_trans h.size k.size, fun i hi hr => (k.block i (Nat.lt_of_lt_of_le hi h.size) hr).trans (h.block i hi hr)⟩
theorem grown_set {a b : World} {r : Nat} (h : a.grownBy b (some r)) (o : Nat) (v : Value) : a.grownBy (b.setCell ⟨r, o, none⟩ v) (some r) :=
  ⟨h.os, h.tape, h.output, by simpa [World.setCell] using h.size, fun i hi hr => (setCell_other _ _ _ (by rintro rfl; exact hr rfl)).trans (h.block i hi hr)⟩
theorem grown_drew {a b : World} {r : Option Nat} (h : a.grownBy b r) : a.grownBy b.drew r := ⟨h.os, h.tape, h.output, h.size, h.block⟩
theorem off_ne {b o o' : Nat} (h : o ≠ o') : (⟨b, o, none⟩ : Addr) ≠ ⟨b, o', none⟩ := fun e => h (by injection e)

/-- Two places change what they hold. -/
def swapF {α : Type} (f : Nat → α) (k j t : Nat) : α := if t = k then f j else if t = j then f k else f t
theorem swap_cells {w : World} {b off k j n : Nat} {f : Nat → Int × Int} (hk : k < n) (hj : j < n) (hkj : k ≠ j)
    (hc : ∀ t, t < n → w.cell? ⟨b, off + t * 2, none⟩ = some (.int .i64 (f t).1) ∧ w.cell? ⟨b, off + t * 2 + 1, none⟩ = some (.int .i64 (f t).2)) :
    ∀ t, t < n → ((((w.setCell ⟨b, off + k * 2, none⟩ (.int .i64 (f j).1)).setCell ⟨b, off + k * 2 + 1, none⟩ (.int .i64 (f j).2)).setCell ⟨b, off + j * 2, none⟩ (.int .i64 (f k).1)).setCell ⟨b, off + j * 2 + 1, none⟩ (.int .i64 (f k).2)).drew.cell? ⟨b, off + t * 2, none⟩ = some (.int .i64 (swapF f k j t).1) ∧
      ((((w.setCell ⟨b, off + k * 2, none⟩ (.int .i64 (f j).1)).setCell ⟨b, off + k * 2 + 1, none⟩ (.int .i64 (f j).2)).setCell ⟨b, off + j * 2, none⟩ (.int .i64 (f k).1)).setCell ⟨b, off + j * 2 + 1, none⟩ (.int .i64 (f k).2)).drew.cell? ⟨b, off + t * 2 + 1, none⟩ = some (.int .i64 (swapF f k j t).2) := by
  intro t ht
  obtain ⟨k0, k1⟩ := hc k hk
  obtain ⟨j0, j1⟩ := hc j hj
  obtain ⟨t0, t1⟩ := hc t ht
  simp only [World.cell?_drew]
  unfold swapF
  by_cases e1 : t = k
  · subst e1
    rw [if_pos rfl]
    constructor
    · rw [World.cell?_setCell_other _ _ _ _ (off_ne (by omega)), World.cell?_setCell_other _ _ _ _ (off_ne (by omega)), World.cell?_setCell_other _ _ _ _ (off_ne (by omega)), World.cell?_setCell_same _ _ _ k0]
    · rw [World.cell?_setCell_other _ _ _ _ (off_ne (by omega)), World.cell?_setCell_other _ _ _ _ (off_ne (by omega)), World.cell?_setCell_same _ _ _ (u := .int .i64 (f t).2) (by rw [World.cell?_setCell_other _ _ _ _ (off_ne (by omega)), k1])]
  · rw [if_neg e1]
    by_cases e2 : t = j
    · subst e2
      rw [if_pos rfl]
      constructor
      · rw [World.cell?_setCell_other _ _ _ _ (off_ne (by omega)), World.cell?_setCell_same _ _ _ (u := .int .i64 (f t).1) (by rw [World.cell?_setCell_other _ _ _ _ (off_ne (by omega)), World.cell?_setCell_other _ _ _ _ (off_ne (by omega)), j0])]
      · rw [World.cell?_setCell_same _ _ _ (u := .int .i64 (f t).2) (by rw [World.cell?_setCell_other _ _ _ _ (off_ne (by omega)), World.cell?_setCell_other _ _ _ _ (off_ne (by omega)), World.cell?_setCell_other _ _ _ _ (off_ne (by omega)), j1])]
    · rw [if_neg e2]
      constructor
      · rw [World.cell?_setCell_other _ _ _ _ (off_ne (by omega)), World.cell?_setCell_other _ _ _ _ (off_ne (by omega)), World.cell?_setCell_other _ _ _ _ (off_ne (by omega)), World.cell?_setCell_other _ _ _ _ (off_ne (by omega)), t0]
      · rw [World.cell?_setCell_other _ _ _ _ (off_ne (by omega)), World.cell?_setCell_other _ _ _ _ (off_ne (by omega)), World.cell?_setCell_other _ _ _ _ (off_ne (by omega)), World.cell?_setCell_other _ _ _ _ (off_ne (by omega)), t1]

/-- What lies at place t of n when the first i and the last i have changed places. -/
def turnAt {α : Type} (n : Nat) (f : Nat → α) (i t : Nat) : α := if t < i ∨ n ≤ t + i then f (n - 1 - t) else f t
theorem turnAt_zero {α : Type} {n : Nat} {f : Nat → α} {t : Nat} (h : t < n) : turnAt n f 0 t = f t := by unfold turnAt; rw [if_neg (by omega)]
theorem turnAt_step {α : Type} {n : Nat} {f : Nat → α} {k t : Nat} (h : t < n) (hk : 2 * k + 1 < n) : swapF (turnAt n f k) k (n - 1 - k) t = turnAt n f (k + 1) t := by
  unfold swapF turnAt
  by_cases e1 : t = k
  · subst e1
    rw [if_pos rfl, if_neg (by omega), if_pos (by omega)]
  · rw [if_neg e1]
    by_cases e2 : t = n - 1 - k
    · subst e2
      rw [if_pos rfl, if_neg (by omega), if_pos (by omega)]
      congr 1; omega
    · rw [if_neg e2]
      by_cases e3 : t < k ∨ n ≤ t + k
      · rw [if_pos e3, if_pos (by omega)]
      · rw [if_neg e3, if_neg (by omega)]
theorem turnAt_end {α : Type} {n : Nat} {f : Nat → α} {k t : Nat} (h : t < n) (hk : n ≤ 2 * k + 1) : turnAt n f k t = f (n - 1 - t) := by
  unfold turnAt
  by_cases e3 : t < k ∨ n ≤ t + k
  · rw [if_pos e3]
  · rw [if_neg e3]; congr 1; omega

def RevPost (xs : List (Int × Int)) (b off : Nat) (w : World) (e : Ending) (w' : World) : Prop :=
  e = .returned (.tuple #[]) ∧ w.grownBy w' (some b) ∧ (∀ o, w'.frozen? ⟨b, o, none⟩ = false) ∧
    ∀ t x, xs.reverse[t]? = some x → w'.cell? ⟨b, off + t * 2, none⟩ = some (.int .i64 x.1) ∧ w'.cell? ⟨b, off + t * 2 + 1, none⟩ = some (.int .i64 x.2)

set_option maxHeartbeats 2000000 in
theorem reverse23_any (xs : List (Int × Int)) (b off cap : Nat) (w : World) (hl : xs.length ≤ maxLen) (hb : b < w.heap.size) (hf : ∀ o, w.frozen? ⟨b, o, none⟩ = false)
    (hc : ∀ t, t < xs.length → w.cell? ⟨b, off + t * 2, none⟩ = some (.int .i64 (xs.getD t (0, 0)).1) ∧ w.cell? ⟨b, off + t * 2 + 1, none⟩ = some (.int .i64 (xs.getD t (0, 0)).2)) :
    Calls Tryz.prog 23 #[.slice (some ⟨b, off, none⟩) xs.length cap] w (RevPost xs b off w) := by
  unfold maxLen at hl
  have HC := Lib.hid hc
  have HF := Lib.hid hf
  clear hc hf
  go_enter Tryz.func23, Tryz.ntmps23
  go_wp2_with fail
  go_loopw [2, 3] (fun i j W => ∃ k : Nat, 2 * k ≤ xs.length + 1 ∧ i = .int .i64 k ∧ j = .int .i64 ((xs.length : Int) - 1 - k) ∧ w.grownBy W (some b) ∧ (∀ o, W.frozen? ⟨b, o, none⟩ = false) ∧
      ∀ t, t < xs.length → W.cell? ⟨b, off + t * 2, none⟩ = some (.int .i64 (turnAt xs.length (fun t => xs.getD t (0, 0)) k t).1) ∧ W.cell? ⟨b, off + t * 2 + 1, none⟩ = some (.int .i64 (turnAt xs.length (fun t => xs.getD t (0, 0)) k t).2)) (fun i _ _ => xs.length - (intOf i).toNat)
  case atStart => exact ⟨0, by omega, rfl, by go_num, grown_refl _ _, HF.out, fun t ht => by rw [turnAt_zero ht]; exact HC.out t ht⟩
  case round =>
    obtain ⟨k, hk, rfl, rfl, hB, hfr, hcell⟩ := hrel
    by_cases hlt : 2 * k + 1 < xs.length
    · generalize hff : (fun t => xs.getD t (0, 0)) = ff at hcell
      obtain ⟨c0, c1⟩ := hcell k (by omega)
      obtain ⟨d0, d1⟩ := hcell (xs.length - 1 - k) (by omega)
      have hj : ((xs.length - 1 - k : Nat) : Int) = (xs.length : Int) - 1 - k := by omega
      have f0 := hfr (off + k * 2)
      have f1 := hfr (off + k * 2 + 1)
      have f2 := hfr (off + (xs.length - 1 - k) * 2)
      have f3 := hfr (off + (xs.length - 1 - k) * 2 + 1)
      have HC2 := Lib.hid hcell
      have HFR := Lib.hid hfr
      have HFF := Lib.hid hff
      clear hcell hfr hff
      go_wp2_with fail
      go_region
      go_wp2_with fail
      go_roundw
      case rel =>
        refine ⟨k + 1, by omega, by go_num, ?_, grown_drew (grown_set (grown_set (grown_set (grown_set hB _ _) _ _) _ _) _ _), fun o => ?_, fun t ht => ?_⟩
        · congr 1; omega
        · simp only [World.frozen?_drew, World.frozen?_setCell]; exact HFR.out o
        · have := swap_cells (k := k) (j := xs.length - 1 - k) (f := turnAt xs.length ff k) (by omega) (by omega) (by omega) HC2.out t ht
          rw [turnAt_step ht hlt] at this
          exact this
      case measure => simp [intOf]; omega
    · have hge : ¬ ((k : Int) < (xs.length : Int) - 1 - k) := by omega
      have HC3 := Lib.hid hcell
      have HFR := Lib.hid hfr
      clear hcell hfr
      go_wp2_with fail
      go_end0
      refine ⟨rfl, hB, HFR.out, fun t x hx => ?_⟩
      have ht : t < xs.length := by have := (List.getElem?_eq_some_iff.1 hx).1; simpa using this
      have := HC3.out t ht
      rw [turnAt_end ht (by omega)] at this
      have hxe : xs.getD (xs.length - 1 - t) (0, 0) = x := by
        rw [List.getElem?_reverse ht] at hx
        rw [List.getD_eq_getElem?_getD, hx]; rfl
      rw [← hxe]; exact this

set_option maxHeartbeats 2000000 in
theorem reverse24_any (xs : List (Int × Int)) (b off cap : Nat) (w : World) (hl : xs.length ≤ maxLen) (hb : b < w.heap.size) (hf : ∀ o, w.frozen? ⟨b, o, none⟩ = false)
    (hc : ∀ t, t < xs.length → w.cell? ⟨b, off + t * 2, none⟩ = some (.int .i64 (xs.getD t (0, 0)).1) ∧ w.cell? ⟨b, off + t * 2 + 1, none⟩ = some (.int .i64 (xs.getD t (0, 0)).2)) :
    Calls Tryz.prog 24 #[.slice (some ⟨b, off, none⟩) xs.length cap] w (RevPost xs b off w) := by
  unfold maxLen at hl
  have HC := Lib.hid hc
  have HF := Lib.hid hf
  clear hc hf
  go_enter Tryz.func24, Tryz.ntmps24
  go_wp2_with fail
  go_loopw [2, 3] (fun i j W => ∃ k : Nat, 2 * k ≤ xs.length + 1 ∧ i = .int .i64 k ∧ j = .int .i64 ((xs.length : Int) - 1 - k) ∧ w.grownBy W (some b) ∧ (∀ o, W.frozen? ⟨b, o, none⟩ = false) ∧
      ∀ t, t < xs.length → W.cell? ⟨b, off + t * 2, none⟩ = some (.int .i64 (turnAt xs.length (fun t => xs.getD t (0, 0)) k t).1) ∧ W.cell? ⟨b, off + t * 2 + 1, none⟩ = some (.int .i64 (turnAt xs.length (fun t => xs.getD t (0, 0)) k t).2)) (fun i _ _ => xs.length - (intOf i).toNat)
  case atStart => exact ⟨0, by omega, rfl, by go_num, grown_refl _ _, HF.out, fun t ht => by rw [turnAt_zero ht]; exact HC.out t ht⟩
  case round =>
    obtain ⟨k, hk, rfl, rfl, hB, hfr, hcell⟩ := hrel
    by_cases hlt : 2 * k + 1 < xs.length
    · generalize hff : (fun t => xs.getD t (0, 0)) = ff at hcell
      obtain ⟨c0, c1⟩ := hcell k (by omega)
      obtain ⟨d0, d1⟩ := hcell (xs.length - 1 - k) (by omega)
      have hj : ((xs.length - 1 - k : Nat) : Int) = (xs.length : Int) - 1 - k := by omega
      have f0 := hfr (off + k * 2)
      have f1 := hfr (off + k * 2 + 1)
      have f2 := hfr (off + (xs.length - 1 - k) * 2)
      have f3 := hfr (off + (xs.length - 1 - k) * 2 + 1)
      have HC2 := Lib.hid hcell
      have HFR := Lib.hid hfr
      have HFF := Lib.hid hff
      clear hcell hfr hff
      go_wp2_with fail
      go_region
      go_wp2_with fail
      go_roundw
      case rel =>
        refine ⟨k + 1, by omega, by go_num, ?_, grown_drew (grown_set (grown_set (grown_set (grown_set hB _ _) _ _) _ _) _ _), fun o => ?_, fun t ht => ?_⟩
        · congr 1; omega
        · simp only [World.frozen?_drew, World.frozen?_setCell]; exact HFR.out o
        · have := swap_cells (k := k) (j := xs.length - 1 - k) (f := turnAt xs.length ff k) (by omega) (by omega) (by omega) HC2.out t ht
          rw [turnAt_step ht hlt] at this
          exact this
      case measure => simp [intOf]; omega
    · have hge : ¬ ((k : Int) < (xs.length : Int) - 1 - k) := by omega
      have HC3 := Lib.hid hcell
      have HFR := Lib.hid hfr
      clear hcell hfr
      go_wp2_with fail
      go_end0
      refine ⟨rfl, hB, HFR.out, fun t x hx => ?_⟩
      have ht : t < xs.length := by have := (List.getElem?_eq_some_iff.1 hx).1; simpa using this
      have := HC3.out t ht
      rw [turnAt_end ht (by omega)] at this
      have hxe : xs.getD (xs.length - 1 - t) (0, 0) = x := by
        rw [List.getElem?_reverse ht] at hx
        rw [List.getD_eq_getElem?_getD, hx]; rfl
      rw [← hxe]; exact this

theorem Tryz.info48 : (Tryz.prog.info? 48).map (fun i => (i.zero, i.size, i.bytes)) = some (some (.agg #[.int .i64 0, .int .i64 0]), 2, 16) := by kernel_rfl
theorem flat_inv {α : Type} {k : Nat} {cells : α → List Value} (hk : ∀ x, (cells x).length = k) {xs : List α} : ∀ {j : Nat} {u : Value}, (xs.flatMap cells)[j]? = some u → ∃ i x t, xs[i]? = some x ∧ (cells x)[t]? = some u ∧ j = i * k + t := by
  induction xs with
  | nil => intro j u h; simp at h
  | cons y r ih =>
    intro j u h
    rw [List.flatMap_cons] at h
    by_cases hj : j < k
    · rw [List.getElem?_append_left (by rw [hk]; exact hj)] at h
      exact ⟨0, y, j, rfl, h, by omega⟩
    · rw [List.getElem?_append_right (by rw [hk]; omega), hk] at h
      obtain ⟨i, x, t, h1, h2, h3⟩ := ih h
      exact ⟨i + 1, x, t, by simpa using h1, h2, by rw [Nat.succ_mul]; omega⟩

def ClonePost (xs : List (Int × Int)) (w : World) (e : Ending) (w' : World) : Prop := ∃ v, e = .returned v ∧ Owns w' w.heap.size 48 2 twoCells v xs ∧ Below w.heap.size w w'

set_option maxRecDepth 100000 in
set_option maxHeartbeats 1000000 in
theorem clone22_any (xs : List (Int × Int)) (b off cap : Nat) (w : World) (h1 : 1 ≤ xs.length) (hl : xs.length ≤ 10) (hb : b < w.heap.size)
    (hc : ∀ t x, xs[t]? = some x → w.cell? ⟨b, off + t * 2, none⟩ = some (.int .i64 x.1) ∧ w.cell? ⟨b, off + t * 2 + 1, none⟩ = some (.int .i64 x.2)) :
    Calls Tryz.prog 22 #[.slice (some ⟨b, off, none⟩) xs.length cap] w (ClonePost xs w) := by
  have HC := Lib.hid hc
  clear hc
  have hnil := fun (W : World) => Lib.run_eql_slice_nil (P := Tryz.prog) W 25 48 (some ⟨b, off, none⟩) xs.length cap 0 0 Tryz.underlying25
  obtain ⟨i0, hi0, hz0, hz1, hz2⟩ := info_parts Tryz.info48
  have hown := World.ownsRow_made (e := 48) (size := 2) w #[] 0 (Nat.le_refl _) (Nat.zero_le _) rfl
  have hlen : (xs.flatMap twoCells).length = xs.length * 2 := flat_length (k := 2) (cells := twoCells) (fun _ => rfl) xs
  have hnews : ∀ j u, (xs.flatMap twoCells)[j]? = some u → (w.alloc (.cells #[] 48)).cell? ((⟨b, off, none⟩ : Addr).add j) = some u := fun j u hu => by
    obtain ⟨i, x, t, h2, h3, rfl⟩ := flat_inv (k := 2) (cells := twoCells) (fun _ => rfl) hu
    obtain ⟨d0, d1⟩ := HC.out i x h2
    have hadd : (⟨b, off, none⟩ : Addr).add (i * 2 + t) = ⟨b, off + i * 2 + t, none⟩ := by
      unfold Addr.add
      split
      · rename_i h; rw [show i * 2 = 0 by omega, show t = 0 by omega]; rfl
      · dsimp only; rw [Nat.add_assoc]
    rw [hadd, World.cell?_alloc_old _ _ _ (Nat.ne_of_lt hb)]
    rcases t with _ | _ | t
    · simp [twoCells] at h3; subst h3; exact d0
    · simp [twoCells] at h3; subst h3; exact d1
    · simp [twoCells] at h3
  have hone : ∀ u ∈ xs.flatMap twoCells, u.oneCell' = true := fun u hu => by
    obtain ⟨x, _, hx⟩ := List.mem_flatMap.1 hu
    simp [twoCells] at hx
    rcases hx with rfl | rfl <;> rfl
  have hmx : 0 + xs.length ≤ maxLen := by unfold maxLen; omega
  have hby : (0 + xs.length) * 16 ≤ 140737488355328 := by omega
  have hbs : w.heap.size ≤ (w.alloc (.cells #[] 48)).heap.size := by simp
  have HN := Lib.hid hnews
  have HO := Lib.hid hone
  have HL := Lib.hid hlen
  have HI := Lib.hid hi0
  have HZ := Lib.hid (And.intro hz0 (And.intro hz1 hz2))
  clear hnews hone hlen hi0 hz0 hz1 hz2
  go_enter Tryz.func22, Tryz.ntmps22
  go_wp2_with (at_builtin; refine wpList_append_own _ rfl _ _ 25 rfl w.heap.size 48 i0 (.agg #[.int .i64 0, .int .i64 0]) 2 16 Tryz.underlying25 HI.out HZ.out.1 HZ.out.2.1 HZ.out.2.2 rfl (by decide) (.slice (some ⟨w.heap.size, 0, none⟩) 0 0) 0 [] rfl hown ⟨b, off, none⟩ xs.length cap (xs.flatMap twoCells) rfl HL.out HN.out HO.out hmx hby hbs ?_; intro v' w1 hown' hgrow _)
  refine bodyPost_ret (v := v') (by simp [results, Tryz.results22, go_sem]) rfl ⟨v', rfl, ?_, ?_⟩
  · have h := hown'
    rw [Nat.zero_add, List.nil_append] at h
    exact h
  · exact (below_alloc (below_refl w) _).grown hgrow hbs fun k hk => by simp [Value.ownBlock] at hk; omega
end Go.Proofs.YtbdbmpmijmmbeaaGreatDoor
