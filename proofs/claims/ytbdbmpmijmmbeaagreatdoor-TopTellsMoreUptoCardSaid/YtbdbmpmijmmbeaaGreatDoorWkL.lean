/- What is told of rows. -/
import Derived.Test.YtbdbmpmijmmbeaaGreatDoorWkK
namespace Go.Proofs.YtbdbmpmijmmbeaaGreatDoor
open Go.RowKit

def sumL (ns : List Int) : Int := ns.foldl (· + ·) 0
def minL (ns : List Int) : Int := ns.foldl min (ns.headD 0)
def maxL (ns : List Int) : Int := ns.foldl max (ns.headD 0)
/-- What is told of rows. -/
def toldF (t : Int × Int) (l : List Rw) : Int × Int :=
  if t.1 = 1 then (l.length, 1)
  else if t.1 = 3 then (minL (l.map (numF t.2)), 1)
  else if t.1 = 4 then (maxL (l.map (numF t.2)), 1)
  else if t.1 = 5 then ratF (sumL (l.map (numF t.2))).toNat l.length
  else (sumL (l.map (numF t.2)), 1)

/-- A row that is right, as far as numbers go. -/
structure RowOk (r : Rw) : Prop where
  s0 : 0 ≤ r.start
  s1 : r.start ≤ 86399999999
  n0 : ∀ f : Nat, 1 ≤ f → f ≤ 7 → 0 ≤ numF f r ∧ numF f r ≤ 10000000000000
theorem rowOk_of {r : Rw} (h : chkRow r = 0) : RowOk r := by
  unfold chkRow at h
  cases h1 : isNameB r.name <;> simp [h1] at h
  cases h2 : inB r.sport 1 5 <;> simp [h2] at h
  cases h3 : inB r.start 0 86399999999 <;> simp [h3] at h
  cases h4 : numsB r <;> simp [h4] at h
  simp only [numsB, inB, Bool.and_eq_true, decide_eq_true_eq] at h3 h4
  refine ⟨h3.1, h3.2, fun f h5 h6 => ?_⟩
  rcases (by omega : f = 1 ∨ f = 2 ∨ f = 3 ∨ f = 4 ∨ f = 5 ∨ f = 6 ∨ f = 7) with rfl | rfl | rfl | rfl | rfl | rfl | rfl <;> simp [numF] <;> omega

theorem foldl_take {α β : Type} {f : β → α → β} {b : β} {l : List α} {j : Nat} {x : α} (h : l[j]? = some x) : (l.take (j + 1)).foldl f b = f ((l.take j).foldl f b) x := by
  rw [List.take_add_one, h, List.foldl_append]; rfl
theorem sum_bound {l : List Int} (h : ∀ x ∈ l, 0 ≤ x ∧ x ≤ 10000000000000) : 0 ≤ sumL l ∧ sumL l ≤ l.length * 10000000000000 := by
  suffices H : ∀ (l : List Int) (b : Int), (∀ x ∈ l, 0 ≤ x ∧ x ≤ 10000000000000) → b ≤ l.foldl (· + ·) b ∧ l.foldl (· + ·) b ≤ b + l.length * 10000000000000 by
    have := H l 0 h; unfold sumL; omega
  intro l
  induction l with
  | nil => intro b _; simp
  | cons y r ih =>
    intro b h
    have h1 := h y (by simp)
    have h2 := ih (b + y) (fun x hx => h x (by simp [hx]))
    simp only [List.foldl_cons, List.length_cons]
    rw [Int.natCast_add]
    omega

/-- The ending in a ratio. -/
def TwoPost (w : World) (x : Int × Int) (e : Ending) (w' : World) : Prop := e = .returned (.agg #[.int .i64 x.1, .int .i64 x.2]) ∧ Below w.heap.size w w'

theorem told_many (f : Int) (n c : Nat) (a : Option Addr) (w : World) :
    Calls Tryz.prog 76 #[.agg #[.int .i64 1, .int .i64 f], .slice a n c] w (TwoPost w (n, 1)) := by
  go_enter Tryz.func76, Tryz.ntmps76
  go_wp2_with fail
  refine bodyPost_ret (v := .agg #[.int .i64 n, .int .i64 1]) (by simp [results, Tryz.results76, go_sem]) rfl ⟨rfl, ?_⟩
  exact below_alloc (below_alloc (below_refl w) _) _

set_option maxRecDepth 100000 in
set_option maxHeartbeats 2000000 in
theorem told_num (k : Int) (f : Nat) (r0 : Rw) (l : List Rw) (b off cap : Nat) (w : World) (p : Nat → Prop) (hk : k = 2 ∨ k = 3 ∨ k = 4 ∨ k = 5) (hf : 1 ≤ f) (hf' : f ≤ 7) (hl0 : l[0]? = some r0) (hl : l.length ≤ 5000)
    (hok : ∀ r ∈ l, RowOk r) (hp : ∀ b, p b → b < w.heap.size) (hb : p b) (hR : ∀ i r, l[i]? = some r → ∃ s, EightAt w b (off + i * 8) r s) :
    Calls Tryz.prog 76 #[.agg #[.int .i64 k, .int .i64 f], .slice (some ⟨b, off, none⟩) l.length cap] w (TwoPost w (toldF (k, f) l)) := by
  have hbw := hp b hb
  have hln : 1 ≤ l.length := by have := (List.getElem?_eq_some_iff.1 hl0).1; omega
  have hr0 : r0 ∈ l := List.mem_of_getElem? hl0
  have hi0 : (0 : Int) ≤ f := by omega
  have hi8 : (f : Int) < 8 := by omega
  have he := numEnters f hf hf'
  unfold Enters at he
  have HK := Lib.hid hk
  obtain ⟨s0, h80⟩ := hR 0 r0 hl0
  rw [Nat.zero_mul, Nat.add_zero] at h80
  have hk1 : (k == 1) = false := by rw [beq_eq_false_iff_ne]; omega
  have HHR := Lib.hid hR
  have HOK := Lib.hid hok
  have HL0 := Lib.hid hl0
  clear hk hR hok hl0
  go_enter Tryz.func76, Tryz.ntmps76
  go_wp2_with fail
  refine wp_region_RS Bel 6 (fun W => Below w.heap.size w W ∧ W.heap[w.heap.size]? = some (.cells #[.int .i64 k, .int .i64 f] 48) ∧ W.heap[w.heap.size + 1]? = some (.cells #[.int .i64 0, .int .i64 0] 44)) (by kernel_rfl)
    ⟨(below_alloc (below_alloc (below_refl w) _) _).drew, blk_alloc (blk_new w _) _, by rw [← World.size_alloc w _]; exact blk_new _ _⟩ ?_
  rintro W1 ⟨hB, hT, hG⟩
  have k1 := blk_cell hT 1 rfl
  -- region 3 of function 76: 7 operations, sink 6
  refine takeR bel_chains 1 (by simp only [List.getElem?_toArray, List.getElem?_cons_succ, List.getElem?_cons_zero]; rfl) (by kernel_rfl) (by exact fun _ _ _ h => h) (by rfl) (v := ?_) ?_ ?_; rotate_left; (intro w2 hR; go_simp; first | done | rfl | rw [if_pos (by omega)]) -- Op.fieldAddr 48 (Operand.tmp 2) 1
  try simp only [Act.put, List.setIfInBounds_toArray, List.set_cons_zero, List.set_cons_succ]
  refine takeR bel_chains 2 (by simp only [List.getElem?_toArray, List.getElem?_cons_succ, List.getElem?_cons_zero]; rfl) (by kernel_rfl) (by exact fun _ _ _ h => h) (by rfl) (v := ?_) ?_ ?_; rotate_left; (intro w2 hR; have d0 := bel_cell k1 hR; go_simp; first | done | rfl | rw [if_pos (by omega)]) -- Op.load 3 (Operand.tmp 19)
  try simp only [Act.put, List.setIfInBounds_toArray, List.set_cons_zero, List.set_cons_succ]
  -- 0: ask.go:366 Op.call { callee := Callee.value (Operand.func 69), args := #[], argTypes := #[] } -> 18  guard none   READY [0]
  refine onlyR 0 (by simp only [List.getElem?_toArray, List.getElem?_cons_succ, List.getElem?_cons_zero]; rfl) (by kernel_rfl) rfl ?_
  intro K hK
  go_wp2_with fail
  refine (numbers_any _).mono ?_; rintro e W2 ⟨rfl, rfl⟩; have hb2 := below_alloc (below_refl W1) (.cells numCells 101)
  go_wp2_with fail
  refine hK.out _ _ (.inr hb2) ?_
  clear hK K
  try simp only [Act.put, List.setIfInBounds_toArray, List.set_cons_zero, List.set_cons_succ]
  have tc := blk_cell (blk_new W1 (.cells numCells 101)) (f * 2 + 1) (numCells_at f hf hf')
  refine takeR bel_chains 3 (by simp only [List.getElem?_toArray, List.getElem?_cons_succ, List.getElem?_cons_zero]; rfl) (by kernel_rfl) (by exact fun _ _ _ h => h) (by rfl) (v := ?_) ?_ ?_; rotate_left; (intro w2 hR; go_simp; first | done | rfl | rw [if_pos (by omega)]) -- Op.indexAddr 102 (Operand.tmp 18) (Operand.tmp 20)
  try simp only [Act.put, List.setIfInBounds_toArray, List.set_cons_zero, List.set_cons_succ]
  refine takeR bel_chains 4 (by simp only [List.getElem?_toArray, List.getElem?_cons_succ, List.getElem?_cons_zero]; rfl) (by kernel_rfl) (by exact fun _ _ _ h => h) (by rfl) (v := ?_) ?_ ?_; rotate_left; (intro w2 hR; go_simp; first | done | rfl | rw [if_pos (by omega)]) -- Op.fieldAddr 101 (Operand.tmp 21) 1
  try simp only [Act.put, List.setIfInBounds_toArray, List.set_cons_zero, List.set_cons_succ]
  refine takeR bel_chains 5 (by simp only [List.getElem?_toArray, List.getElem?_cons_succ, List.getElem?_cons_zero]; rfl) (by kernel_rfl) (by exact fun _ _ _ h => h) (by rfl) (v := ?_) ?_ ?_; rotate_left; (intro w2 hR; have d0 := bel_cell tc hR; go_simp; first | done | rfl | rw [if_pos (by omega)]) -- Op.load 99 (Operand.tmp 22)
  try simp only [Act.put, List.setIfInBounds_toArray, List.set_cons_zero, List.set_cons_succ]
  refine takeR bel_chains 6 (by simp only [List.getElem?_toArray, List.getElem?_cons_succ, List.getElem?_cons_zero]; rfl) (by kernel_rfl) (by exact fun _ _ _ h => h) (by rfl) (v := ?_) ?_ ?_; rotate_left; (intro w2 hR; go_simp; first | done | rfl | rw [if_pos (by omega)]) -- Op.assign (Operand.tmp 23)
  try simp only [Act.put, List.setIfInBounds_toArray, List.set_cons_zero, List.set_cons_succ]
  refine wpR_done (by kernel_rfl) ?_ _
  have hB2 := below_trans hB hb2
  have HT2 := Lib.hid (blk_keep hT hb2)
  have HG2 := Lib.hid (blk_keep hG hb2)
  clear hT hG tc k1
  generalize W1.alloc (.cells numCells 101) = W2 at hB2 HT2 HG2 ⊢
  clear hb2 hB
  go_wp2_with fail
  obtain ⟨c0, c1, c2, c3, c4, c5, c6, c7⟩ := h80.move (hB2.block b hbw)
  clear h80
  refine wp_region_RS Bel 12 (fun W => Bel W2 W) (by kernel_rfl) (below_refl W2).drew ?_
  intro W3 hB3
  replace c0 := bel_cell c0 hB3
  replace c1 := bel_cell c1 hB3
  replace c2 := bel_cell c2 hB3
  replace c3 := bel_cell c3 hB3
  replace c4 := bel_cell c4 hB3
  replace c5 := bel_cell c5 hB3
  replace c6 := bel_cell c6 hB3
  replace c7 := bel_cell c7 hB3
  have hl1 : (0 : Int) < l.length := by omega
  -- region 4 of function 76: 13 operations, sink 12
  refine takeR bel_chains 0 (by simp only [List.getElem?_toArray, List.getElem?_cons_succ, List.getElem?_cons_zero]; rfl) (by kernel_rfl) (by exact fun _ _ _ h => h) (by rfl) (v := ?_) ?_ ?_; rotate_left; (intro w2 hR; go_simp; first | done | rfl | rw [if_pos (by omega)]) -- Op.move (Operand.tmp 5)
  try simp only [Act.put, List.setIfInBounds_toArray, List.set_cons_zero, List.set_cons_succ]
  refine takeR bel_chains 1 (by simp only [List.getElem?_toArray, List.getElem?_cons_succ, List.getElem?_cons_zero]; rfl) (by kernel_rfl) (by exact fun _ _ _ h => h) (by rfl) (v := ?_) ?_ ?_; rotate_left; (intro w2 hR; go_simp; first | done | rfl | rw [if_pos (by omega)]) -- Op.move (Operand.tmp 1)
  try simp only [Act.put, List.setIfInBounds_toArray, List.set_cons_zero, List.set_cons_succ]
  refine takeR bel_chains 2 (by simp only [List.getElem?_toArray, List.getElem?_cons_succ, List.getElem?_cons_zero]; rfl) (by kernel_rfl) (by exact fun _ _ _ h => h) (by rfl) (v := ?_) ?_ ?_; rotate_left; (intro w2 hR; go_simp; first | done | rfl | rw [if_pos (by omega)]) -- Op.indexAddr 28 (Operand.tmp 25) (Operand.const (Value.int IntKind.i64 0))
  try simp only [Act.put, List.setIfInBounds_toArray, List.set_cons_zero, List.set_cons_succ]
  refine takeR bel_chains 3 (by simp only [List.getElem?_toArray, List.getElem?_cons_succ, List.getElem?_cons_zero]; rfl) (by kernel_rfl) (by exact fun _ _ _ h => h) (by rfl) (v := ?_) ?_ ?_; rotate_left; (intro w2 hR; have d0 := bel_cell c0 hR; have d1 := bel_cell c1 hR; have d2 := bel_cell c2 hR; have d3 := bel_cell c3 hR; have d4 := bel_cell c4 hR; have d5 := bel_cell c5 hR; have d6 := bel_cell c6 hR; have d7 := bel_cell c7 hR; go_simp; first | done | rfl | rw [if_pos (by omega)]) -- Op.load 84 (Operand.tmp 26)
  try simp only [Act.put, List.setIfInBounds_toArray, List.set_cons_zero, List.set_cons_succ]
  refine takeR bel_chains 5 (by simp only [List.getElem?_toArray, List.getElem?_cons_succ, List.getElem?_cons_zero]; rfl) (by kernel_rfl) (by exact fun _ _ _ h => h) (by rfl) (v := ?_) ?_ ?_; rotate_left; (intro w2 hR; go_simp; first | done | rfl | rw [if_pos (by omega)]) -- Op.move (Operand.tmp 5)
  try simp only [Act.put, List.setIfInBounds_toArray, List.set_cons_zero, List.set_cons_succ]
  refine takeR bel_chains 6 (by simp only [List.getElem?_toArray, List.getElem?_cons_succ, List.getElem?_cons_zero]; rfl) (by kernel_rfl) (by exact fun _ _ _ h => h) (by rfl) (v := ?_) ?_ ?_; rotate_left; (intro w2 hR; go_simp; first | done | rfl | rw [if_pos (by omega)]) -- Op.move (Operand.tmp 1)
  try simp only [Act.put, List.setIfInBounds_toArray, List.set_cons_zero, List.set_cons_succ]
  refine takeR bel_chains 7 (by simp only [List.getElem?_toArray, List.getElem?_cons_succ, List.getElem?_cons_zero]; rfl) (by kernel_rfl) (by exact fun _ _ _ h => h) (by rfl) (v := ?_) ?_ ?_; rotate_left; (intro w2 hR; go_simp; first | done | rfl | rw [if_pos (by omega)]) -- Op.indexAddr 28 (Operand.tmp 30) (Operand.const (Value.int IntKind.i64 0))
  try simp only [Act.put, List.setIfInBounds_toArray, List.set_cons_zero, List.set_cons_succ]
  refine takeR bel_chains 8 (by simp only [List.getElem?_toArray, List.getElem?_cons_succ, List.getElem?_cons_zero]; rfl) (by kernel_rfl) (by exact fun _ _ _ h => h) (by rfl) (v := ?_) ?_ ?_; rotate_left; (intro w2 hR; have d0 := bel_cell c0 hR; have d1 := bel_cell c1 hR; have d2 := bel_cell c2 hR; have d3 := bel_cell c3 hR; have d4 := bel_cell c4 hR; have d5 := bel_cell c5 hR; have d6 := bel_cell c6 hR; have d7 := bel_cell c7 hR; go_simp; first | done | rfl | rw [if_pos (by omega)]) -- Op.load 84 (Operand.tmp 31)
  try simp only [Act.put, List.setIfInBounds_toArray, List.set_cons_zero, List.set_cons_succ]
  -- 4: ask.go:367 Op.call { callee := Callee.value (Operand.tmp 24), args := #[Operand.tmp 27], argTypes := #[84] } -> 28  guard none   READY [4]
  refine onlyR 4 (by simp only [List.getElem?_toArray, List.getElem?_cons_succ, List.getElem?_cons_zero]; rfl) (by kernel_rfl) rfl ?_
  intro K hK
  go_wp2_with fail
  refine (num_any f r0 s0 _ hf hf' (HOK.out r0 hr0).s0 (HOK.out r0 hr0).s1).mono ?_; rintro e W4 ⟨rfl, hb2⟩
  go_wp2_with fail
  refine hK.out _ _ (.inr hb2) ?_
  clear hK K
  try simp only [Act.put, List.setIfInBounds_toArray, List.set_cons_zero, List.set_cons_succ]
  -- 9: ask.go:367 Op.call { callee := Callee.value (Operand.tmp 29), args := #[Operand.tmp 32], argTypes := #[84] } -> 33  guard none   READY [9]
  refine onlyR 9 (by simp only [List.getElem?_toArray, List.getElem?_cons_succ, List.getElem?_cons_zero]; rfl) (by kernel_rfl) rfl ?_
  intro K hK
  go_wp2_with fail
  refine (num_any f r0 s0 _ hf hf' (HOK.out r0 hr0).s0 (HOK.out r0 hr0).s1).mono ?_; rintro e W5 ⟨rfl, hb3⟩
  go_wp2_with fail
  refine hK.out _ _ (.inr hb3) ?_
  clear hK K
  try simp only [Act.put, List.setIfInBounds_toArray, List.set_cons_zero, List.set_cons_succ]
  refine takeR bel_chains 10 (by simp only [List.getElem?_toArray, List.getElem?_cons_succ, List.getElem?_cons_zero]; rfl) (by kernel_rfl) (by exact fun _ _ _ h => h) (by rfl) (v := ?_) ?_ ?_; rotate_left; (intro w2 hR; go_simp; first | done | rfl | rw [if_pos (by omega)]) -- Op.assign (Operand.const (Value.int IntKind.i64 0))
  try simp only [Act.put, List.setIfInBounds_toArray, List.set_cons_zero, List.set_cons_succ]
  refine takeR bel_chains 11 (by simp only [List.getElem?_toArray, List.getElem?_cons_succ, List.getElem?_cons_zero]; rfl) (by kernel_rfl) (by exact fun _ _ _ h => h) (by rfl) (v := ?_) ?_ ?_; rotate_left; (intro w2 hR; go_simp; first | done | rfl | rw [if_pos (by omega)]) -- Op.assign (Operand.tmp 28)
  try simp only [Act.put, List.setIfInBounds_toArray, List.set_cons_zero, List.set_cons_succ]
  refine takeR bel_chains 12 (by simp only [List.getElem?_toArray, List.getElem?_cons_succ, List.getElem?_cons_zero]; rfl) (by kernel_rfl) (by exact fun _ _ _ h => h) (by rfl) (v := ?_) ?_ ?_; rotate_left; (intro w2 hR; go_simp; first | done | rfl | rw [if_pos (by omega)]) -- Op.assign (Operand.tmp 33)
  try simp only [Act.put, List.setIfInBounds_toArray, List.set_cons_zero, List.set_cons_succ]
  refine wpR_done (by kernel_rfl) ?_ _
  have hB5 := below_trans (below_trans (below_trans hB2 hB3) hb2) hb3
  have HT5 := Lib.hid (blk_keep (blk_keep (blk_keep HT2.out hB3) hb2) hb3)
  have HG5 := Lib.hid (blk_keep (blk_keep (blk_keep HG2.out hB3) hb2) hb3)
  clear c0 c1 c2 c3 c4 c5 c6 c7 hb2 hb3 hB2 HT2 HG2 hB3
  obtain ⟨ns, hns⟩ : ∃ ns, ns = l.map (numF f) := ⟨_, rfl⟩
  have hnb : ∀ x ∈ ns, 0 ≤ x ∧ x ≤ 10000000000000 := by
    intro x hx; rw [hns, List.mem_map] at hx; obtain ⟨y, hy, rfl⟩ := hx; exact (HOK.out y hy).n0 f hf hf'
  have hnl : l.length = ns.length := by rw [hns]; simp
  have HD : Hid (ns.headD 0 = numF f r0) := by
    show _ = _; rw [hns]; have := HL0.out; cases l with | nil => simp at this | cons y r => simp at this; subst this; rfl
  have HN := Lib.hid hns
  have HNB := Lib.hid hnb
  have HNL := Lib.hid hnl
  clear hns hnb hnl
  go_wp2_with fail
  go_loopw [6, 7, 8, 10, 11, 36] (fun x y z _ _ i wr => ∃ j : Nat, j ≤ l.length ∧ i = .int .i64 j ∧ x = .int .i64 ((ns.take j).foldl (· + ·) 0) ∧ y = .int .i64 ((ns.take j).foldl min (numF f r0)) ∧
     z = .int .i64 ((ns.take j).foldl max (numF f r0)) ∧ Bel W5 wr) (fun _ _ _ _ _ i _ => l.length - (intOf i).toNat)
  case atStart => exact ⟨0, by omega, rfl, rfl, rfl, rfl, below_refl W5⟩
  case round =>
    obtain ⟨j, hj, rfl, rfl, rfl, rfl, hB6⟩ := hrel
    have hB7 := below_trans hB5 hB6
    have hsb := sum_bound (l := ns.take j) (fun x hx => HNB.out x (List.mem_of_mem_take hx))
    have hsl : (ns.take j).length = j := by have := HNL.out; simp; omega
    rw [hsl] at hsb
    unfold sumL at hsb
    by_cases hlt : j < l.length
    · obtain ⟨r, hx⟩ : ∃ r, l[j]? = some r := ⟨_, List.getElem?_eq_getElem hlt⟩
      obtain ⟨u, h8⟩ := HHR.out j r hx
      obtain ⟨c0, c1, c2, c3, c4, c5, c6, c7⟩ := h8.move (hB7.block b hbw)
      have hok := HOK.out r (List.mem_of_getElem? hx)
      have hrn := hok.n0 f hf hf'
      have hnx : ns[j]? = some (numF f r) := by rw [HN.out, List.getElem?_map, hx]; rfl
      have HF1 := Lib.hid (foldl_take (f := (· + ·)) (b := (0 : Int)) hnx)
      have HF2 := Lib.hid (foldl_take (f := min) (b := numF f r0) hnx)
      have HF3 := Lib.hid (foldl_take (f := max) (b := numF f r0) hnx)
      clear hx h8 hsl hnx
      go_wp2_with fail
      refine (num_any f r u _ hf hf' hok.s0 hok.s1).mono ?_
      rintro e W8 ⟨rfl, hb8⟩
      go_wp2_with fail
      go_roundw
      case rel => exact ⟨j + 1, by omega, by go_num, by rw [HF1.out], by rw [HF2.out], by rw [HF3.out], below_trans (below_alloc hB6 _) hb8⟩
      case measure => simp [intOf]; omega
    · obtain rfl : j = l.length := by omega
      have htk : ns.take l.length = ns := by rw [HNL.out, List.take_length]
      have HS : Hid (sumL ns = (ns.take l.length).foldl (· + ·) 0) := by show _ = _; rw [htk]; rfl
      have HM : Hid (minL ns = (ns.take l.length).foldl min (numF f r0)) := by show _ = _; rw [htk, ← HD.out]; rfl
      have HX : Hid (maxL ns = (ns.take l.length).foldl max (numF f r0)) := by show _ = _; rw [htk, ← HD.out]; rfl
      have hT := blk_keep HT5.out hB6
      have hG := blk_keep HG5.out hB6
      have k0 := blk_cell hT 0 rfl
      have g0 := blk_cell hG 0 rfl
      have g1 := blk_cell hG 1 rfl
      have f0 := blk_free hG 0
      have f1 := blk_free hG 1
      have HGG := Lib.hid hG
      clear hT hG htk hj hsl
      rcases HK.out with rfl | rfl | rfl | rfl
      · go_wp2_with fail
        refine bodyPost_ret (v := .agg #[.int .i64 (sumL ns), .int .i64 1]) (by rw [HS.out]; simp [results, Tryz.results76, go_sem, g0, g1]) rfl ⟨by rw [HN.out]; rfl, ?_⟩
        exact (hB7.setCell (by simp) _).setCell (by simp) _
      · go_wp2_with fail
        refine bodyPost_ret (v := .agg #[.int .i64 (minL ns), .int .i64 1]) (by rw [HM.out]; simp [results, Tryz.results76, go_sem, g0, g1]) rfl ⟨by rw [HN.out]; rfl, ?_⟩
        exact (hB7.setCell (by simp) _).setCell (by simp) _
      · go_wp2_with fail
        refine bodyPost_ret (v := .agg #[.int .i64 (maxL ns), .int .i64 1]) (by rw [HX.out]; simp [results, Tryz.results76, go_sem, g0, g1]) rfl ⟨by rw [HN.out]; rfl, ?_⟩
        exact (hB7.setCell (by simp) _).setCell (by simp) _
      · obtain ⟨sN, hsN⟩ := Int.eq_ofNat_of_zero_le hsb.1
        have HSN := Lib.hid hsN
        have hsb2 := hsb.2
        rw [hsN] at hsb2
        clear hsN hsb
        go_wp2_with fail
        rw [HSN.out]
        refine (ratioOf_any sN l.length _ (by omega) hln (by omega)).mono ?_
        rintro e W9 ⟨rfl, hb9⟩
        have hG9 := blk_keep HGG.out hb9
        have g2 := blk_cell hG9 0 rfl
        have g3 := blk_cell hG9 1 rfl
        have f2 := blk_free hG9 0
        have f3 := blk_free hG9 1
        clear hG9 g0 g1 f0 f1 k0
        go_wp2_with fail
        refine bodyPost_ret (v := .agg #[.int .i64 (ratF sN l.length).1, .int .i64 (ratF sN l.length).2]) (by simp [results, Tryz.results76, go_sem, g2, g3]) rfl ⟨?_, ?_⟩
        · have e1 : toldF (5, f) l = ratF (sumL ns).toNat l.length := by rw [HN.out]; rfl
          rw [e1, HS.out, HSN.out]; rfl
        · exact ((below_trans hB7 hb9).setCell (by simp) _).setCell (by simp) _

/-- What is told of rows that are right, as ask.told tells it. -/
theorem told_any (t : Int × Int) (l : List Rw) (s : Sl) (w : World) (p : Nat → Prop) (ht : tellB t = true) (h : RowsAt p w l s) (hp : ∀ b, p b → b < w.heap.size) (h0 : 0 < l.length) (hl : l.length ≤ 5000) (hok : ∀ r ∈ l, RowOk r) :
    Calls Tryz.prog 76 #[.agg #[.int .i64 t.1, .int .i64 t.2], .slice s.a s.n s.c] w (TwoPost w (toldF t l)) := by
  obtain ⟨k, f⟩ := t
  simp only [tellB, inB, Bool.and_eq_true, decide_eq_true_eq, Bool.or_eq_true, beq_iff_eq] at ht
  cases h with
  | nil => simp at h0
  | row xs b off cap hb hcap hmax hR =>
    by_cases hk : k = 1
    · subst hk
      exact told_many f l.length cap _ w
    · have hf := ht.2.resolve_left hk
      obtain ⟨n, rfl⟩ := Int.eq_ofNat_of_zero_le (show 0 ≤ f by omega)
      exact told_num k n l[0] l b off cap w p (by omega) (by omega) (by omega) (List.getElem?_eq_getElem h0) hl hok hp hb fun i r hr => let ⟨s, h8, _⟩ := hR i r hr; ⟨s, h8⟩
end Go.Proofs.YtbdbmpmijmmbeaaGreatDoor
