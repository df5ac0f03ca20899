/- The order of groups. -/
import Derived.Test.YtbdbmpmijmmbeaaGreatDoorWkL
import Derived.Test.YtbdbmpmijmmbeaaGreatDoorShelf
import Derived.Sort.Grow
namespace Go.Proofs.YtbdbmpmijmmbeaaGreatDoor
open Go.RowKit Go.Sort

/-- Or of two numbers. -/
theorem orI_any (a b : Int) (bl : Nat) (w : World) (h0 : w.cell? ⟨bl, 0, none⟩ = some (.int .i64 a)) (h1 : w.cell? ⟨bl, 1, none⟩ = some (.int .i64 b)) :
    Calls Tryz.prog 79 #[.slice (some ⟨bl, 0, none⟩) 2 2] w fun e w' => e = .returned (.int .i64 (or2 a b)) ∧ w = w' := by
  cases ha : (a != 0)
  · have ha2 := Lib.hid (bne_eq_false_iff_eq.1 ha)
    cases hb : (b != 0)
    · have hb2 := Lib.hid (bne_eq_false_iff_eq.1 hb)
      go_enter Tryz.func79, Tryz.ntmps79
      go_wp2
      refine wp_loop_rounds 3 ?_
      rw [rounds_succ]; go_wp2
      rw [rounds_succ]; go_wp2
      rw [rounds_succ]; go_wp2
      go_ret
      exact ⟨ret_int (by rw [or2, ha2.out, hb2.out]; rfl), rfl⟩
    · have hb2 := Lib.hid (bne_iff_ne.1 hb)
      go_enter Tryz.func79, Tryz.ntmps79
      go_wp2
      refine wp_loop_rounds 3 ?_
      rw [rounds_succ]; go_wp2
      rw [rounds_succ]; go_wp2
      go_ret
      exact ⟨ret_int (by rw [or2, ha2.out]; rfl), rfl⟩
  · have ha2 := Lib.hid (bne_iff_ne.1 ha)
    go_enter Tryz.func79, Tryz.ntmps79
    go_wp2
    refine wp_loop_rounds 3 ?_
    rw [rounds_succ]; go_wp2
    go_ret
    exact ⟨ret_int (by rw [or2, if_pos ha2.out]), rfl⟩

/-- Draws and new blocks. -/
def Grew (w w' : World) : Prop := ∃ q os, w' = grow (w.drewN q) os
theorem grew_refl (w : World) : Grew w w := ⟨0, #[], by simp [grow]; rfl⟩
theorem grew_drew {w w' : World} (h : Grew w w') : Grew w w'.drew := by
  obtain ⟨q, os, rfl⟩ := h; exact ⟨q + 1, os, rfl⟩
theorem grew_alloc {w w' : World} (h : Grew w w') (o : Obj) : Grew w (w'.alloc o) := by
  obtain ⟨q, os, rfl⟩ := h; exact ⟨q, os ++ #[o], by rw [alloc_eq_grow, grow_grow]⟩
theorem grew_trans {a b c : World} (h : Grew a b) (k : Grew b c) : Grew a c := by
  obtain ⟨q, os, rfl⟩ := h; obtain ⟨q', os', rfl⟩ := k
  exact ⟨q + q', os ++ os', by rw [← grow_grow]; simp only [grow, World.drewN]; congr 1; omega⟩
theorem grew_chains : Chains Grew := ⟨grew_refl, fun _ _ _ => grew_trans⟩
theorem grew_bel {w w' : World} (h : Grew w w') : Bel w w' := by
  obtain ⟨q, os, rfl⟩ := h
  refine ⟨rfl, rfl, rfl, by simp [grow, World.drewN], fun k hk => ?_⟩
  simp only [grow, World.drewN]
  exact Array.getElem?_append_left hk
theorem grew_cell {w w' : World} {b o : Nat} {v : Value} (h : w.cell? ⟨b, o, none⟩ = some v) (hB : Grew w w') : w'.cell? ⟨b, o, none⟩ = some v := bel_cell h (grew_bel hB)

/-- The order of two groups. -/
def gpCmp (x y : Int × ByteArray) : Int := or2 (Lib.compareInt x.1 y.1) (Lib.compareBytes x.2.data.toList y.2.data.toList)

set_option maxHeartbeats 1000000 in
theorem answer1_any (a b : Int) (s t : ByteArray) (u v : Sl) (w : World) :
    Calls Tryz.prog 78 #[.agg #[.int .i64 a, .string s, .slice u.a u.n u.c], .agg #[.int .i64 b, .string t, .slice v.a v.n v.c]] w fun e w' => e = .returned (.int .i64 (gpCmp (a, s) (b, t))) ∧ Grew w w' := by
  go_enter Tryz.func78, Tryz.ntmps78
  go_wp2_with fail
  refine wp_region_RS Grew 13 (fun W => Grew w W ∧ W.cell? ⟨w.heap.size, 0, none⟩ = some (.int .i64 a) ∧ W.cell? ⟨w.heap.size, 1, none⟩ = some (.string s) ∧ W.cell? ⟨w.heap.size + 1, 0, none⟩ = some (.int .i64 b) ∧ W.cell? ⟨w.heap.size + 1, 1, none⟩ = some (.string t)) (by kernel_rfl)
    ⟨grew_drew (grew_alloc (grew_alloc (grew_refl w) _) _), blk_cell (blk_alloc (blk_new w _) _) 0 rfl, blk_cell (blk_alloc (blk_new w _) _) 1 rfl, ?_, ?_⟩ ?_
  · rw [← World.size_alloc w _]; exact blk_cell (blk_new _ _) 0 rfl
  · rw [← World.size_alloc w _]; exact blk_cell (blk_new _ _) 1 rfl
  rintro W1 ⟨hG, k0, k1, k2, k3⟩
  -- region 1 of function 78: 13 operations, sink 12
  refine takeR grew_chains 0 (by simp only [List.getElem?_toArray, List.getElem?_cons_succ, List.getElem?_cons_zero]; rfl) (by kernel_rfl) (by exact fun _ _ _ h => h) (by rfl) (v := ?_) ?_ ?_; rotate_left; (intro w2 hR; go_simp; first | done | rfl | rw [if_pos (by omega)]) -- Op.fieldAddr 37 (Operand.tmp 2) 0
  try simp only [Act.put, List.setIfInBounds_toArray, List.set_cons_zero, List.set_cons_succ]
  refine takeR grew_chains 1 (by simp only [List.getElem?_toArray, List.getElem?_cons_succ, List.getElem?_cons_zero]; rfl) (by kernel_rfl) (by exact fun _ _ _ h => h) (by rfl) (v := ?_) ?_ ?_; rotate_left; (intro w2 hR; have d0 := grew_cell k0 hR; have d1 := grew_cell k1 hR; have d2 := grew_cell k2 hR; have d3 := grew_cell k3 hR; go_simp; first | done | rfl | rw [if_pos (by omega)]) -- Op.load 3 (Operand.tmp 5)
  try simp only [Act.put, List.setIfInBounds_toArray, List.set_cons_zero, List.set_cons_succ]
  refine takeR grew_chains 2 (by simp only [List.getElem?_toArray, List.getElem?_cons_succ, List.getElem?_cons_zero]; rfl) (by kernel_rfl) (by exact fun _ _ _ h => h) (by rfl) (v := ?_) ?_ ?_; rotate_left; (intro w2 hR; go_simp; first | done | rfl | rw [if_pos (by omega)]) -- Op.fieldAddr 37 (Operand.tmp 3) 0
  try simp only [Act.put, List.setIfInBounds_toArray, List.set_cons_zero, List.set_cons_succ]
  refine takeR grew_chains 3 (by simp only [List.getElem?_toArray, List.getElem?_cons_succ, List.getElem?_cons_zero]; rfl) (by kernel_rfl) (by exact fun _ _ _ h => h) (by rfl) (v := ?_) ?_ ?_; rotate_left; (intro w2 hR; have d0 := grew_cell k0 hR; have d1 := grew_cell k1 hR; have d2 := grew_cell k2 hR; have d3 := grew_cell k3 hR; go_simp; first | done | rfl | rw [if_pos (by omega)]) -- Op.load 3 (Operand.tmp 7)
  try simp only [Act.put, List.setIfInBounds_toArray, List.set_cons_zero, List.set_cons_succ]
  refine takeR grew_chains 5 (by simp only [List.getElem?_toArray, List.getElem?_cons_succ, List.getElem?_cons_zero]; rfl) (by kernel_rfl) (by exact fun _ _ _ h => h) (by rfl) (v := ?_) ?_ ?_; rotate_left; (intro w2 hR; go_simp; first | done | rfl | rw [if_pos (by omega)]) -- Op.fieldAddr 37 (Operand.tmp 2) 1
  try simp only [Act.put, List.setIfInBounds_toArray, List.set_cons_zero, List.set_cons_succ]
  refine takeR grew_chains 6 (by simp only [List.getElem?_toArray, List.getElem?_cons_succ, List.getElem?_cons_zero]; rfl) (by kernel_rfl) (by exact fun _ _ _ h => h) (by rfl) (v := ?_) ?_ ?_; rotate_left; (intro w2 hR; have d0 := grew_cell k0 hR; have d1 := grew_cell k1 hR; have d2 := grew_cell k2 hR; have d3 := grew_cell k3 hR; go_simp; first | done | rfl | rw [if_pos (by omega)]) -- Op.load 9 (Operand.tmp 10)
  try simp only [Act.put, List.setIfInBounds_toArray, List.set_cons_zero, List.set_cons_succ]
  refine takeR grew_chains 7 (by simp only [List.getElem?_toArray, List.getElem?_cons_succ, List.getElem?_cons_zero]; rfl) (by kernel_rfl) (by exact fun _ _ _ h => h) (by rfl) (v := ?_) ?_ ?_; rotate_left; (intro w2 hR; go_simp; first | done | rfl | rw [if_pos (by omega)]) -- Op.fieldAddr 37 (Operand.tmp 3) 1
  try simp only [Act.put, List.setIfInBounds_toArray, List.set_cons_zero, List.set_cons_succ]
  refine takeR grew_chains 8 (by simp only [List.getElem?_toArray, List.getElem?_cons_succ, List.getElem?_cons_zero]; rfl) (by kernel_rfl) (by exact fun _ _ _ h => h) (by rfl) (v := ?_) ?_ ?_; rotate_left; (intro w2 hR; have d0 := grew_cell k0 hR; have d1 := grew_cell k1 hR; have d2 := grew_cell k2 hR; have d3 := grew_cell k3 hR; go_simp; first | done | rfl | rw [if_pos (by omega)]) -- Op.load 9 (Operand.tmp 12)
  try simp only [Act.put, List.setIfInBounds_toArray, List.set_cons_zero, List.set_cons_succ]
  -- 4: ask.go:403 Op.call { callee := Callee.value (Operand.func 80), args := #[Operand.tmp 6, Operand.tmp 8], argTypes := #[3, 3] } -> 9  guard none   READY [4]
  refine onlyR 4 (by simp only [List.getElem?_toArray, List.getElem?_cons_succ, List.getElem?_cons_zero]; rfl) (by kernel_rfl) rfl ?_
  intro K hK
  go_wp2_with fail
  refine (Tryz.cmp_Compare_int _ _ _).mono ?_; rintro e W2 ⟨rfl, hw⟩; obtain rfl : W1 = W2 := hw.symm; have hb2 := grew_refl W1
  go_wp2_with fail
  refine hK.out _ _ (.inr hb2) ?_
  clear hK K
  try simp only [Act.put, List.setIfInBounds_toArray, List.set_cons_zero, List.set_cons_succ]
  -- 9: ask.go:403 Op.call { callee := Callee.value (Operand.func 81), args := #[Operand.tmp 11, Operand.tmp 13], argTypes := #[9, 9] } -> 14  guard none   READY [9]
  refine onlyR 9 (by simp only [List.getElem?_toArray, List.getElem?_cons_succ, List.getElem?_cons_zero]; rfl) (by kernel_rfl) rfl ?_
  intro K hK
  go_wp2_with fail
  refine (Tryz.strings_Compare _ _ _).mono ?_; rintro e W3 ⟨rfl, hw⟩; obtain rfl : W1 = W3 := hw.symm; have hb3 := grew_refl W1
  go_wp2_with fail
  refine hK.out _ _ (.inr hb3) ?_
  clear hK K
  try simp only [Act.put, List.setIfInBounds_toArray, List.set_cons_zero, List.set_cons_succ]
  -- 10: ask.go:403 Op.buildSlice 137 2 #[(0, Operand.tmp 9), (1, Operand.tmp 14)] -> 15  guard none   READY [10]
  refine onlyR 10 (by simp only [List.getElem?_toArray, List.getElem?_cons_succ, List.getElem?_cons_zero]; rfl) (by kernel_rfl) rfl ?_
  intro K hK
  go_wp2_with fail
  refine hK.out _ _ (.inr (grew_alloc (grew_refl W1) _)) ?_
  clear hK K
  have q0 := blk_cell (blk_new W1 (.cells #[.int .i64 (Lib.compareInt a b), .int .i64 (Lib.compareBytes s.data.toList t.data.toList)] 3)) 0 rfl
  have q1 := blk_cell (blk_new W1 (.cells #[.int .i64 (Lib.compareInt a b), .int .i64 (Lib.compareBytes s.data.toList t.data.toList)] 3)) 1 rfl
  try simp only [Act.put, List.setIfInBounds_toArray, List.set_cons_zero, List.set_cons_succ]
  -- 11: ask.go:403 Op.call { callee := Callee.value (Operand.func 79), args := #[Operand.tmp 15], argTypes := #[137] } -> 16  guard none   READY [11]
  refine onlyR 11 (by simp only [List.getElem?_toArray, List.getElem?_cons_succ, List.getElem?_cons_zero]; rfl) (by kernel_rfl) rfl ?_
  intro K hK
  go_wp2_with fail
  refine (orI_any _ _ _ _ q0 q1).mono ?_; rintro e W4 ⟨rfl, rfl⟩; have hb4 := grew_refl (World.alloc W1 (.cells #[.int .i64 (Lib.compareInt a b), .int .i64 (Lib.compareBytes s.data.toList t.data.toList)] 3))
  go_wp2_with fail
  refine hK.out _ _ (.inr hb4) ?_
  clear hK K
  try simp only [Act.put, List.setIfInBounds_toArray, List.set_cons_zero, List.set_cons_succ]
  refine takeR grew_chains 12 (by simp only [List.getElem?_toArray, List.getElem?_cons_succ, List.getElem?_cons_zero]; rfl) (by kernel_rfl) (by exact fun _ _ _ h => h) (by rfl) (v := ?_) ?_ ?_; rotate_left; (intro w2 hR; go_simp; first | done | rfl | rw [if_pos (by omega)]) -- Op.assign (Operand.tmp 16)
  try simp only [Act.put, List.setIfInBounds_toArray, List.set_cons_zero, List.set_cons_succ]
  refine wpR_done (by kernel_rfl) ?_ _

  go_wp2_with fail
  go_ret
  exact ⟨rfl, grew_trans hG (grew_alloc (grew_refl _) _)⟩
end Go.Proofs.YtbdbmpmijmmbeaaGreatDoor
