/- slices.Equal of ratios. -/
import Derived.Test.YtbdbmpmijmmbeaaGreatDoorWkR
import Derived.Deep.QuietTactic
import Derived.BigQuiet
import Derived.Laws.StructEq
namespace Go.Proofs.YtbdbmpmijmmbeaaGreatDoor
open Go.RowKit

theorem eq_two (a b : Int × Int) (w : World) : (Op.equal 44 (.agg #[.int .i64 a.1, .int .i64 a.2]) (.agg #[.int .i64 b.1, .int .i64 b.2])).run Tryz.prog w = .ok (decide (a = b)) w := by
  have h2 : Tryz.prog.stoodInHeld 44 = false := by kernel_rfl
  have h1 : Tryz.prog.underlying 44 = some (.struct (Tryz.prog.fieldsOf 44)) := by
    unfold Program.fieldsOf; rw [Tryz.underlying44]
  show (Op.equalIn (9998 + 1 + 1) 44 _ _).run Tryz.prog w = _
  rw [run_equalIn_struct w _ 44 _ _ h1 h2]
  unfold Program.fieldsOf
  rw [Tryz.underlying44]
  have e1 : (a.1 == b.1 && a.2 == b.2) = decide (a = b) := by
    obtain ⟨x, y⟩ := a; obtain ⟨z, u⟩ := b
    by_cases h : x = z <;> by_cases h' : y = u <;> simp [h, h']
  rw [← e1]
  simp only [Op.eqFields, part, Sem.run_bind, Tryz.isAgg3, Result.andThen_ok]
  cases hk : (a.1 == b.1)
  · simp [run_equalIn_int (P := Tryz.prog) w _ 3 _ _ _ _ Tryz.underlying3, hk]
  · simp [run_equalIn_int (P := Tryz.prog) w _ 3 _ _ _ _ Tryz.underlying3, hk]
    cases h5 : (a.2 == b.2) <;> simp at h5 ⊢ <;> exact h5

set_option maxHeartbeats 2000000 in
theorem equal_any (l1 l2 : List (Int × Int)) (s1 s2 : Sl) (w : World) (p : Nat → Prop) (h1 : TwosAt p w l1 s1) (h2 : TwosAt p w l2 s2) (hp : ∀ b, p b → b < w.heap.size) :
    Calls Tryz.prog 21 #[.slice s1.a s1.n s1.c, .slice s2.a s2.n s2.c] w fun e w' => e = .returned (.bool (decide (l1 = l2))) ∧ Below w.heap.size w w' := by
  obtain ⟨a1, a2, a3, a4⟩ := twos_choose h1
  obtain ⟨b1, b2, b3, b4⟩ := twos_choose h2
  obtain ⟨sa, sn, sc⟩ := s1
  obtain ⟨ta, tn, tc⟩ := s2
  dsimp only at a1 a2 a3 a4 b1 b2 b3 b4
  subst a1; subst b1
  clear h1 h2
  have HA := Lib.hid a4
  have HB := Lib.hid b4
  clear a4 b4
  by_cases hl : l1.length = l2.length
  · have hk1 : l1.length ≤ 9223372036854775807 := by unfold maxLen at a3; omega
    have hl2 : l2.length ≤ 9223372036854775807 := by omega
    have HL := Lib.hid hl
    clear hl
    have hb1 : ((l1.length : Int) != (l2.length : Int)) = false := by rw [bne_eq_false_iff_eq]; have := HL.out; omega
    go_enter Tryz.func21, Tryz.ntmps21
    go_wp2_with fail
    go_loopw [5, 13] (fun _ i W => ∃ j : Nat, j ≤ l1.length ∧ i = .int .i64 j ∧ l1.take j = l2.take j ∧ Below w.heap.size w W) (fun _ i _ => l1.length - (intOf i).toNat)
    case atStart => exact ⟨0, by omega, rfl, rfl, below_refl w⟩
    case round =>
      obtain ⟨j, hj, rfl, htk, hB⟩ := hrel
      by_cases hlt : j < l1.length
      · obtain ⟨x, hx⟩ : ∃ x, l1[j]? = some x := ⟨_, List.getElem?_eq_getElem hlt⟩
        obtain ⟨y, hy⟩ : ∃ y, l2[j]? = some y := ⟨_, List.getElem?_eq_getElem (by have := HL.out; omega)⟩
        obtain ⟨b, o, rfl, hb, hc0, hc1⟩ := HA.out j x hx
        obtain ⟨b', o', rfl, hb', hd0, hd1⟩ := HB.out j y hy
        have c0 := (cell_same (hB.block b (hp b hb)) _).trans hc0
        have c1 := (cell_same (hB.block b (hp b hb)) _).trans hc1
        have d0 := (cell_same (hB.block b' (hp b' hb')) _).trans hd0
        have d1 := (cell_same (hB.block b' (hp b' hb')) _).trans hd1
        have HX := Lib.hid hx
        have HY := Lib.hid hy
        have HTK := Lib.hid htk
        have hlt2 : j < l2.length := by have := HL.out; omega
        have heq := fun w' => eq_two x y w'
        clear hx hy hc0 hc1 hd0 hd1 htk
        go_wp2_with fail
        refine wp_region_RS Bel 9 (fun W => Bel wr W) (by kernel_rfl) (below_refl wr).drew ?_
        intro W1 hb1
        have k0 := bel_cell c0 hb1
        have k1 := bel_cell c1 hb1
        have k2 := bel_cell d0 hb1
        have k3 := bel_cell d1 hb1
        -- region 6 of function 21: 9 operations, sink 9
        refine takeR bel_chains 0 (by simp only [List.getElem?_toArray, List.getElem?_cons_succ, List.getElem?_cons_zero]; rfl) (by kernel_rfl) (by exact fun _ _ _ h => h) (by rfl) (v := ?_) ?_ ?_; rotate_left; (intro w2 hR; go_simp; first | done | rfl | rw [if_pos (by omega)]) -- Op.move (Operand.tmp 0)
        try simp only [Act.put, List.setIfInBounds_toArray, List.set_cons_zero, List.set_cons_succ]
        refine takeR bel_chains 1 (by simp only [List.getElem?_toArray, List.getElem?_cons_succ, List.getElem?_cons_zero]; rfl) (by kernel_rfl) (by exact fun _ _ _ h => h) (by rfl) (v := ?_) ?_ ?_; rotate_left; (intro w2 hR; go_simp; first | done | rfl | rw [if_pos (by omega)]) -- Op.move (Operand.tmp 5)
        try simp only [Act.put, List.setIfInBounds_toArray, List.set_cons_zero, List.set_cons_succ]
        refine takeR bel_chains 2 (by simp only [List.getElem?_toArray, List.getElem?_cons_succ, List.getElem?_cons_zero]; rfl) (by kernel_rfl) (by exact fun _ _ _ h => h) (by rfl) (v := ?_) ?_ ?_; rotate_left; (intro w2 hR; go_simp; first | done | rfl | rw [if_pos (by omega)]) -- Op.indexAddr 35 (Operand.tmp 16) (Operand.tmp 17)
        try simp only [Act.put, List.setIfInBounds_toArray, List.set_cons_zero, List.set_cons_succ]
        refine takeR bel_chains 3 (by simp only [List.getElem?_toArray, List.getElem?_cons_succ, List.getElem?_cons_zero]; rfl) (by kernel_rfl) (by exact fun _ _ _ h => h) (by rfl) (v := ?_) ?_ ?_; rotate_left; (intro w2 hR; have d0 := bel_cell k0 hR; have d1 := bel_cell k1 hR; have d2 := bel_cell k2 hR; have d3 := bel_cell k3 hR; go_simp; first | done | rfl | rw [if_pos (by omega)]) -- Op.load 44 (Operand.tmp 18)
        try simp only [Act.put, List.setIfInBounds_toArray, List.set_cons_zero, List.set_cons_succ]
        refine takeR bel_chains 4 (by simp only [List.getElem?_toArray, List.getElem?_cons_succ, List.getElem?_cons_zero]; rfl) (by kernel_rfl) (by exact fun _ _ _ h => h) (by rfl) (v := ?_) ?_ ?_; rotate_left; (intro w2 hR; go_simp; first | done | rfl | rw [if_pos (by omega)]) -- Op.move (Operand.tmp 1)
        try simp only [Act.put, List.setIfInBounds_toArray, List.set_cons_zero, List.set_cons_succ]
        refine takeR bel_chains 5 (by simp only [List.getElem?_toArray, List.getElem?_cons_succ, List.getElem?_cons_zero]; rfl) (by kernel_rfl) (by exact fun _ _ _ h => h) (by rfl) (v := ?_) ?_ ?_; rotate_left; (intro w2 hR; go_simp; first | done | rfl | rw [if_pos (by omega)]) -- Op.move (Operand.tmp 5)
        try simp only [Act.put, List.setIfInBounds_toArray, List.set_cons_zero, List.set_cons_succ]
        refine takeR bel_chains 6 (by simp only [List.getElem?_toArray, List.getElem?_cons_succ, List.getElem?_cons_zero]; rfl) (by kernel_rfl) (by exact fun _ _ _ h => h) (by rfl) (v := ?_) ?_ ?_; rotate_left; (intro w2 hR; go_simp; first | done | rfl | rw [if_pos (by omega)]) -- Op.indexAddr 35 (Operand.tmp 20) (Operand.tmp 21)
        try simp only [Act.put, List.setIfInBounds_toArray, List.set_cons_zero, List.set_cons_succ]
        refine takeR bel_chains 7 (by simp only [List.getElem?_toArray, List.getElem?_cons_succ, List.getElem?_cons_zero]; rfl) (by kernel_rfl) (by exact fun _ _ _ h => h) (by rfl) (v := ?_) ?_ ?_; rotate_left; (intro w2 hR; have d0 := bel_cell k0 hR; have d1 := bel_cell k1 hR; have d2 := bel_cell k2 hR; have d3 := bel_cell k3 hR; go_simp; first | done | rfl | rw [if_pos (by omega)]) -- Op.load 44 (Operand.tmp 22)
        try simp only [Act.put, List.setIfInBounds_toArray, List.set_cons_zero, List.set_cons_succ]
        refine takeR bel_chains 8 (by simp only [List.getElem?_toArray, List.getElem?_cons_succ, List.getElem?_cons_zero]; rfl) (by kernel_rfl) (by exact fun _ _ _ h => h) (by rfl) (v := .bool (!decide (x = y))) (by intro w2 hR; go_simp; obtain ⟨x1, x2⟩ := x; obtain ⟨y1, y2⟩ := y; by_cases e1 : x1 = y1 <;> by_cases e2 : x2 = y2 <;> simp [e1, e2]) ?_
        try simp only [Act.put, List.setIfInBounds_toArray, List.set_cons_zero, List.set_cons_succ]
        refine wpR_done (by kernel_rfl) ?_ _
        have HB := below_trans hB hb1
        by_cases hxy : x = y
        · have hd : (!decide (x = y)) = false := by simp [hxy]
          rw [hd]
          have HXY := Lib.hid hxy
          clear hxy hd c0 c1 d0 d1 k0 k1 k2 k3
          go_wp2_with fail
          go_roundw
          case rel => exact ⟨j + 1, by omega, by go_num, by rw [List.take_add_one, List.take_add_one, HX.out, HY.out, HTK.out, HXY.out], HB⟩
          case measure => simp [intOf]; omega
        · have hd : (!decide (x = y)) = true := by simp [hxy]
          rw [hd]
          have HXY := Lib.hid hxy
          clear hxy hd c0 c1 d0 d1 k0 k1 k2 k3
          go_wp2_with fail
          go_ret
          refine ⟨ret_bool ?_, HB⟩
          symm; rw [decide_eq_false_iff_not]
          intro e; subst e
          have := HX.out.symm.trans HY.out
          simp at this; exact HXY.out this
      · obtain rfl : j = l1.length := by omega
        have HTK := Lib.hid htk
        clear htk
        go_wp2_with fail
        go_ret
        refine ⟨ret_bool ?_, hB⟩
        symm; rw [decide_eq_true_iff]
        have := HTK.out
        rwa [List.take_length, HL.out, List.take_length] at this
  · have HL := Lib.hid hl
    have hb1 : ((l1.length : Int) != (l2.length : Int)) = true := by rw [bne_iff_ne]; have := HL.out; omega
    have hb2 : ¬ (l1.length : Int) = (l2.length : Int) := by have := HL.out; omega
    clear hl
    go_enter Tryz.func21, Tryz.ntmps21
    go_wp2_with fail
    go_ret
    refine ⟨ret_bool ?_, below_refl _⟩
    symm; rw [decide_eq_false_iff_not]
    intro e; exact HL.out (by rw [e])
end Go.Proofs.YtbdbmpmijmmbeaaGreatDoor
