/- TopTellsMore: the walk. -/
import Derived.Test.YtbdbmpmijmmbeaaGreatDoorWkX
import Derived.Deep.Cut
import Derived.Deep.CutBlock
import Derived.IntWalk
namespace Go.Proofs.YtbdbmpmijmmbeaaGreatDoor
open Go.RowKit

theorem pick_bound (x : Int) (n : Nat) (h : 0 < n) (h' : n ≤ 9223372036854775807) : ∃ i : Nat, pickN x n = i ∧ i < n := by
  obtain ⟨h1, h2⟩ := pickN_lt x n (by omega) (by omega)
  exact ⟨(pickN x n).toNat, by omega, by omega⟩

theorem set_blk2 {w : World} {b : Nat} {cs : Array Value} {T : TypeId} {fr : Nat × Nat} (h : w.heap[b]? = some (.cells cs T fr)) (o : Nat) (v : Value) : (w.setCell ⟨b, o, none⟩ v).heap[b]? = some (.cells (cs.setIfInBounds o v) T fr) := by
  rw [setCell_obj h]; exact setObj_same (blk_lt h)

theorem set_turn {α : Type} {L : List α} {f : α → α} {j : Nat} {y : α} (hy : L[j]? = some y) : ((L.take j).map f ++ L.drop j).set j (f y) = (L.take (j + 1)).map f ++ L.drop (j + 1) := by
  obtain ⟨hlt, _⟩ := List.getElem?_eq_some_iff.1 hy
  have hl : ((L.take j).map f).length = j := by simp; omega
  rw [List.set_append_right _ _ (by omega), hl, Nat.sub_self, List.drop_eq_getElem_cons hlt, List.set_cons_zero, List.take_add_one, hy]
  simp
theorem turn_get {α : Type} {L : List α} {f : α → α} {j : Nat} {y : α} (h : ((L.take j).map f ++ L.drop j)[j]? = some y) : L[j]? = some y := by
  by_cases hlt : j < L.length
  · have hl : ((L.take j).map f).length = j := by simp; omega
    rw [List.getElem?_append_right (by omega), hl, Nat.sub_self, List.getElem?_drop] at h
    exact h
  · rw [List.getElem?_eq_none (by simp; omega)] at h; cases h
theorem OwnAt.choose {B : Nat} {w : World} {v : Sl} {gl : List (Gp × Sl)} (h : OwnAt B w v gl) {i : Nat} {x : Gp × Sl} (hx : gl[i]? = some x) : ∃ b off, v.a = some ⟨b, off, none⟩ ∧ b < w.heap.size ∧ ThreeAt w b (off + i * 3) x.1 x.2 := by
  obtain ⟨hA, _, _, _⟩ := h
  cases hA with
  | nil => cases hx
  | row ys b off cap hb hcap hmax hR => exact ⟨b, off, rfl, hb.2, hR i x hx⟩

set_option maxRecDepth 100000 in
set_option maxHeartbeats 8000000 in
theorem top2_walk {q : Qy} {rows : List Rw} {pick : Int} {s u t : Sl} {w : World} {p : Nat → Prop} {m : Int} (hc : CondAt p w q.whr s) (ht : TwosAt p w q.tells u) (hr : RowsAt p w rows t)
    (hp : ∀ b, p b → b < w.heap.size) (hm : w.cell? ⟨0, 0, none⟩ = some (.int .i64 m)) (hn : q.whr.parts ≤ 1900000) :
    Calls Tryz.prog 4 #[q.val s u, .slice t.a t.n t.c, .int .i64 pick] w fun e w' => e = .returned (.bool true) ∧ Below w.heap.size w w' := by
  have H15 := Lib.hid (fun W => printCond_all W)
  have H16 := Lib.hid (fun W (hB : Below w.heap.size w W) => answer16_own (hc.to hp hB) (ht.to hp hB) (hr.to hp hB) (below_size hB hp) (bel_cell hm hB) (by omega : q.whr.parts ≤ 2000000))
  have HC := Lib.hid hc
  have HT := Lib.hid ht
  have HR := Lib.hid hr
  have HM := Lib.hid hm
  clear hc ht hr hm
  go_enter Tryz.func4, Tryz.ntmps4
  go_wp2_with fail
  refine (H15.out _).mono ?_
  rintro e W1 ⟨rfl, hb1⟩
  unfold allText
  have hB1 := below_trans (below_alloc (below_refl w) _) hb1
  have hq1 := blk_keep (blk_new w (.cells #[.int .i64 q.whr.kind, .int .i64 q.whr.field, .int .i64 q.whr.low, .int .i64 q.whr.high, .string q.whr.text, .slice s.a s.n s.c, .int .i64 q.group, .slice u.a u.n u.c] 27)) hb1
  have c0 := blk_cell hq1 0 rfl
  have c1 := blk_cell hq1 1 rfl
  have c2 := blk_cell hq1 2 rfl
  have c3 := blk_cell hq1 3 rfl
  have c4 := blk_cell hq1 4 rfl
  have c5 := blk_cell hq1 5 rfl
  have c6 := blk_cell hq1 6 rfl
  have c7 := blk_cell hq1 7 rfl
  have HQ1 := Lib.hid hq1
  clear hq1 hb1
  go_wp2_with fail
  refine (H16.out _ hB1).mono ?_
  rintro e W2 ⟨v, gl, rfl, hgm, hown, hb2⟩
  have hB2 := below_trans hB1 hb2
  have HQ2 := Lib.hid (blk_keep HQ1.out hb2)
  have HG := Lib.hid hown
  have HGM := Lib.hid hgm
  clear hown hgm c0 c1 c2 c3 c4 c5 c6 c7
  by_cases hz : chkAns q rows = 0
  · obtain ⟨g1, g2, g3, _⟩ := groups_choose HG.out.groups
    rw [HGM.out] at g1
    obtain ⟨va, vn, vc⟩ := v
    dsimp only at g1 g2 g3
    rw [hz]
    by_cases he : vn = 0
    · subst he
      have HZ := Lib.hid hz
      clear hz g1 g2 g3
      go_wp2_with fail
      go_ret
      exact ⟨rfl, hB2⟩
    · have HZ := Lib.hid hz
      have HG1 := Lib.hid g1
      clear hz g1
      obtain ⟨hq, hR⟩ := or2_zero HZ.out
      obtain ⟨_, _, hl0, hl10, _⟩ := chkQuery_zero hq
      clear hq hR
      obtain ⟨ub, uo, uc, rfl, hpu, huc, hum, hucell⟩ := twos_row HT.out hl0
      obtain ⟨i, hi, hil⟩ := pick_bound pick q.tells.length hl0 (by omega)
      obtain ⟨tl, htl⟩ : ∃ x, q.tells[i]? = some x := ⟨_, List.getElem?_eq_getElem hil⟩
      have HI := Lib.hid hi
      have HTL := Lib.hid htl
      have HUC := Lib.hid hucell
      clear hi htl hucell
      have hvn : (vn : Int) ≤ 9223372036854775807 := by unfold maxLen at g3; omega
      have hv0 : ¬ (vn : Int) = 0 := by omega
      have hv2 : ((vn : Int) == 0) = false := by rw [beq_eq_false_iff_ne]; omega
      have k0 := blk_cell HQ2.out 0 rfl
      have k1 := blk_cell HQ2.out 1 rfl
      have k2 := blk_cell HQ2.out 2 rfl
      have k3 := blk_cell HQ2.out 3 rfl
      have k4 := blk_cell HQ2.out 4 rfl
      have k5 := blk_cell HQ2.out 5 rfl
      have k6 := blk_cell HQ2.out 6 rfl
      have k7 := blk_cell HQ2.out 7 rfl
      have hqw := blk_lt HQ2.out
      go_upto_region 9 with fail
      go_cut [] from 47 (fun W => Below w.heap.size w W ∧ W2.heap.size < W.heap.size ∧ (∀ c, c < W2.heap.size → W.heap[c]? = W2.heap[c]?) ∧ ∃ tv : Sl, W.heap[W2.heap.size]? = some (.cells #[.int .i64 q.whr.kind, .int .i64 q.whr.field, .int .i64 q.whr.low, .int .i64 q.whr.high, .string q.whr.text, .slice s.a s.n s.c, .int .i64 q.group, .slice tv.a tv.n tv.c] 27) ∧ TwosAt (fun b => W2.heap.size < b ∧ b < W.heap.size) W (q.tells ++ [tl]) tv)
      case first =>
        refine wp_region_RS (Keeps fun c => c ≤ W2.heap.size) 13 (fun W => Below w.heap.size w W ∧ W.heap.size = W2.heap.size + 1 ∧ (∀ c, c < W2.heap.size → W.heap[c]? = W2.heap[c]?) ∧ W.heap[W2.heap.size]? = some (.cells #[.int .i64 q.whr.kind, .int .i64 q.whr.field, .int .i64 q.whr.low, .int .i64 q.whr.high, .string q.whr.text, .slice s.a s.n s.c, .int .i64 q.group, .slice (some ⟨ub, uo, none⟩) q.tells.length uc] 27)) (by kernel_rfl)
          ⟨(below_alloc hB2 _).drew, by simp, fun c hc => heap_alloc_old _ _ hc, blk_new W2 _⟩ ?_
        rintro V0 ⟨BV0, hz0, KB0, hpb⟩
        have KB := Lib.hid KB0
        clear KB0
        have hB2s := hB2.size
        have hkq : (fun c => c ≤ W2.heap.size) w.heap.size := by show w.heap.size ≤ W2.heap.size; omega
        have hku : (fun c => c ≤ W2.heap.size) ub := by have := hp ub hpu; show ub ≤ W2.heap.size; omega
        have HUD := Lib.hid (fun (W : World) (h : ∀ c, c ≤ W2.heap.size → W.heap[c]? = V0.heap[c]?) t x hx => ((fun o v hv => (cell_same ((h ub hku).trans ((KB.out ub (by have := hp ub hpu; omega)).trans (hB2.block ub (hp ub hpu)))) o).trans hv : ∀ o v, w.cell? ⟨ub, o, none⟩ = some v → W.cell? ⟨ub, o, none⟩ = some v) |> fun g => (⟨g _ _ (HUC.out t x hx).1, g _ _ (HUC.out t x hx).2⟩ : W.cell? ⟨ub, uo + t * 2, none⟩ = some (.int .i64 x.1) ∧ W.cell? ⟨ub, uo + t * 2 + 1, none⟩ = some (.int .i64 x.2))))
        have k7 := (cell_same (KB.out _ hqw) 7).trans k7
        obtain ⟨e0, e1⟩ := HUD.out V0 (fun _ _ => rfl) i tl HTL.out
        -- region 9 of function 4: 14 operations, sink 13
        refine takeR (keeps_chains _) 0 (by simp only [List.getElem?_toArray, List.getElem?_cons_succ, List.getElem?_cons_zero]; rfl) (by kernel_rfl) (by exact fun _ _ _ h => h) (by rfl) (v := ?_) ?_ ?_; rotate_left; (intro w2 hR; go_simp; first | done | rfl | rw [if_pos (by omega)]) -- Op.fieldAddr 27 (Operand.tmp 3) 2
        try simp only [Act.put, List.setIfInBounds_toArray, List.set_cons_zero, List.set_cons_succ]
        refine takeR (keeps_chains _) 1 (by simp only [List.getElem?_toArray, List.getElem?_cons_succ, List.getElem?_cons_zero]; rfl) (by kernel_rfl) (by exact fun _ _ _ h => h) (by rfl) (v := ?_) ?_ ?_; rotate_left; (intro w2 hR; have d0 := keeps_cell k7 hkq hR; go_simp; first | done | rfl | rw [if_pos (by omega)]) -- Op.load 25 (Operand.tmp 47)
        try simp only [Act.put, List.setIfInBounds_toArray, List.set_cons_zero, List.set_cons_succ]
        refine takeR (keeps_chains _) 3 (by simp only [List.getElem?_toArray, List.getElem?_cons_succ, List.getElem?_cons_zero]; rfl) (by kernel_rfl) (by exact fun _ _ _ h => h) (by rfl) (v := ?_) ?_ ?_; rotate_left; (intro w2 hR; go_simp; first | done | rfl | rw [if_pos (by omega)]) -- Op.fieldAddr 27 (Operand.tmp 3) 2
        try simp only [Act.put, List.setIfInBounds_toArray, List.set_cons_zero, List.set_cons_succ]
        refine takeR (keeps_chains _) 4 (by simp only [List.getElem?_toArray, List.getElem?_cons_succ, List.getElem?_cons_zero]; rfl) (by kernel_rfl) (by exact fun _ _ _ h => h) (by rfl) (v := ?_) ?_ ?_; rotate_left; (intro w2 hR; have d0 := keeps_cell k7 hkq hR; go_simp; first | done | rfl | rw [if_pos (by omega)]) -- Op.load 25 (Operand.tmp 50)
        try simp only [Act.put, List.setIfInBounds_toArray, List.set_cons_zero, List.set_cons_succ]
        refine takeR (keeps_chains _) 5 (by simp only [List.getElem?_toArray, List.getElem?_cons_succ, List.getElem?_cons_zero]; rfl) (by kernel_rfl) (by exact fun _ _ _ h => h) (by rfl) (v := ?_) ?_ ?_; rotate_left; (intro w2 hR; go_simp; first | done | rfl | rw [if_pos (by omega)]) -- Op.move (Operand.tmp 2)
        try simp only [Act.put, List.setIfInBounds_toArray, List.set_cons_zero, List.set_cons_succ]
        refine takeR (keeps_chains _) 6 (by simp only [List.getElem?_toArray, List.getElem?_cons_succ, List.getElem?_cons_zero]; rfl) (by kernel_rfl) (by exact fun _ _ _ h => h) (by rfl) (v := ?_) ?_ ?_; rotate_left; (intro w2 hR; go_simp; first | done | rfl | rw [if_pos (by omega)]) -- Op.move (Operand.tmp 11)
        try simp only [Act.put, List.setIfInBounds_toArray, List.set_cons_zero, List.set_cons_succ]
        -- 2: Op.call { callee := Callee.value (Operand.func 22), args := #[Operand.tmp 48], argTypes := #[25] } READY [2]
        refine onlyR 2 (by simp only [List.getElem?_toArray, List.getElem?_cons_succ, List.getElem?_cons_zero]; rfl) (by kernel_rfl) rfl ?_
        intro K hK
        go_wp2_with fail
        refine (clone22_any q.tells ub uo uc V0 hl0 hl10 (by have := hp ub hpu; omega) (fun t x hx => HUD.out _ (fun (_ : Nat) _ => rfl) t x hx)).mono ?_
        rintro e V1 ⟨cv, rfl, hcv, hb1⟩
        have hz1 := hb1.size
        have KP1 : Hid (∀ c, c ≤ W2.heap.size → V1.heap[c]? = V0.heap[c]?) := Lib.hid (fun c hc => (hb1.block c (by omega)).trans ((fun (_ : Nat) _ => rfl) c hc))
        have e0 := keeps_cell e0 hku (keeps_below hb1 (fun c hc => by have hc : c ≤ W2.heap.size := hc; omega))
        have e1 := keeps_cell e1 hku (keeps_below hb1 (fun c hc => by have hc : c ≤ W2.heap.size := hc; omega))
        have BV1 := below_trans BV0 hb1
        go_wp2_with fail
        refine hK.out _ _ (.inr (keeps_below hb1 (fun c hc => by omega))) ?_
        clear hK K
        try simp only [Act.put, List.setIfInBounds_toArray, List.set_cons_zero, List.set_cons_succ]
        -- 7: Op.call { callee := Callee.value (Operand.func 17), args := #[Operand.tmp 52, Operand.tmp 53], argTypes := #[3, 3] } READY [7]
        refine onlyR 7 (by simp only [List.getElem?_toArray, List.getElem?_cons_succ, List.getElem?_cons_zero]; rfl) (by kernel_rfl) rfl ?_
        intro K hK
        go_wp2_with fail
        refine (wPick_any pick q.tells.length V1 (by omega) (by omega)).mono ?_
        rintro e W9 ⟨rfl, rfl⟩
        rw [HI.out]
        go_wp2_with fail
        refine hK.out _ _ (.inr ((keeps_chains _).refl _)) ?_
        clear hK K
        try simp only [Act.put, List.setIfInBounds_toArray, List.set_cons_zero, List.set_cons_succ]
        refine takeR (keeps_chains _) 8 (by simp only [List.getElem?_toArray, List.getElem?_cons_succ, List.getElem?_cons_zero]; rfl) (by kernel_rfl) (by exact fun _ _ _ h => h) (by rfl) (v := ?_) ?_ ?_; rotate_left; (intro w2 hR; go_simp; first | done | rfl | rw [if_pos (by omega)]) -- Op.indexAddr 25 (Operand.tmp 51) (Operand.tmp 54)
        try simp only [Act.put, List.setIfInBounds_toArray, List.set_cons_zero, List.set_cons_succ]
        refine takeR (keeps_chains _) 9 (by simp only [List.getElem?_toArray, List.getElem?_cons_succ, List.getElem?_cons_zero]; rfl) (by kernel_rfl) (by exact fun _ _ _ h => h) (by rfl) (v := ?_) ?_ ?_; rotate_left; (intro w2 hR; have d0 := keeps_cell e0 hku hR; have d1 := keeps_cell e1 hku hR; go_simp; first | done | rfl | rw [if_pos (by omega)]) -- Op.load 48 (Operand.tmp 55)
        try simp only [Act.put, List.setIfInBounds_toArray, List.set_cons_zero, List.set_cons_succ]
        -- 10: Op.buildSlice 25 1 #[(0, Operand.tmp 56)] READY [10]
        refine onlyR 10 (by simp only [List.getElem?_toArray, List.getElem?_cons_succ, List.getElem?_cons_zero]; rfl) (by kernel_rfl) rfl ?_
        intro K hK
        go_wp2_with fail
        refine hK.out _ _ (.inr (keeps_below (below_alloc (below_refl V1) _) (fun c hc => by omega))) ?_
        clear hK K
        try simp only [Act.put, List.setIfInBounds_toArray, List.set_cons_zero, List.set_cons_succ]
        have hb2 := below_alloc (below_refl V1) (.cells #[.int .i64 tl.1, .int .i64 tl.2] 48)
        have hnb := blk_new V1 (.cells #[.int .i64 tl.1, .int .i64 tl.2] 48)
        have hz2 : V1.heap.size < (V1.alloc (.cells #[.int .i64 tl.1, .int .i64 tl.2] 48)).heap.size := by simp
        generalize hW2 : World.alloc V1 (.cells #[.int .i64 tl.1, .int .i64 tl.2] 48) = V2 at hb2 hnb hz2 ⊢
        clear hW2
        have KP2 : Hid (∀ c, c ≤ W2.heap.size → V2.heap[c]? = V0.heap[c]?) := Lib.hid (fun c hc => (hb2.block c (by omega)).trans (KP1.out c hc))
        have BV2 := below_trans BV1 hb2
        -- 11: Op.call { callee := Callee.builtin Builtin.append, args := #[Operand.tmp 49, Operand.tmp 57], argTypes := #[25, 25] } READY [11]
        refine onlyR 11 (by simp only [List.getElem?_toArray, List.getElem?_cons_succ, List.getElem?_cons_zero]; rfl) (by kernel_rfl) rfl ?_
        intro K hK
        refine wp_push_at (.tmp 49) (.tmp 57) 25 rfl V0.heap.size 48 (.agg #[.int .i64 0, .int .i64 0]) 2 16 Tryz.underlying25 Tryz.info48 rfl (by decide) (by decide) cv q.tells twoCells two_len tl (two_ones _) V1.heap.size (by rfl) (by rfl) hnb (hcv.below hb2) (by omega) (by omega) ?_
        intro cv2 V3 hcv2 hgr hat
        have hlt := ((hcv.below hb2)).lt
        obtain ⟨s9, hv9, hA9⟩ := hcv2.arr two_len
        subst hv9
        have hz3 := hgr.size
        refine hK.out _ _ (.inr ⟨hgr.size, fun c hc => hgr.block c (by omega) fun e => by have := (hlt c e.symm).1; omega⟩) ?_
        clear hK K
        try simp only [Act.put, List.setIfInBounds_toArray, List.set_cons_zero, List.set_cons_succ]
        have KP3 : Hid (∀ c, c ≤ W2.heap.size → V3.heap[c]? = V0.heap[c]?) := Lib.hid (fun c hc => (hgr.block c (by omega) fun e => by have := (hlt c e.symm).1; omega).trans (KP2.out c hc))
        have BV3 : Below w.heap.size w V3 := below_grown BV2 hgr fun c hc => by have := (hlt c hc).1; have := BV0.size; omega
        refine takeR (keeps_chains _) 12 (by simp only [List.getElem?_toArray, List.getElem?_cons_succ, List.getElem?_cons_zero]; rfl) (by kernel_rfl) (by exact fun _ _ _ h => h) (by rfl) (v := ?_) ?_ ?_; rotate_left; (intro w2 hR; go_simp; first | done | rfl | rw [if_pos (by omega)]) -- Op.fieldAddr 27 (Operand.tmp 12) 2
        try simp only [Act.put, List.setIfInBounds_toArray, List.set_cons_zero, List.set_cons_succ]
        -- 13: Op.store 25 (Operand.tmp 59) (Operand.tmp 58) READY [13]
        refine onlyR 13 (by simp only [List.getElem?_toArray, List.getElem?_cons_succ, List.getElem?_cons_zero]; rfl) (by kernel_rfl) rfl ?_
        intro K hK
        have hp3 := (KP3.out _ (Nat.le_refl _)).trans hpb
        have f7 := blk_cell hp3 7 rfl
        have g7 := blk_free hp3 7
        go_wp2_with fail
        refine hK.out _ _ (.inl (by simp)) ?_
        clear hK K
        try simp only [Act.put, List.setIfInBounds_toArray, List.set_cons_zero, List.set_cons_succ]
        refine wpR_done (by kernel_rfl) ?_ _
        go_wp2_with fail
        go_meet
        case rel =>
          have hs8 := set_blk2 hp3 7 (.slice s9.a s9.n s9.c)
          refine ⟨below_set BV3 (by omega) _, blk_lt hs8, fun c hc => (setCell_other _ _ _ (by omega)).trans ((KP3.out c (by omega)).trans (KB.out c hc)), s9, hs8, ?_⟩
          refine ArrAt.imp hA9 (fun c hc => ⟨by omega, by have := hc.2.1; simpa [World.setCell] using this⟩) fun c hc o x _ h => ?_
          have hne : c ≠ W2.heap.size := by omega
          exact ⟨(cell_same (setCell_other _ _ _ hne) _).trans (h 0 _ rfl), (cell_same (setCell_other _ _ _ hne) _).trans (h 1 _ rfl)⟩
      case rest =>
        obtain ⟨hBx, hsx, hkx, tv, hpx, htx⟩ := hcut
        have HKX := Lib.hid hkx
        have HPX := Lib.hid hpx
        have HTX := Lib.hid htx
        clear hkx hpx htx k0 k1 k2 k3 k4 k5 k6 k7
        go_upto_if 61 with fail
        go_cut [] from 13 (fun W => Below w.heap.size w W ∧ W2.heap.size < W.heap.size ∧ (∀ c, c < W2.heap.size → W.heap[c]? = W2.heap[c]?) ∧ ∃ tv : Sl, W.heap[W2.heap.size]? = some (.cells #[.int .i64 q.whr.kind, .int .i64 q.whr.field, .int .i64 q.whr.low, .int .i64 q.whr.high, .string q.whr.text, .slice s.a s.n s.c, .int .i64 q.group, .slice tv.a tv.n tv.c] 27))
        case first =>
          by_cases hn10 : q.tells.length < 10
          · have p0 := blk_cell HPX.out 0 rfl
            have p1 := blk_cell HPX.out 1 rfl
            have p2 := blk_cell HPX.out 2 rfl
            have p3 := blk_cell HPX.out 3 rfl
            have p4 := blk_cell HPX.out 4 rfl
            have p5 := blk_cell HPX.out 5 rfl
            have p6 := blk_cell HPX.out 6 rfl
            have p7 := blk_cell HPX.out 7 rfl
            have htm : tl ∈ q.tells := List.mem_of_getElem? HTL.out
            have HM0 := Lib.hid (more_chk HZ.out htm hn10)
            have HML := Lib.hid (more_len HZ.out htm hn10)
            have HA2 := Lib.hid (answer16_any (q := moreQ q tl) (rows := rows) (s := s) (u := tv) (t := t) (w := wc) (p := fun b => b < wc.heap.size) ((HC.out.to hp hBx).imp (below_size hBx hp)) (HTX.out.imp fun b hb => hb.2)
              ((HR.out.to hp hBx).imp (below_size hBx hp)) (fun _ h => h) (bel_cell HM.out hBx) (by show q.whr.parts ≤ _; omega))
            go_wp2_with fail
            refine (HA2.out).mono ?_
            rintro e W5 ⟨v3, rfl, hg3, hb5⟩
            have hB5 := below_trans hBx hb5
            rw [HM0.out]
            obtain ⟨y1, y2, y3, y4⟩ := groups_choose hg3
            obtain ⟨z1, z2, z3, z4⟩ := groups_choose HG.out.groups
            rw [HGM.out] at z1 z4
            obtain ⟨v3a, v3n, v3c⟩ := v3
            dsimp only at y1 y2 y3 y4 z1 z2 z3 z4
            obtain rfl : v3n = vn := by have := HML.out; have := HG1.out; omega
            have HY4 := Lib.hid y4
            have HZ4 := Lib.hid z4
            have HK5 := Lib.hid (fun c (hc : c < W2.heap.size) => (hb5.block c (by omega)).trans (HKX.out c hc))
            have hs5 := hb5.size
            clear hg3 y4 z4 y1 z1 p0 p1 p2 p3 p4 p5 p6 p7
            go_wp2_with fail
            go_loopw [15, 16, 79] (fun _ _ i W => ∃ j : Nat, j ≤ v3n ∧ i = .int .i64 j ∧ Below w.heap.size w W ∧ Below W5.heap.size W5 W) (fun _ _ i _ => v3n - (intOf i).toNat)
            case atStart => exact ⟨0, by omega, rfl, hB5, below_refl _⟩
            case round =>
              obtain ⟨j, hj, rfl, hBr, hBr5⟩ := hrel
              by_cases hlt : j < v3n
              · obtain ⟨g, hg⟩ : ∃ x, (ansF q rows)[j]? = some x := ⟨_, List.getElem?_eq_getElem (by have := HG1.out; omega)⟩
                obtain ⟨g1, hg1⟩ : ∃ x, (ansF (moreQ q tl) rows)[j]? = some x := ⟨_, List.getElem?_eq_getElem (by have := HML.out; have := HG1.out; omega)⟩
                obtain ⟨r, rfl, hri⟩ := more_get HZ.out htm hn10 hg hg1
                have htl := ans_told_len HZ.out (List.mem_of_getElem? hg)
                have hgi := hri i HTL.out
                obtain ⟨b3, o3, u3, rfl, hb3, ⟨a0, a1, a2⟩, ht3⟩ := HY4.out j _ hg1
                obtain ⟨b6, o6, u6, rfl, hb6, ⟨b0, b1, b2⟩, ht6⟩ := HZ4.out j _ hg
                obtain ⟨b4, o4, c4, rfl, hb4, hc4, hm4, hcell4⟩ := twos_row ht3 (by simp)
                dsimp only at a0 a1 a2 hb4 hcell4
                have hz4 : (g.told ++ [r]).length = q.tells.length + 1 := by simp [htl]
                obtain ⟨r0, r1⟩ := hcell4 q.tells.length r (by rw [List.getElem?_append_right (by omega), htl]; simp)
                obtain ⟨s0, s1⟩ := hcell4 i r (by rw [List.getElem?_append_left (by omega)]; exact hgi)
                have hT1 : TwosAt (fun b => b < W5.heap.size) W5 g.told ⟨some ⟨b4, o4, none⟩, q.tells.length, c4⟩ := by
                  have hcc : g.told.length ≤ c4 := by rw [hz4] at hc4; omega
                  rw [← htl]
                  exact .row g.told b4 o4 c4 hb4.2 hcc hm4 fun t x hx => hcell4 t x (by rw [List.getElem?_append_left (List.getElem?_eq_some_iff.1 hx).1]; exact hx)
                have hT2 : TwosAt (fun b => b < W5.heap.size) W5 g.told u6 := (ht6.move fun c hc => HK5.out c hc.2).imp fun c hc => by omega
                have HE1 := Lib.hid (fun (W : World) (hB : Below W5.heap.size W5 W) => (hT1.to (fun _ h => h) hB).imp (q := fun b => b < W.heap.size) fun b hb => Nat.lt_of_lt_of_le hb hB.size)
                have HE2 := Lib.hid (fun (W : World) (hB : Below W5.heap.size W5 W) => (hT2.to (fun _ h => h) hB).imp (q := fun b => b < W.heap.size) fun b hb => Nat.lt_of_lt_of_le hb hB.size)
                have a0 := bel_cell a0 hBr5
                have a1 := bel_cell a1 hBr5
                have a2 := bel_cell a2 hBr5
                have b0 := bel_cell ((cell_same (HK5.out b6 hb6.2) _).trans b0) hBr5
                have b1 := bel_cell ((cell_same (HK5.out b6 hb6.2) _).trans b1) hBr5
                have b2 := bel_cell ((cell_same (HK5.out b6 hb6.2) _).trans b2) hBr5
                have r0 := bel_cell r0 hBr5
                have r1 := bel_cell r1 hBr5
                have s0 := bel_cell s0 hBr5
                have s1 := bel_cell s1 hBr5
                have HCL := Lib.hid hcell4
                have HHG := Lib.hid hg
                have HTL2 := Lib.hid htl
                have HGI := Lib.hid hgi
                have heq := fun w' => eq_two r r w'
                have hcc2 : q.tells.length ≤ c4 := by rw [hz4] at hc4; omega
                rw [hz4] at a2
                clear hg hg1 hri hgi hcell4 ht3 ht6 hT1 hT2 htl hz4
                go_wp2_with fail
                have hGb := blk_new wr (.cells #[.int .i64 g.number, .string g.text, .slice (some ⟨b4, o4, none⟩) (q.tells.length + 1) c4] 37)
                have hBa := below_alloc hBr5 (.cells #[.int .i64 g.number, .string g.text, .slice (some ⟨b4, o4, none⟩) (q.tells.length + 1) c4] 37)
                have hBw := below_alloc hBr (.cells #[.int .i64 g.number, .string g.text, .slice (some ⟨b4, o4, none⟩) (q.tells.length + 1) c4] 37)
                have hBs := below_alloc (below_refl wr) (.cells #[.int .i64 g.number, .string g.text, .slice (some ⟨b4, o4, none⟩) (q.tells.length + 1) c4] 37)
                generalize World.alloc wr _ = WA at hGb hBa hBw hBs ⊢
                have hsum : IntKind.i64.wrap ((q.tells.length : Int) + 1) = ((q.tells.length + 1 : Nat) : Int) := by rw [IntWalk.i64_in _ (by omega)]; omega
                have hsn : (((q.tells.length + 1 : Nat) : Int) != ((q.tells.length + 1 : Nat) : Int)) = false := by simp
                have hsn2 : (((q.tells.length + 1 : Nat) : Int) != (q.tells.length : Int) + 1) = false := by rw [bne_eq_false_iff_eq]; omega
                refine wp_region_RS Bel 54 (fun W => Bel WA W) (by kernel_rfl) (below_refl WA).drew ?_
                intro V0 hbq0
                have hbq := below_trans hBa hbq0
                have y0 := bel_cell (blk_cell hGb 0 rfl) hbq0
                have y1 := bel_cell (blk_cell hGb 1 rfl) hbq0
                have y2 := bel_cell (blk_cell hGb 2 rfl) hbq0
                have x0 := bel_cell b0 (below_trans hBs hbq0)
                have x1 := bel_cell b1 (below_trans hBs hbq0)
                have x2 := bel_cell b2 (below_trans hBs hbq0)
                have r0 := bel_cell r0 (below_trans hBs hbq0)
                have r1 := bel_cell r1 (below_trans hBs hbq0)
                have s0 := bel_cell s0 (below_trans hBs hbq0)
                have s1 := bel_cell s1 (below_trans hBs hbq0)
                -- region 17 of function 4: 54 operations, sink 54
                refine takeR bel_chains 0 (by simp only [List.getElem?_toArray, List.getElem?_cons_succ, List.getElem?_cons_zero]; rfl) (by kernel_rfl) (by exact fun _ _ _ h => h) (by rfl) (v := ?_) ?_ ?_; rotate_left; (intro w2 hR; go_simp; first | done | rfl | rw [if_pos (by omega)]) -- Op.fieldAddr 37 (Operand.tmp 16) 0
                try simp only [Act.put, List.setIfInBounds_toArray, List.set_cons_zero, List.set_cons_succ]
                refine takeR bel_chains 1 (by simp only [List.getElem?_toArray, List.getElem?_cons_succ, List.getElem?_cons_zero]; rfl) (by kernel_rfl) (by exact fun _ _ _ h => h) (by rfl) (v := ?_) ?_ ?_; rotate_left; (intro w2 hR; have d0 := bel_cell y0 hR; have d1 := bel_cell y1 hR; have d2 := bel_cell y2 hR; have d3 := bel_cell x0 hR; have d4 := bel_cell x1 hR; have d5 := bel_cell x2 hR; have d6 := bel_cell r0 hR; have d7 := bel_cell r1 hR; have d8 := bel_cell s0 hR; have d9 := bel_cell s1 hR; go_simp; first | done | rfl | rw [if_pos (by omega)]) -- Op.load 3 (Operand.tmp 84)
                try simp only [Act.put, List.setIfInBounds_toArray, List.set_cons_zero, List.set_cons_succ]
                refine takeR bel_chains 2 (by simp only [List.getElem?_toArray, List.getElem?_cons_succ, List.getElem?_cons_zero]; rfl) (by kernel_rfl) (by exact fun _ _ _ h => h) (by rfl) (v := ?_) ?_ ?_; rotate_left; (intro w2 hR; go_simp; first | done | rfl | rw [if_pos (by omega)]) -- Op.move (Operand.tmp 9)
                try simp only [Act.put, List.setIfInBounds_toArray, List.set_cons_zero, List.set_cons_succ]
                refine takeR bel_chains 3 (by simp only [List.getElem?_toArray, List.getElem?_cons_succ, List.getElem?_cons_zero]; rfl) (by kernel_rfl) (by exact fun _ _ _ h => h) (by rfl) (v := ?_) ?_ ?_; rotate_left; (intro w2 hR; go_simp; first | done | rfl | rw [if_pos (by omega)]) -- Op.move (Operand.tmp 15)
                try simp only [Act.put, List.setIfInBounds_toArray, List.set_cons_zero, List.set_cons_succ]
                refine takeR bel_chains 4 (by simp only [List.getElem?_toArray, List.getElem?_cons_succ, List.getElem?_cons_zero]; rfl) (by kernel_rfl) (by exact fun _ _ _ h => h) (by rfl) (v := ?_) ?_ ?_; rotate_left; (intro w2 hR; go_simp; first | done | rfl | rw [if_pos (by omega)]) -- Op.indexAddr 32 (Operand.tmp 86) (Operand.tmp 87)
                try simp only [Act.put, List.setIfInBounds_toArray, List.set_cons_zero, List.set_cons_succ]
                refine takeR bel_chains 5 (by simp only [List.getElem?_toArray, List.getElem?_cons_succ, List.getElem?_cons_zero]; rfl) (by kernel_rfl) (by exact fun _ _ _ h => h) (by rfl) (v := ?_) ?_ ?_; rotate_left; (intro w2 hR; go_simp; first | done | rfl | rw [if_pos (by omega)]) -- Op.fieldAddr 37 (Operand.tmp 88) 0
                try simp only [Act.put, List.setIfInBounds_toArray, List.set_cons_zero, List.set_cons_succ]
                refine takeR bel_chains 6 (by simp only [List.getElem?_toArray, List.getElem?_cons_succ, List.getElem?_cons_zero]; rfl) (by kernel_rfl) (by exact fun _ _ _ h => h) (by rfl) (v := ?_) ?_ ?_; rotate_left; (intro w2 hR; have d0 := bel_cell y0 hR; have d1 := bel_cell y1 hR; have d2 := bel_cell y2 hR; have d3 := bel_cell x0 hR; have d4 := bel_cell x1 hR; have d5 := bel_cell x2 hR; have d6 := bel_cell r0 hR; have d7 := bel_cell r1 hR; have d8 := bel_cell s0 hR; have d9 := bel_cell s1 hR; go_simp; first | done | rfl | rw [if_pos (by omega)]) -- Op.load 3 (Operand.tmp 89)
                try simp only [Act.put, List.setIfInBounds_toArray, List.set_cons_zero, List.set_cons_succ]
                refine takeR bel_chains 7 (by simp only [List.getElem?_toArray, List.getElem?_cons_succ, List.getElem?_cons_zero]; rfl) (by kernel_rfl) (by exact fun _ _ _ h => h) (by rfl) (v := ?_) ?_ ?_; rotate_left; (intro w2 hR; go_simp; first | done | rfl | rw [if_pos (by omega)]) -- Op.binOp BinOp.neq 3 (Operand.tmp 85) (Operand.tmp 90) 3
                try simp only [Act.put, List.setIfInBounds_toArray, List.set_cons_zero, List.set_cons_succ]
                refine takeR bel_chains 8 (by simp only [List.getElem?_toArray, List.getElem?_cons_succ, List.getElem?_cons_zero]; rfl) (by kernel_rfl) (by exact fun _ _ _ h => h) (by rfl) (v := ?_) ?_ ?_; rotate_left; (intro w2 hR; go_simp; first | done | rfl | rw [if_pos (by omega)]) -- Op.move (Operand.tmp 91)
                try simp only [Act.put, List.setIfInBounds_toArray, List.set_cons_zero, List.set_cons_succ]
                refine takeR bel_chains 9 (by simp only [List.getElem?_toArray, List.getElem?_cons_succ, List.getElem?_cons_zero]; rfl) (by kernel_rfl) (by exact fun _ _ _ h => h) (by rfl) (v := ?_) ?_ ?_; rotate_left; (intro w2 hR; go_simp; first | done | rfl | rw [if_pos (by omega)]) -- Op.fieldAddr 37 (Operand.tmp 16) 1
                try simp only [Act.put, List.setIfInBounds_toArray, List.set_cons_zero, List.set_cons_succ]
                refine takeR bel_chains 10 (by simp only [List.getElem?_toArray, List.getElem?_cons_succ, List.getElem?_cons_zero]; rfl) (by kernel_rfl) (by exact fun _ _ _ h => h) (by rfl) (v := ?_) ?_ ?_; rotate_left; (intro w2 hR; have d0 := bel_cell y0 hR; have d1 := bel_cell y1 hR; have d2 := bel_cell y2 hR; have d3 := bel_cell x0 hR; have d4 := bel_cell x1 hR; have d5 := bel_cell x2 hR; have d6 := bel_cell r0 hR; have d7 := bel_cell r1 hR; have d8 := bel_cell s0 hR; have d9 := bel_cell s1 hR; go_simp; first | done | rfl | rw [if_pos (by omega)]) -- Op.load 9 (Operand.tmp 93)
                try simp only [Act.put, List.setIfInBounds_toArray, List.set_cons_zero, List.set_cons_succ]
                refine takeR bel_chains 11 (by simp only [List.getElem?_toArray, List.getElem?_cons_succ, List.getElem?_cons_zero]; rfl) (by kernel_rfl) (by exact fun _ _ _ h => h) (by rfl) (v := ?_) ?_ ?_; rotate_left; (intro w2 hR; go_simp; first | done | rfl | rw [if_pos (by omega)]) -- Op.move (Operand.tmp 9)
                try simp only [Act.put, List.setIfInBounds_toArray, List.set_cons_zero, List.set_cons_succ]
                refine takeR bel_chains 12 (by simp only [List.getElem?_toArray, List.getElem?_cons_succ, List.getElem?_cons_zero]; rfl) (by kernel_rfl) (by exact fun _ _ _ h => h) (by rfl) (v := ?_) ?_ ?_; rotate_left; (intro w2 hR; go_simp; first | done | rfl | rw [if_pos (by omega)]) -- Op.move (Operand.tmp 15)
                try simp only [Act.put, List.setIfInBounds_toArray, List.set_cons_zero, List.set_cons_succ]
                refine takeR bel_chains 13 (by simp only [List.getElem?_toArray, List.getElem?_cons_succ, List.getElem?_cons_zero]; rfl) (by kernel_rfl) (by exact fun _ _ _ h => h) (by rfl) (v := ?_) ?_ ?_; rotate_left; (intro w2 hR; go_simp; first | done | rfl | rw [if_pos (by omega)]) -- Op.indexAddr 32 (Operand.tmp 95) (Operand.tmp 96)
                try simp only [Act.put, List.setIfInBounds_toArray, List.set_cons_zero, List.set_cons_succ]
                refine takeR bel_chains 14 (by simp only [List.getElem?_toArray, List.getElem?_cons_succ, List.getElem?_cons_zero]; rfl) (by kernel_rfl) (by exact fun _ _ _ h => h) (by rfl) (v := ?_) ?_ ?_; rotate_left; (intro w2 hR; go_simp; first | done | rfl | rw [if_pos (by omega)]) -- Op.fieldAddr 37 (Operand.tmp 97) 1
                try simp only [Act.put, List.setIfInBounds_toArray, List.set_cons_zero, List.set_cons_succ]
                refine takeR bel_chains 15 (by simp only [List.getElem?_toArray, List.getElem?_cons_succ, List.getElem?_cons_zero]; rfl) (by kernel_rfl) (by exact fun _ _ _ h => h) (by rfl) (v := ?_) ?_ ?_; rotate_left; (intro w2 hR; have d0 := bel_cell y0 hR; have d1 := bel_cell y1 hR; have d2 := bel_cell y2 hR; have d3 := bel_cell x0 hR; have d4 := bel_cell x1 hR; have d5 := bel_cell x2 hR; have d6 := bel_cell r0 hR; have d7 := bel_cell r1 hR; have d8 := bel_cell s0 hR; have d9 := bel_cell s1 hR; go_simp; first | done | rfl | rw [if_pos (by omega)]) -- Op.load 9 (Operand.tmp 98)
                try simp only [Act.put, List.setIfInBounds_toArray, List.set_cons_zero, List.set_cons_succ]
                refine takeR bel_chains 16 (by simp only [List.getElem?_toArray, List.getElem?_cons_succ, List.getElem?_cons_zero]; rfl) (by kernel_rfl) (by exact fun _ _ _ h => h) (by rfl) (v := ?_) ?_ ?_; rotate_left; (intro w2 hR; go_simp; first | done | rfl | rw [if_pos (by omega)]) -- Op.binOp BinOp.neq 9 (Operand.tmp 94) (Operand.tmp 99) 9
                try simp only [Act.put, List.setIfInBounds_toArray, List.set_cons_zero, List.set_cons_succ]
                refine takeR bel_chains 17 (by simp only [List.getElem?_toArray, List.getElem?_cons_succ, List.getElem?_cons_zero]; rfl) (by kernel_rfl) (by exact fun _ _ _ h => h) (by rfl) (v := ?_) ?_ ?_; rotate_left; (intro w2 hR; go_simp; first | done | rfl | rw [if_pos (by omega)]) -- Op.pick (Operand.tmp 92) (Operand.const (Value.bool true)) (Operand.tmp 100)
                try simp only [Act.put, List.setIfInBounds_toArray, List.set_cons_zero, List.set_cons_succ]
                refine takeR bel_chains 18 (by simp only [List.getElem?_toArray, List.getElem?_cons_succ, List.getElem?_cons_zero]; rfl) (by kernel_rfl) (by exact fun _ _ _ h => h) (by rfl) (v := ?_) ?_ ?_; rotate_left; (intro w2 hR; go_simp; first | done | rfl | rw [if_pos (by omega)]) -- Op.move (Operand.tmp 101)
                try simp only [Act.put, List.setIfInBounds_toArray, List.set_cons_zero, List.set_cons_succ]
                refine takeR bel_chains 19 (by simp only [List.getElem?_toArray, List.getElem?_cons_succ, List.getElem?_cons_zero]; rfl) (by kernel_rfl) (by exact fun _ _ _ h => h) (by rfl) (v := ?_) ?_ ?_; rotate_left; (intro w2 hR; go_simp; first | done | rfl | rw [if_pos (by omega)]) -- Op.fieldAddr 37 (Operand.tmp 16) 2
                try simp only [Act.put, List.setIfInBounds_toArray, List.set_cons_zero, List.set_cons_succ]
                refine takeR bel_chains 20 (by simp only [List.getElem?_toArray, List.getElem?_cons_succ, List.getElem?_cons_zero]; rfl) (by kernel_rfl) (by exact fun _ _ _ h => h) (by rfl) (v := ?_) ?_ ?_; rotate_left; (intro w2 hR; have d0 := bel_cell y0 hR; have d1 := bel_cell y1 hR; have d2 := bel_cell y2 hR; have d3 := bel_cell x0 hR; have d4 := bel_cell x1 hR; have d5 := bel_cell x2 hR; have d6 := bel_cell r0 hR; have d7 := bel_cell r1 hR; have d8 := bel_cell s0 hR; have d9 := bel_cell s1 hR; go_simp; first | done | rfl | rw [if_pos (by omega)]) -- Op.load 35 (Operand.tmp 103)
                try simp only [Act.put, List.setIfInBounds_toArray, List.set_cons_zero, List.set_cons_succ]
                refine takeR bel_chains 21 (by simp only [List.getElem?_toArray, List.getElem?_cons_succ, List.getElem?_cons_zero]; rfl) (by kernel_rfl) (by exact fun _ _ _ h => h) (by rfl) (v := ?_) ?_ ?_; rotate_left; (intro w2 hR; go_simp; first | done | rfl | rw [if_pos (by omega)]) -- Op.call { callee := Callee.builtin Builtin.len, args := #[Operand.tmp 104], argTypes := #[35] }
                try simp only [Act.put, List.setIfInBounds_toArray, List.set_cons_zero, List.set_cons_succ]
                refine takeR bel_chains 22 (by simp only [List.getElem?_toArray, List.getElem?_cons_succ, List.getElem?_cons_zero]; rfl) (by kernel_rfl) (by exact fun _ _ _ h => h) (by rfl) (v := ?_) ?_ ?_; rotate_left; (intro w2 hR; go_simp; first | done | rfl | rw [if_pos (by omega)]) -- Op.move (Operand.tmp 11)
                try simp only [Act.put, List.setIfInBounds_toArray, List.set_cons_zero, List.set_cons_succ]
                refine takeR bel_chains 23 (by simp only [List.getElem?_toArray, List.getElem?_cons_succ, List.getElem?_cons_zero]; rfl) (by kernel_rfl) (by exact fun _ _ _ h => h) (by rfl) (v := ?_) ?_ ?_; rotate_left; (intro w2 hR; go_simp; first | done | rfl | rw [if_pos (by omega)]) -- Op.binOp BinOp.add 3 (Operand.tmp 106) (Operand.const (Value.int IntKind.i64 1)) 3
                try simp only [Act.put, List.setIfInBounds_toArray, List.set_cons_zero, List.set_cons_succ]
                refine takeR bel_chains 24 (by simp only [List.getElem?_toArray, List.getElem?_cons_succ, List.getElem?_cons_zero]; rfl) (by kernel_rfl) (by exact fun _ _ _ h => h) (by rfl) (v := ?_) ?_ ?_; rotate_left; (intro w2 hR; go_simp; first | done | rfl | rw [if_pos (by omega)]) -- Op.binOp BinOp.neq 3 (Operand.tmp 105) (Operand.tmp 107) 3
                try simp only [Act.put, List.setIfInBounds_toArray, List.set_cons_zero, List.set_cons_succ]
                refine takeR bel_chains 25 (by simp only [List.getElem?_toArray, List.getElem?_cons_succ, List.getElem?_cons_zero]; rfl) (by kernel_rfl) (by exact fun _ _ _ h => h) (by rfl) (v := ?_) ?_ ?_; rotate_left; (intro w2 hR; go_simp; first | done | rfl | rw [if_pos (by omega)]) -- Op.pick (Operand.tmp 102) (Operand.const (Value.bool true)) (Operand.tmp 108)
                try simp only [Act.put, List.setIfInBounds_toArray, List.set_cons_zero, List.set_cons_succ]
                refine takeR bel_chains 26 (by simp only [List.getElem?_toArray, List.getElem?_cons_succ, List.getElem?_cons_zero]; rfl) (by kernel_rfl) (by exact fun _ _ _ h => h) (by rfl) (v := ?_) ?_ ?_; rotate_left; (intro w2 hR; go_simp; first | done | rfl | rw [if_pos (by omega)]) -- Op.move (Operand.tmp 109)
                try simp only [Act.put, List.setIfInBounds_toArray, List.set_cons_zero, List.set_cons_succ]
                refine takeR bel_chains 27 (by simp only [List.getElem?_toArray, List.getElem?_cons_succ, List.getElem?_cons_zero]; rfl) (by kernel_rfl) (by exact fun _ _ _ h => h) (by rfl) (v := ?_) ?_ ?_; rotate_left; (intro w2 hR; go_simp; first | done | rfl | rw [if_pos (by omega)]) -- Op.fieldAddr 37 (Operand.tmp 16) 2
                try simp only [Act.put, List.setIfInBounds_toArray, List.set_cons_zero, List.set_cons_succ]
                refine takeR bel_chains 28 (by simp only [List.getElem?_toArray, List.getElem?_cons_succ, List.getElem?_cons_zero]; rfl) (by kernel_rfl) (by exact fun _ _ _ h => h) (by rfl) (v := ?_) ?_ ?_; rotate_left; (intro w2 hR; have d0 := bel_cell y0 hR; have d1 := bel_cell y1 hR; have d2 := bel_cell y2 hR; have d3 := bel_cell x0 hR; have d4 := bel_cell x1 hR; have d5 := bel_cell x2 hR; have d6 := bel_cell r0 hR; have d7 := bel_cell r1 hR; have d8 := bel_cell s0 hR; have d9 := bel_cell s1 hR; go_simp; first | done | rfl | rw [if_pos (by omega)]) -- Op.load 35 (Operand.tmp 111)
                try simp only [Act.put, List.setIfInBounds_toArray, List.set_cons_zero, List.set_cons_succ]
                refine takeR bel_chains 29 (by simp only [List.getElem?_toArray, List.getElem?_cons_succ, List.getElem?_cons_zero]; rfl) (by kernel_rfl) (by exact fun _ _ _ h => h) (by rfl) (v := ?_) ?_ ?_; rotate_left; (intro w2 hR; go_simp; first | done | rfl | rw [if_pos (by omega)]) -- Op.move (Operand.tmp 11)
                try simp only [Act.put, List.setIfInBounds_toArray, List.set_cons_zero, List.set_cons_succ]
                refine takeR bel_chains 31 (by simp only [List.getElem?_toArray, List.getElem?_cons_succ, List.getElem?_cons_zero]; rfl) (by kernel_rfl) (by exact fun _ _ _ h => h) (by rfl) (v := ?_) ?_ ?_; rotate_left; (intro w2 hR; go_simp; first | done | rfl | rw [if_pos (by omega)]) -- Op.move (Operand.tmp 9)
                try simp only [Act.put, List.setIfInBounds_toArray, List.set_cons_zero, List.set_cons_succ]
                refine takeR bel_chains 32 (by simp only [List.getElem?_toArray, List.getElem?_cons_succ, List.getElem?_cons_zero]; rfl) (by kernel_rfl) (by exact fun _ _ _ h => h) (by rfl) (v := ?_) ?_ ?_; rotate_left; (intro w2 hR; go_simp; first | done | rfl | rw [if_pos (by omega)]) -- Op.move (Operand.tmp 15)
                try simp only [Act.put, List.setIfInBounds_toArray, List.set_cons_zero, List.set_cons_succ]
                refine takeR bel_chains 33 (by simp only [List.getElem?_toArray, List.getElem?_cons_succ, List.getElem?_cons_zero]; rfl) (by kernel_rfl) (by exact fun _ _ _ h => h) (by rfl) (v := ?_) ?_ ?_; rotate_left; (intro w2 hR; go_simp; first | done | rfl | rw [if_pos (by omega)]) -- Op.indexAddr 32 (Operand.tmp 115) (Operand.tmp 116)
                try simp only [Act.put, List.setIfInBounds_toArray, List.set_cons_zero, List.set_cons_succ]
                refine takeR bel_chains 34 (by simp only [List.getElem?_toArray, List.getElem?_cons_succ, List.getElem?_cons_zero]; rfl) (by kernel_rfl) (by exact fun _ _ _ h => h) (by rfl) (v := ?_) ?_ ?_; rotate_left; (intro w2 hR; go_simp; first | done | rfl | rw [if_pos (by omega)]) -- Op.fieldAddr 37 (Operand.tmp 117) 2
                try simp only [Act.put, List.setIfInBounds_toArray, List.set_cons_zero, List.set_cons_succ]
                refine takeR bel_chains 35 (by simp only [List.getElem?_toArray, List.getElem?_cons_succ, List.getElem?_cons_zero]; rfl) (by kernel_rfl) (by exact fun _ _ _ h => h) (by rfl) (v := ?_) ?_ ?_; rotate_left; (intro w2 hR; have d0 := bel_cell y0 hR; have d1 := bel_cell y1 hR; have d2 := bel_cell y2 hR; have d3 := bel_cell x0 hR; have d4 := bel_cell x1 hR; have d5 := bel_cell x2 hR; have d6 := bel_cell r0 hR; have d7 := bel_cell r1 hR; have d8 := bel_cell s0 hR; have d9 := bel_cell s1 hR; go_simp; first | done | rfl | rw [if_pos (by omega)]) -- Op.load 35 (Operand.tmp 118)
                try simp only [Act.put, List.setIfInBounds_toArray, List.set_cons_zero, List.set_cons_succ]
                -- 30: woven.go:296 Op.slice 35 (Operand.tmp 112) none (some (Operand.tmp 113)) none -> 114  guard some (26, false)   READY [30]
                refine wpR_only (i := 30) (by simp only [List.getElem?_toArray, List.getElem?_cons_succ, List.getElem?_cons_zero]; rfl) (by kernel_rfl) ?_
                intro K hK
                rw [if_pos (by rfl)]
                go_wp2_with fail
                refine hK.out _ _ (.inr (below_refl _)) ?_
                clear hK K
                try simp only [Act.put, List.setIfInBounds_toArray, List.set_cons_zero, List.set_cons_succ]
                -- 36: woven.go:296 Op.call { callee := Callee.value (Operand.func 21), args := #[Operand.tmp 114, Operand.tmp 119], argTypes := #[35, 35] } -> 120  guard some (26, false)   READY [36]
                refine wpR_only (i := 36) (by simp only [List.getElem?_toArray, List.getElem?_cons_succ, List.getElem?_cons_zero]; rfl) (by kernel_rfl) ?_
                intro K hK
                rw [if_pos (by rfl)]
                go_wp2_with fail
                refine (equal_any _ _ _ _ _ _ (HE1.out _ hbq) (HE2.out _ hbq) (fun _ h => h)).mono ?_; rintro e W7 ⟨rfl, hb2⟩; rw [show decide (g.told = g.told) = true from by simp]
                go_wp2_with fail
                refine hK.out _ _ (.inr hb2) ?_
                clear hK K
                try simp only [Act.put, List.setIfInBounds_toArray, List.set_cons_zero, List.set_cons_succ]
                have y0 := bel_cell y0 hb2; have y1 := bel_cell y1 hb2; have y2 := bel_cell y2 hb2; have x0 := bel_cell x0 hb2; have x1 := bel_cell x1 hb2; have x2 := bel_cell x2 hb2; have r0 := bel_cell r0 hb2; have r1 := bel_cell r1 hb2; have s0 := bel_cell s0 hb2; have s1 := bel_cell s1 hb2
                refine takeR bel_chains 37 (by simp only [List.getElem?_toArray, List.getElem?_cons_succ, List.getElem?_cons_zero]; rfl) (by kernel_rfl) (by exact fun _ _ _ h => h) (by rfl) (v := ?_) ?_ ?_; rotate_left; (intro w2 hR; go_simp; first | done | rfl | rw [if_pos (by omega)]) -- Op.unOp UnOp.not 4 (Operand.tmp 120)
                try simp only [Act.put, List.setIfInBounds_toArray, List.set_cons_zero, List.set_cons_succ]
                refine takeR bel_chains 38 (by simp only [List.getElem?_toArray, List.getElem?_cons_succ, List.getElem?_cons_zero]; rfl) (by kernel_rfl) (by exact fun _ _ _ h => h) (by rfl) (v := ?_) ?_ ?_; rotate_left; (intro w2 hR; go_simp; first | done | rfl | rw [if_pos (by omega)]) -- Op.pick (Operand.tmp 110) (Operand.const (Value.bool true)) (Operand.tmp 121)
                try simp only [Act.put, List.setIfInBounds_toArray, List.set_cons_zero, List.set_cons_succ]
                refine takeR bel_chains 39 (by simp only [List.getElem?_toArray, List.getElem?_cons_succ, List.getElem?_cons_zero]; rfl) (by kernel_rfl) (by exact fun _ _ _ h => h) (by rfl) (v := ?_) ?_ ?_; rotate_left; (intro w2 hR; go_simp; first | done | rfl | rw [if_pos (by omega)]) -- Op.move (Operand.tmp 122)
                try simp only [Act.put, List.setIfInBounds_toArray, List.set_cons_zero, List.set_cons_succ]
                refine takeR bel_chains 40 (by simp only [List.getElem?_toArray, List.getElem?_cons_succ, List.getElem?_cons_zero]; rfl) (by kernel_rfl) (by exact fun _ _ _ h => h) (by rfl) (v := ?_) ?_ ?_; rotate_left; (intro w2 hR; go_simp; first | done | rfl | rw [if_pos (by omega)]) -- Op.fieldAddr 37 (Operand.tmp 16) 2
                try simp only [Act.put, List.setIfInBounds_toArray, List.set_cons_zero, List.set_cons_succ]
                refine takeR bel_chains 41 (by simp only [List.getElem?_toArray, List.getElem?_cons_succ, List.getElem?_cons_zero]; rfl) (by kernel_rfl) (by exact fun _ _ _ h => h) (by rfl) (v := ?_) ?_ ?_; rotate_left; (intro w2 hR; have d0 := bel_cell y0 hR; have d1 := bel_cell y1 hR; have d2 := bel_cell y2 hR; have d3 := bel_cell x0 hR; have d4 := bel_cell x1 hR; have d5 := bel_cell x2 hR; have d6 := bel_cell r0 hR; have d7 := bel_cell r1 hR; have d8 := bel_cell s0 hR; have d9 := bel_cell s1 hR; go_simp; first | done | rfl | rw [if_pos (by omega)]) -- Op.load 35 (Operand.tmp 124)
                try simp only [Act.put, List.setIfInBounds_toArray, List.set_cons_zero, List.set_cons_succ]
                refine takeR bel_chains 42 (by simp only [List.getElem?_toArray, List.getElem?_cons_succ, List.getElem?_cons_zero]; rfl) (by kernel_rfl) (by exact fun _ _ _ h => h) (by rfl) (v := ?_) ?_ ?_; rotate_left; (intro w2 hR; go_simp; first | done | rfl | rw [if_pos (by omega)]) -- Op.move (Operand.tmp 11)
                try simp only [Act.put, List.setIfInBounds_toArray, List.set_cons_zero, List.set_cons_succ]
                refine takeR bel_chains 43 (by simp only [List.getElem?_toArray, List.getElem?_cons_succ, List.getElem?_cons_zero]; rfl) (by kernel_rfl) (by exact fun _ _ _ h => h) (by rfl) (v := ?_) ?_ ?_; rotate_left; (intro w2 hR; go_simp; first | done | rfl | rw [if_pos (by omega)]) -- Op.indexAddr 35 (Operand.tmp 125) (Operand.tmp 126)
                try simp only [Act.put, List.setIfInBounds_toArray, List.set_cons_zero, List.set_cons_succ]
                refine takeR bel_chains 44 (by simp only [List.getElem?_toArray, List.getElem?_cons_succ, List.getElem?_cons_zero]; rfl) (by kernel_rfl) (by exact fun _ _ _ h => h) (by rfl) (v := ?_) ?_ ?_; rotate_left; (intro w2 hR; have d0 := bel_cell y0 hR; have d1 := bel_cell y1 hR; have d2 := bel_cell y2 hR; have d3 := bel_cell x0 hR; have d4 := bel_cell x1 hR; have d5 := bel_cell x2 hR; have d6 := bel_cell r0 hR; have d7 := bel_cell r1 hR; have d8 := bel_cell s0 hR; have d9 := bel_cell s1 hR; go_simp; first | done | rfl | rw [if_pos (by omega)]) -- Op.load 44 (Operand.tmp 127)
                try simp only [Act.put, List.setIfInBounds_toArray, List.set_cons_zero, List.set_cons_succ]
                refine takeR bel_chains 45 (by simp only [List.getElem?_toArray, List.getElem?_cons_succ, List.getElem?_cons_zero]; rfl) (by kernel_rfl) (by exact fun _ _ _ h => h) (by rfl) (v := ?_) ?_ ?_; rotate_left; (intro w2 hR; go_simp; first | done | rfl | rw [if_pos (by omega)]) -- Op.fieldAddr 37 (Operand.tmp 16) 2
                try simp only [Act.put, List.setIfInBounds_toArray, List.set_cons_zero, List.set_cons_succ]
                refine takeR bel_chains 46 (by simp only [List.getElem?_toArray, List.getElem?_cons_succ, List.getElem?_cons_zero]; rfl) (by kernel_rfl) (by exact fun _ _ _ h => h) (by rfl) (v := ?_) ?_ ?_; rotate_left; (intro w2 hR; have d0 := bel_cell y0 hR; have d1 := bel_cell y1 hR; have d2 := bel_cell y2 hR; have d3 := bel_cell x0 hR; have d4 := bel_cell x1 hR; have d5 := bel_cell x2 hR; have d6 := bel_cell r0 hR; have d7 := bel_cell r1 hR; have d8 := bel_cell s0 hR; have d9 := bel_cell s1 hR; go_simp; first | done | rfl | rw [if_pos (by omega)]) -- Op.load 35 (Operand.tmp 129)
                try simp only [Act.put, List.setIfInBounds_toArray, List.set_cons_zero, List.set_cons_succ]
                refine takeR bel_chains 47 (by simp only [List.getElem?_toArray, List.getElem?_cons_succ, List.getElem?_cons_zero]; rfl) (by kernel_rfl) (by exact fun _ _ _ h => h) (by rfl) (v := ?_) ?_ ?_; rotate_left; (intro w2 hR; go_simp; first | done | rfl | rw [if_pos (by omega)]) -- Op.move (Operand.tmp 2)
                try simp only [Act.put, List.setIfInBounds_toArray, List.set_cons_zero, List.set_cons_succ]
                refine takeR bel_chains 48 (by simp only [List.getElem?_toArray, List.getElem?_cons_succ, List.getElem?_cons_zero]; rfl) (by kernel_rfl) (by exact fun _ _ _ h => h) (by rfl) (v := ?_) ?_ ?_; rotate_left; (intro w2 hR; go_simp; first | done | rfl | rw [if_pos (by omega)]) -- Op.move (Operand.tmp 11)
                try simp only [Act.put, List.setIfInBounds_toArray, List.set_cons_zero, List.set_cons_succ]
                -- 49: woven.go:296 Op.call { callee := Callee.value (Operand.func 17), args := #[Operand.tmp 131, Operand.tmp 132], argTypes := #[3, 3] } -> 133  guard some (39, false)   READY [49]
                refine wpR_only (i := 49) (by simp only [List.getElem?_toArray, List.getElem?_cons_succ, List.getElem?_cons_zero]; rfl) (by kernel_rfl) ?_
                intro K hK
                rw [if_pos (by rfl)]
                go_wp2_with fail
                refine (wPick_any pick q.tells.length _ (by omega) (by omega)).mono ?_; rintro e W8 ⟨rfl, rfl⟩; rw [HI.out]
                go_wp2_with fail
                refine hK.out _ _ (.inr (below_refl _)) ?_
                clear hK K
                try simp only [Act.put, List.setIfInBounds_toArray, List.set_cons_zero, List.set_cons_succ]
                refine takeR bel_chains 50 (by simp only [List.getElem?_toArray, List.getElem?_cons_succ, List.getElem?_cons_zero]; rfl) (by kernel_rfl) (by exact fun _ _ _ h => h) (by rfl) (v := ?_) ?_ ?_; rotate_left; (intro w2 hR; go_simp; first | done | rfl | rw [if_pos (by omega)]) -- Op.indexAddr 35 (Operand.tmp 130) (Operand.tmp 133)
                try simp only [Act.put, List.setIfInBounds_toArray, List.set_cons_zero, List.set_cons_succ]
                refine takeR bel_chains 51 (by simp only [List.getElem?_toArray, List.getElem?_cons_succ, List.getElem?_cons_zero]; rfl) (by kernel_rfl) (by exact fun _ _ _ h => h) (by rfl) (v := ?_) ?_ ?_; rotate_left; (intro w2 hR; have d0 := bel_cell y0 hR; have d1 := bel_cell y1 hR; have d2 := bel_cell y2 hR; have d3 := bel_cell x0 hR; have d4 := bel_cell x1 hR; have d5 := bel_cell x2 hR; have d6 := bel_cell r0 hR; have d7 := bel_cell r1 hR; have d8 := bel_cell s0 hR; have d9 := bel_cell s1 hR; go_simp; first | done | rfl | rw [if_pos (by omega)]) -- Op.load 44 (Operand.tmp 134)
                try simp only [Act.put, List.setIfInBounds_toArray, List.set_cons_zero, List.set_cons_succ]
                refine takeR bel_chains 52 (by simp only [List.getElem?_toArray, List.getElem?_cons_succ, List.getElem?_cons_zero]; rfl) (by kernel_rfl) (by exact fun _ _ _ h => h) (by rfl) (v := ?_) ?_ ?_; rotate_left; (intro w2 hR; go_simp; first | done | rfl | rw [if_pos (by omega)]) -- Op.binOp BinOp.neq 44 (Operand.tmp 128) (Operand.tmp 135) 44
                try simp only [Act.put, List.setIfInBounds_toArray, List.set_cons_zero, List.set_cons_succ]
                refine takeR bel_chains 53 (by simp only [List.getElem?_toArray, List.getElem?_cons_succ, List.getElem?_cons_zero]; rfl) (by kernel_rfl) (by exact fun _ _ _ h => h) (by rfl) (v := ?_) ?_ ?_; rotate_left; (intro w2 hR; go_simp; first | done | rfl | rw [if_pos (by omega)]) -- Op.pick (Operand.tmp 123) (Operand.const (Value.bool true)) (Operand.tmp 136)
                try simp only [Act.put, List.setIfInBounds_toArray, List.set_cons_zero, List.set_cons_succ]
                refine wpR_done (by kernel_rfl) ?_ _
                go_wp2_with fail
                go_roundw
                case rel => exact ⟨j + 1, by omega, by go_num, below_trans hBw (below_trans hbq0 hb2), below_trans hbq hb2⟩
                case measure => simp [intOf]; omega
              · obtain rfl : j = v3n := by omega
                go_wp2_with fail
                go_meet
                case rel =>
                  have hs6 := hBr5.size
                  exact ⟨hBr, by omega, fun c hc => (hBr5.block c (by omega)).trans (HK5.out c hc), tv, blk_keep (blk_keep HPX.out hb5) hBr5⟩
          · go_wp2_with fail
            go_meet
            case rel => exact ⟨hBx, hsx, HKX.out, tv, HPX.out⟩
        case rest =>
          obtain ⟨hBy, hsy, hky, tv2, hpy⟩ := hcut
          have HKY := Lib.hid hky
          have k7 := (cell_same (hky _ hqw) 7).trans (blk_cell HQ2.out 7 rfl)
          have hub := hp ub hpu
          have hB2s := hB2.size
          have hbys := hBy.size
          have HUY := Lib.hid (fun t x (hx : q.tells[t]? = some x) => (⟨(cell_same (hBy.block ub hub) _).trans (HUC.out t x hx).1, (cell_same (hBy.block ub hub) _).trans (HUC.out t x hx).2⟩ : wc.cell? ⟨ub, uo + t * 2, none⟩ = some (.int .i64 x.1) ∧ wc.cell? ⟨ub, uo + t * 2 + 1, none⟩ = some (.int .i64 x.2)))
          clear hky
          go_wp2_with fail
          refine (clone22_any q.tells ub uo uc wc hl0 hl10 (by omega) HUY.out).mono ?_
          rintro e V1 ⟨cv, rfl, hcv, hbv1⟩
          have hsv1 := hbv1.size
          have hBV1 := below_trans hBy hbv1
          have hpv := blk_keep hpy hbv1
          have f7 := blk_cell hpv 7 rfl
          have g7 := blk_free hpv 7
          obtain ⟨s9, hv9, hA9⟩ := hcv.arr two_len
          have hfree := fun c (hc : cv.ownBlock = some c) => owns_free hcv hc
          subst hv9
          have hT9 : TwosAt (fun b => wc.heap.size ≤ b ∧ b < V1.heap.size) V1 q.tells s9 := ArrAt.imp hA9 (fun c hc => ⟨hc.1, hc.2.1⟩) fun c hc o x _ h => ⟨h 0 _ rfl, h 1 _ rfl⟩
          obtain ⟨cb, co, cc, rfl, hcb, hcc, hcm, hccell⟩ := twos_row hT9 hl0
          have hfr := (hfree cb rfl).2.2
          have hpcb : W2.heap.size ≠ cb := by omega
          have hs2 := set_blk2 hpv 7 (.slice (some ⟨cb, co, none⟩) q.tells.length cc)
          have hBV2 := below_set hBV1 (by omega : w.heap.size ≤ W2.heap.size) (o := 7) (.slice (some ⟨cb, co, none⟩) q.tells.length cc)
          have HV2 := Lib.hid (fun c (hc : c ≠ W2.heap.size) => (setCell_other V1 7 (.slice (some ⟨cb, co, none⟩) q.tells.length cc) hc))
          have hsv2 : (V1.setCell ⟨W2.heap.size, 7, none⟩ (.slice (some ⟨cb, co, none⟩) q.tells.length cc)).heap.size = V1.heap.size := by simp [World.setCell]
          have HCC := Lib.hid hccell
          have HFR := Lib.hid hfr
          clear hcv hA9 hT9 hfree hccell hfr
          dsimp only
          go_wp2_with fail
          generalize hWW : V1.setCell ⟨W2.heap.size, 7, none⟩ (.slice (some ⟨cb, co, none⟩) q.tells.length cc) = V2 at hs2 hBV2 HV2 hsv2 ⊢
          clear hWW
          have hcc2 := fun t x (hx : q.tells[t]? = some x) => (⟨(cell_same (HV2.out cb (Ne.symm hpcb)) _).trans (HCC.out t x hx).1, (cell_same (HV2.out cb (Ne.symm hpcb)) _).trans (HCC.out t x hx).2⟩ : V2.cell? ⟨cb, co + t * 2, none⟩ = some (.int .i64 x.1) ∧ V2.cell? ⟨cb, co + t * 2 + 1, none⟩ = some (.int .i64 x.2))
          have HREV := Lib.hid (reverse23_any q.tells cb co cc V2 (by unfold maxLen; omega) (by omega) (fun o => (World.frozen?_of_block (a := ⟨cb, o, none⟩) (HV2.out cb (Ne.symm hpcb))).trans (HFR.out o)) (fun t ht => by
            have := hcc2 t (q.tells[t]) (List.getElem?_eq_getElem ht)
            rw [List.getD_eq_getElem?_getD, List.getElem?_eq_getElem ht]; exact this))
          clear hcc2
          have f7 := blk_cell hs2 7 rfl
          go_wp2_with fail
          refine (HREV.out).mono ?_
          rintro e V3 ⟨rfl, hgr3, _, hc3⟩
          have hsv3 := hgr3.size
          have hBV3 : Below w.heap.size w V3 := hBV2.grown hgr3 hBV2.size fun k hk => by cases hk; omega
          have hp3 := (hgr3.block W2.heap.size (by omega) fun e => hpcb (by injection e)).trans hs2
          have hT3 : TwosAt (fun b => b < V3.heap.size) V3 q.tells.reverse ⟨some ⟨cb, co, none⟩, q.tells.length, cc⟩ := by
            have e : q.tells.length = q.tells.reverse.length := by simp
            rw [e] at hcc ⊢
            exact .row _ cb co cc (by omega) hcc hcm hc3
          have HA4 := Lib.hid (answer16_own (q := turnQ q) (rows := rows) (s := s) (u := ⟨some ⟨cb, co, none⟩, q.tells.length, cc⟩) (t := t) (w := V3) (p := fun b => b < V3.heap.size) ((HC.out.to hp hBV3).imp (below_size hBV3 hp)) hT3
            ((HR.out.to hp hBV3).imp (below_size hBV3 hp)) (fun _ h => h) (bel_cell HM.out hBV3) (by show q.whr.parts ≤ _; omega))
          have HK3 := Lib.hid (fun c (hc : c < W2.heap.size) => ((hgr3.block c (by omega) fun e => by injection e; omega).trans ((HV2.out c (by omega)).trans ((hbv1.block c (by omega)).trans (HKY.out c hc)))))
          have p0 := blk_cell hp3 0 rfl
          have p1 := blk_cell hp3 1 rfl
          have p2 := blk_cell hp3 2 rfl
          have p3 := blk_cell hp3 3 rfl
          have p4 := blk_cell hp3 4 rfl
          have p5 := blk_cell hp3 5 rfl
          have p6 := blk_cell hp3 6 rfl
          have p7 := blk_cell hp3 7 rfl
          clear hc3 hT3 hgr3 hs2 f7 g7
          go_wp2_with fail
          refine (HA4.out).mono ?_
          rintro e V4 ⟨v4, gl4, rfl, hgm4, hown4, hb4⟩
          have hB4 := below_trans hBV3 hb4
          have hsv4 := hb4.size
          rw [turn_chk HZ.out]
          obtain ⟨y1, y2, y3, _⟩ := groups_choose hown4.groups
          rw [hgm4, turn_ans HZ.out, List.length_map] at y1
          have HGM4 := Lib.hid hgm4
          have HO4 := Lib.hid hown4
          obtain ⟨v4a, v4n, v4c⟩ := v4
          dsimp only at y1 y2 y3
          obtain rfl : v4n = vn := by have := HG1.out; omega
          clear hgm4 hown4 y1 p0 p1 p2 p3 p4 p5 p6 p7
          go_wp2_with fail
          go_loopw [18, 156] (fun _ i W => ∃ (j : Nat) (gl' : List (Gp × Sl)), j ≤ v4n ∧ i = .int .i64 j ∧ Below w.heap.size w W ∧ OwnAt V3.heap.size W ⟨v4a, v4n, v4c⟩ gl' ∧ (∀ c, c < V3.heap.size → W.heap[c]? = V3.heap[c]?) ∧ V3.heap.size ≤ W.heap.size ∧
              gl'.map (·.1) = ((gl4.map (·.1)).take j).map revG ++ (gl4.map (·.1)).drop j) (fun _ i _ => v4n - (intOf i).toNat)
          case atStart => exact ⟨0, gl4, by omega, rfl, hB4, HO4.out, fun c hc => hb4.block c hc, hsv4, by simp⟩
          case round =>
            obtain ⟨j, gl', hj, rfl, hBr, hO, hkr, hsr, hgl⟩ := hrel
            by_cases hlt : j < v4n
            · have hln : v4n = gl'.length := hO.arr.len
              obtain ⟨x, hx⟩ : ∃ x, gl'[j]? = some x := ⟨_, List.getElem?_eq_getElem (by omega)⟩
              have hxm := List.mem_of_getElem? hx
              have hxl : (gl4.map (·.1))[j]? = some x.1 := by
                have h1 : (gl'.map (·.1))[j]? = some x.1 := by rw [List.getElem?_map, hx]; rfl
                rw [hgl] at h1
                exact turn_get h1
              have htold : x.1.told.length = q.tells.length := by
                have h1 := List.mem_of_getElem? hxl
                rw [HGM4.out] at h1
                rw [ans_told_len (turn_chk HZ.out) h1]; simp [turnQ]
              obtain ⟨tb, to_, tc, hx2, htb, htc, htm, htcell⟩ := twos_row (hO.told x hxm) (by omega)
              obtain ⟨ab, ao, hva, hab, a3⟩ := hO.choose hx
              dsimp only at hva
              subst hva
              have a2 := a3.c2
              rw [hx2] at a2
              have HREV := Lib.hid (reverse24_any x.1.told tb to_ tc wr (by unfold maxLen; omega) htb.2 (hO.free x hxm tb (by rw [hx2]; rfl)).2 (fun t ht => by
                have := htcell t (x.1.told[t]) (List.getElem?_eq_getElem ht)
                rw [List.getD_eq_getElem?_getD, List.getElem?_eq_getElem ht]; exact this))
              have HO2 := Lib.hid hO
              have HX := Lib.hid hx
              have HX2 := Lib.hid hx2
              have HXL := Lib.hid hxl
              have HGL := Lib.hid hgl
              have HKR := Lib.hid hkr
              have HTOLD := Lib.hid htold
              have HOUT := Lib.hid (fun k (hk : some tb = some k) => (by injection hk; have := htb.1; omega : w.heap.size ≤ k))
              clear hx hx2 hxl hgl hkr a3 htcell hln htold hO
              go_wp2_with fail
              refine (HREV.out).mono ?_
              rintro e V6 ⟨rfl, hgr6, hf6, hc6⟩
              have hown6 := HO2.out.turn HX.out HX2.out htc htm hgr6 hf6 hc6
              have hsv6 := hgr6.size
              have HC6 := Lib.hid hown6
              have HGR := Lib.hid hgr6
              clear hown6 hf6 hc6 hgr6
              go_wp2_with fail
              go_roundw
              case rel =>
                refine ⟨j + 1, gl'.set j (revG x.1, x.2), by omega, by go_num, hBr.grown HGR.out hBr.size HOUT.out, HC6.out, fun c hc => (HGR.out.block c (by omega) fun e => by injection e; have := htb.1; omega).trans (HKR.out c hc), by omega, ?_⟩
                rw [List.map_set, HGL.out]
                exact set_turn HXL.out
              case measure => simp [intOf]; omega
            · obtain rfl : j = v4n := by omega
              have hlen4 : (gl4.map (·.1)).length = j := by rw [HGM4.out, turn_ans HZ.out, List.length_map]; exact HG1.out.symm
              rw [List.take_of_length_le (by omega), List.drop_of_length_le (by omega), List.append_nil, HGM4.out, turn_ans HZ.out, List.map_map] at hgl
              have hid : (revG ∘ revG) = id := by funext g; simp [revG]
              rw [hid, List.map_id] at hgl
              have hGG := hO.groups
              rw [hgl] at hGG
              have hG2 := HG.out.groups
              rw [HGM.out] at hG2
              have HFIN := Lib.hid (answered_any (ansF q rows) (ansF q rows) _ _ wr (fun b => b < wr.heap.size) (hGG.imp fun b hb => hb.2) ((hG2.move fun c hc => (hkr c (by omega)).trans (HK3.out c hc.2)).imp fun c hc => by omega) (fun _ h => h))
              clear hgl hid hGG hG2 hkr hO
              go_wp2_with fail
              refine (HFIN.out).mono ?_
              rintro e V5 ⟨rfl, hb5⟩
              go_wp2_with fail
              go_ret
              exact ⟨rfl, below_trans hBr hb5⟩
  · have hzb : (chkAns q rows != 0) = true := bne_iff_ne.2 hz
    have HZ := Lib.hid hz
    clear hz
    go_wp2_with fail
    go_ret
    exact ⟨rfl, hB2⟩
end Go.Proofs.YtbdbmpmijmmbeaaGreatDoor
