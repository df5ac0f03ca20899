/- holds of the package ask: a number of a row; all kinds together. -/
import Derived.Test.YtbdbmpmijmmbeaaGreatDoorWkH
import Derived.Test.YtbdbmpmijmmbeaaGreatDoorRegR
namespace Go.Proofs.YtbdbmpmijmmbeaaGreatDoor
open Go.RowKit
set_option maxRecDepth 100000 in
theorem holds_7 (f : Nat) (l h : Int) (t : ByteArray) (s : Sl) (r : Rw) (u : Sl) (w : World) (hf : 1 ≤ f) (hf' : f ≤ 7) (h0 : 0 ≤ r.start) (h1 : r.start ≤ 86399999999) :
    Calls Tryz.prog 74 #[.agg #[.int .i64 7, .int .i64 f, .int .i64 l, .int .i64 h, .string t, .slice s.a s.n s.c], r.val u] w fun e w' => e = .returned (.bool (inB (numF f r) l h)) ∧ Below w.heap.size w w' := by
  have hmf : ∀ (fn : Fn) (first cap : Array Value) (w : World), (Instr.makeFunc fn first cap).run Tryz.prog w = .ok (.func fn first cap) w := fun _ _ _ _ => rfl
  go_enter Tryz.func74, Tryz.ntmps74
  go_wp2_with fail
  refine wp_region_RS Bel 13 (fun W => Below w.heap.size w W ∧ W.cell? ⟨w.heap.size, 1, none⟩ = some (.int .i64 f) ∧ W.cell? ⟨w.heap.size, 2, none⟩ = some (.int .i64 l) ∧ W.cell? ⟨w.heap.size, 3, none⟩ = some (.int .i64 h) ∧
    W.heap[w.heap.size + 1]? = some (.cells (rowCells r u) 84)) (by kernel_rfl) ⟨(below_alloc (below_alloc (below_alloc (below_refl w) _) _) _).drew, ?_, ?_, ?_, ?_⟩ ?_
  · simp [go_sem]
  · simp [go_sem]
  · simp [go_sem]
  · exact blk_alloc (by rw [← World.size_alloc w _]; exact blk_new _ _) _
  rintro W1 ⟨hB, k1, k2, k3, hR⟩
  have r0 := blk_cell hR 0 rfl
  have r1 := blk_cell hR 1 rfl
  have r2 := blk_cell hR 2 rfl
  have r3 := blk_cell hR 3 rfl
  have r4 := blk_cell hR 4 rfl
  have r5 := blk_cell hR 5 rfl
  have r6 := blk_cell hR 6 rfl
  have r7 := blk_cell hR 7 rfl
  clear hR
  -- region 15 of function 74: 14 operations, sink 13
  refine takeR bel_chains 1 (by simp only [List.getElem?_toArray, List.getElem?_cons_succ, List.getElem?_cons_zero]; rfl) (by kernel_rfl) (by exact fun _ _ _ h => h) (by rfl) (v := ?_) ?_ ?_; rotate_left; (intro w2 hR; go_simp; first | done | rfl | rw [if_pos (by omega)]) -- Op.fieldAddr 24 (Operand.tmp 2) 1
  try simp only [Act.put, List.setIfInBounds_toArray, List.set_cons_zero, List.set_cons_succ]
  refine takeR bel_chains 2 (by simp only [List.getElem?_toArray, List.getElem?_cons_succ, List.getElem?_cons_zero]; rfl) (by kernel_rfl) (by exact fun _ _ _ h => h) (by rfl) (v := ?_) ?_ ?_; rotate_left; (intro w2 hR; have d0 := bel_cell k1 hR; have d1 := bel_cell k2 hR; have d2 := bel_cell k3 hR; have d3 := bel_cell r0 hR; have d4 := bel_cell r1 hR; have d5 := bel_cell r2 hR; have d6 := bel_cell r3 hR; have d7 := bel_cell r4 hR; have d8 := bel_cell r5 hR; have d9 := bel_cell r6 hR; have d10 := bel_cell r7 hR; go_simp; first | done | rfl | rw [if_pos (by omega)]) -- Op.load 3 (Operand.tmp 53)
  try simp only [Act.put, List.setIfInBounds_toArray, List.set_cons_zero, List.set_cons_succ]
  refine takeR bel_chains 6 (by simp only [List.getElem?_toArray, List.getElem?_cons_succ, List.getElem?_cons_zero]; rfl) (by kernel_rfl) (by exact fun _ _ _ h => h) (by rfl) (v := ?_) ?_ ?_; rotate_left; (intro w2 hR; have d0 := bel_cell k1 hR; have d1 := bel_cell k2 hR; have d2 := bel_cell k3 hR; have d3 := bel_cell r0 hR; have d4 := bel_cell r1 hR; have d5 := bel_cell r2 hR; have d6 := bel_cell r3 hR; have d7 := bel_cell r4 hR; have d8 := bel_cell r5 hR; have d9 := bel_cell r6 hR; have d10 := bel_cell r7 hR; go_simp; first | done | rfl | rw [if_pos (by omega)]) -- Op.load 84 (Operand.tmp 3)
  try simp only [Act.put, List.setIfInBounds_toArray, List.set_cons_zero, List.set_cons_succ]
  refine takeR bel_chains 8 (by simp only [List.getElem?_toArray, List.getElem?_cons_succ, List.getElem?_cons_zero]; rfl) (by kernel_rfl) (by exact fun _ _ _ h => h) (by rfl) (v := ?_) ?_ ?_; rotate_left; (intro w2 hR; go_simp; first | done | rfl | rw [if_pos (by omega)]) -- Op.fieldAddr 24 (Operand.tmp 2) 2
  try simp only [Act.put, List.setIfInBounds_toArray, List.set_cons_zero, List.set_cons_succ]
  refine takeR bel_chains 9 (by simp only [List.getElem?_toArray, List.getElem?_cons_succ, List.getElem?_cons_zero]; rfl) (by kernel_rfl) (by exact fun _ _ _ h => h) (by rfl) (v := ?_) ?_ ?_; rotate_left; (intro w2 hR; have d0 := bel_cell k1 hR; have d1 := bel_cell k2 hR; have d2 := bel_cell k3 hR; have d3 := bel_cell r0 hR; have d4 := bel_cell r1 hR; have d5 := bel_cell r2 hR; have d6 := bel_cell r3 hR; have d7 := bel_cell r4 hR; have d8 := bel_cell r5 hR; have d9 := bel_cell r6 hR; have d10 := bel_cell r7 hR; go_simp; first | done | rfl | rw [if_pos (by omega)]) -- Op.load 3 (Operand.tmp 60)
  try simp only [Act.put, List.setIfInBounds_toArray, List.set_cons_zero, List.set_cons_succ]
  refine takeR bel_chains 10 (by simp only [List.getElem?_toArray, List.getElem?_cons_succ, List.getElem?_cons_zero]; rfl) (by kernel_rfl) (by exact fun _ _ _ h => h) (by rfl) (v := ?_) ?_ ?_; rotate_left; (intro w2 hR; go_simp; first | done | rfl | rw [if_pos (by omega)]) -- Op.fieldAddr 24 (Operand.tmp 2) 3
  try simp only [Act.put, List.setIfInBounds_toArray, List.set_cons_zero, List.set_cons_succ]
  refine takeR bel_chains 11 (by simp only [List.getElem?_toArray, List.getElem?_cons_succ, List.getElem?_cons_zero]; rfl) (by kernel_rfl) (by exact fun _ _ _ h => h) (by rfl) (v := ?_) ?_ ?_; rotate_left; (intro w2 hR; have d0 := bel_cell k1 hR; have d1 := bel_cell k2 hR; have d2 := bel_cell k3 hR; have d3 := bel_cell r0 hR; have d4 := bel_cell r1 hR; have d5 := bel_cell r2 hR; have d6 := bel_cell r3 hR; have d7 := bel_cell r4 hR; have d8 := bel_cell r5 hR; have d9 := bel_cell r6 hR; have d10 := bel_cell r7 hR; go_simp; first | done | rfl | rw [if_pos (by omega)]) -- Op.load 3 (Operand.tmp 62)
  try simp only [Act.put, List.setIfInBounds_toArray, List.set_cons_zero, List.set_cons_succ]
  -- 0: ask.go:169 Op.call { callee := Callee.value (Operand.func 69), args := #[], argTypes := #[] } -> 52  guard none   READY [0]
  refine onlyR 0 (by simp only [List.getElem?_toArray, List.getElem?_cons_succ, List.getElem?_cons_zero]; rfl) (by kernel_rfl) rfl ?_
  intro K hK
  go_wp2_with fail
  refine (numbers_any _).mono ?_; rintro e W2 ⟨rfl, rfl⟩; have hb2 := below_alloc (below_refl W1) (.cells numCells 101)
  go_wp2_with fail
  refine hK.out _ _ (.inr hb2) ?_
  clear hK K
  try simp only [Act.put, List.setIfInBounds_toArray, List.set_cons_zero, List.set_cons_succ]
  refine takeR bel_chains 3 (by simp only [List.getElem?_toArray, List.getElem?_cons_succ, List.getElem?_cons_zero]; rfl) (by kernel_rfl) (by exact fun _ _ _ h => h) (by rfl) (v := ?_) ?_ ?_; rotate_left; (intro w2 hR; go_simp; first | done | rfl | rw [if_pos (by omega)]) -- Op.indexAddr 102 (Operand.tmp 52) (Operand.tmp 54)
  try simp only [Act.put, List.setIfInBounds_toArray, List.set_cons_zero, List.set_cons_succ]
  refine takeR bel_chains 4 (by simp only [List.getElem?_toArray, List.getElem?_cons_succ, List.getElem?_cons_zero]; rfl) (by kernel_rfl) (by exact fun _ _ _ h => h) (by rfl) (v := ?_) ?_ ?_; rotate_left; (intro w2 hR; go_simp; first | done | rfl | rw [if_pos (by omega)]) -- Op.fieldAddr 101 (Operand.tmp 55) 1
  try simp only [Act.put, List.setIfInBounds_toArray, List.set_cons_zero, List.set_cons_succ]
  have tc := blk_cell (blk_new W1 (.cells numCells 101)) (f * 2 + 1) (numCells_at f hf hf')
  have he := numEnters f hf hf'
  unfold Enters at he
  refine takeR bel_chains 5 (by simp only [List.getElem?_toArray, List.getElem?_cons_succ, List.getElem?_cons_zero]; rfl) (by kernel_rfl) (by exact fun _ _ _ h => h) (by rfl) (v := ?_) ?_ ?_; rotate_left; (intro w2 hR; have d0 := bel_cell tc hR; go_simp; first | done | rfl | rw [if_pos (by omega)]) -- Op.load 99 (Operand.tmp 56)
  try simp only [Act.put, List.setIfInBounds_toArray, List.set_cons_zero, List.set_cons_succ]
  -- 7: ask.go:169 Op.call { callee := Callee.value (Operand.tmp 57), args := #[Operand.tmp 58], argTypes := #[84] } -> 59  guard none   READY [7]
  refine onlyR 7 (by simp only [List.getElem?_toArray, List.getElem?_cons_succ, List.getElem?_cons_zero]; rfl) (by kernel_rfl) rfl ?_
  intro K hK
  go_wp2_with fail
  refine (num_any f r u _ hf hf' h0 h1).mono ?_; rintro e W3 ⟨rfl, hb3⟩
  go_wp2_with fail
  refine hK.out _ _ (.inr hb3) ?_
  clear hK K
  try simp only [Act.put, List.setIfInBounds_toArray, List.set_cons_zero, List.set_cons_succ]
  -- 12: ask.go:169 Op.call { callee := Callee.value (Operand.func 71), args := #[Operand.tmp 59, Operand.tmp 61, Operand.tmp 63], argTypes := #[3, 3, 3] } -> 64  guard none   READY [12]
  refine onlyR 12 (by simp only [List.getElem?_toArray, List.getElem?_cons_succ, List.getElem?_cons_zero]; rfl) (by kernel_rfl) rfl ?_
  intro K hK
  go_wp2_with fail
  refine (in_any _ _ _ _).mono ?_; rintro e W4 ⟨rfl, rfl⟩; have hb4 := below_refl W3
  go_wp2_with fail
  refine hK.out _ _ (.inr hb4) ?_
  clear hK K
  try simp only [Act.put, List.setIfInBounds_toArray, List.set_cons_zero, List.set_cons_succ]
  refine takeR bel_chains 13 (by simp only [List.getElem?_toArray, List.getElem?_cons_succ, List.getElem?_cons_zero]; rfl) (by kernel_rfl) (by exact fun _ _ _ h => h) (by rfl) (v := ?_) ?_ ?_; rotate_left; (intro w2 hR; go_simp; first | done | rfl | rw [if_pos (by omega)]) -- Op.assign (Operand.tmp 64)
  try simp only [Act.put, List.setIfInBounds_toArray, List.set_cons_zero, List.set_cons_succ]
  refine wpR_done (by kernel_rfl) ?_ _
  go_wp2
  go_ret
  exact ⟨rfl, below_trans (below_trans hB hb2) hb3⟩

theorem chkList_mem {lv : Nat} {ks : List Cd} (h : chkList lv ks = 0) : ∀ d ∈ ks, chkPart lv d = 0 := by
  induction ks with
  | nil => intro d hd; cases hd
  | cons e r ih =>
    simp only [chkList] at h
    by_cases he : chkPart lv e = 0
    · rw [if_neg (by omega)] at h
      intro d hd
      cases hd with
      | head => exact he
      | tail _ hm => exact ih h d hm
    · rw [if_pos he] at h; exact absurd h he
theorem chkPart_zero {lv : Nat} {k f l h : Int} {t : ByteArray} {ks : List Cd} (hz : chkPart lv (.mk k f l h t ks) = 0) : chkTop lv k f l h t ks.length = 0 ∧ chkList (lv + 1) ks = 0 := by
  rw [chkPart] at hz
  by_cases ht : chkTop lv k f l h t ks.length = 0
  · rw [if_neg (by omega)] at hz; exact ⟨ht, hz⟩
  · rw [if_pos ht] at hz; exact absurd hz ht
theorem chkTop_zero {lv : Nat} {k f l h : Int} {t : ByteArray} {n : Nat} (hz : chkTop lv k f l h t n = 0) : inB k 1 7 = true ∧ (k = 7 → inB f 1 7 = true) ∧ (k = 3 → n = 1) := by
  unfold chkTop at hz
  cases h1 : inB k 1 7
  · simp [h1] at hz
  · refine ⟨rfl, ?_, ?_⟩
    · rintro rfl
      cases h2 : inB f 1 7
      · simp [h1, h2] at hz
      · rfl
    · rintro rfl
      by_cases hn : n = 1
      · exact hn
      · exfalso; simp [h1, hn] at hz; repeat (split at hz <;> first | omega | skip)

theorem holds_n (r : Rw) (u : Sl) (m : Int) (hn : r.name.size ≤ 60) (h0 : 0 ≤ r.start) (h1 : r.start ≤ 86399999999) (N : Nat) : ∀ (d : Cd) (s : Sl) (w : World) (p : Nat → Prop) (lv : Nat), d.parts ≤ N → CondAt p w d s → StrsAt p w r.tags u → (∀ b, p b → b < w.heap.size) →
    w.cell? ⟨0, 0, none⟩ = some (.int .i64 m) → chkPart lv d = 0 →
    Calls Tryz.prog 74 #[d.val s, r.val u] w fun e w' => e = .returned (.bool (holdsF r d)) ∧ Below w.heap.size w w' := by
  induction N with
  | zero => intro d s w p lv hd; have := d.parts_eq; omega
  | succ N ih =>
    intro d s w p lv hd hat htg hp hm hz
    obtain ⟨k, f, l, h, t, ks⟩ := d
    obtain ⟨hz1, hz2⟩ := chkPart_zero hz
    obtain ⟨z1, z2, z3⟩ := chkTop_zero hz1
    have hb0 : (0 : Nat) < w.heap.size := World.block_lt_of_cell? w _ hm
    have hsz : 1 + Cd.partsL ks ≤ N + 1 := hd
    have H : KidsH r u p w ks := fun kd hk v W hW hat2 => by
      obtain ⟨i, hi⟩ := List.getElem?_of_mem hk
      have := Cd.partsL_mem hi
      exact ih kd v W p (lv + 1) (by omega) hat2 (htg.to hp hW) (below_size hW hp) ((cell_same (hW.block 0 hb0) 0).trans hm) (chkList_mem hz2 kd hk)
    rcases k_cases k with h_k | rfl | rfl | rfl | rfl | rfl | rfl | rfl
    · rw [h_k] at z1; cases z1
    · exact holds_1 f l h t ks s r u w p hat hp H
    · exact holds_2 f l h t ks s r u w p hat hp H
    · have hl := z3 rfl
      cases hat with
      | nil _ _ _ _ _ _ => cases hl
      | row _ _ _ _ _ _ b off cap kv _ hb hcap hmax h6 hkk =>
        match ks, hl, H, h6, hkk with
        | [kd], _, H, h6, hkk =>
          have e : holdsF r (.mk 3 f l h t [kd]) = !holdsF r kd := by simp [holdsF, holdsL]
          rw [e]
          have h60 := h6 0 kd rfl
          rw [Nat.zero_mul, Nat.add_zero] at h60
          exact holds_3 f l h t kd b off cap (kv 0) r u w p (hp b hb) h60 (hkk 0 kd rfl) hp H
    · exact holds_4 f l h t s r u w
    · exact holds_5 f l h t s r u w p htg hp
    · exact holds_6 f l h t s r u w hn m hm hb0
    · have hf := z2 rfl
      simp only [inB, Bool.and_eq_true, decide_eq_true_eq] at hf
      obtain ⟨n, rfl⟩ := Int.eq_ofNat_of_zero_le (show 0 ≤ f by omega)
      exact holds_7 n l h t s r u w (by omega) (by omega) h0 h1
end Go.Proofs.YtbdbmpmijmmbeaaGreatDoor
