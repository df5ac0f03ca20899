/- Ratios; keys; what is told of rows. -/
import Derived.Test.YtbdbmpmijmmbeaaGreatDoorWkI
namespace Go.Proofs.YtbdbmpmijmmbeaaGreatDoor
open Go.RowKit

theorem gcd_step (a b : Nat) (hb : 0 < b) : Nat.gcd b (a % b) = Nat.gcd a b := by rw [Nat.gcd_comm a b, Nat.gcd_rec b a, Nat.gcd_comm]
set_option maxHeartbeats 400000 in
theorem ratio_any (n d : Nat) (w : World) (hn : n ≤ 100000000000000000) (hd : 1 ≤ d) (hd' : d ≤ 100000000000000000) :
    Calls Tryz.prog 164 #[.int .i64 n, .int .i64 d] w fun e w' => e = .returned (.agg #[.int .i64 (n / Nat.gcd n d : Nat), .int .i64 (d / Nat.gcd n d : Nat)]) ∧ Below w.heap.size w w' := by
  go_enter Tryz.func164, Tryz.ntmps164
  go_wp2_with fail
  go_loopw [5, 6] (fun x y wr => ∃ a b : Nat, x = .int .i64 a ∧ y = .int .i64 b ∧ a ≤ 100000000000000000 ∧ b ≤ 100000000000000000 ∧ 1 ≤ a + b ∧ Nat.gcd a b = Nat.gcd n d ∧ Below w.heap.size w wr ∧
     wr.heap[w.heap.size]? = some (.cells #[.int .i64 0, .int .i64 0] 44)) (fun _ y _ => (intOf y).toNat)
  case atStart => exact ⟨n, d, by simp; omega, rfl, hn, hd', by omega, rfl, below_alloc (below_refl w) _, blk_new w _⟩
  case round =>
    obtain ⟨a, b, rfl, rfl, ha, hb, hab, hg, hB, hblk⟩ := hrel
    have HG := Lib.hid hg
    have HK := Lib.hid hblk
    clear hg hblk
    by_cases h0 : 0 < b
    · have hm : a % b < b := Nat.mod_lt _ h0
      have hma : a % b ≤ a := Nat.mod_le _ _
      have HS := Lib.hid (gcd_step a b h0)
      have e1 : ((a : Int) % (b : Int)) = ((a % b : Nat) : Int) := by simp
      go_wp2_with fail
      go_quiet (fail)
      go_wp2_with fail
      go_roundw
      case rel => exact ⟨b, a % b, rfl, by rw [e1], hb, by omega, by omega, HS.out.trans HG.out, below_drewN hB _, HK.out⟩
      case measure => rw [e1]; simp only [intOf, Int.toNat_natCast]; exact hm
    · obtain rfl : b = 0 := by omega
      have ha1 : ¬ a = 0 := by omega
      have q1 : IntKind.i64.wrap ((n : Int) / (a : Int)) = ((n / a : Nat) : Int) := by
        have hq := Nat.div_le_self n a
        rw [← Int.natCast_ediv]
        generalize n / a = q at hq
        exact IntWalk.i64_in _ (by omega)
      have q2 : IntKind.i64.wrap ((d : Int) / (a : Int)) = ((d / a : Nat) : Int) := by
        have hq := Nat.div_le_self d a
        rw [← Int.natCast_ediv]
        generalize d / a = q at hq
        exact IntWalk.i64_in _ (by omega)
      go_wp2_with fail
      refine wp_region_RS Bel 7 (fun W => Below w.heap.size w W ∧ W.heap[w.heap.size]? = some (.cells #[.int .i64 0, .int .i64 0] 44)) (by kernel_rfl) ⟨hB.drew, HK.out⟩ ?_
      rintro W1 ⟨hB1, hK1⟩
      have k0 := blk_cell hK1 0 rfl
      have k1 := blk_cell hK1 1 rfl
      have f0 := blk_free hK1 0
      have f1 := blk_free hK1 1
      clear hK1
      -- region 4 of function 164: 8 operations, sink 7
      refine takeR bel_chains 0 (by simp only [List.getElem?_toArray, List.getElem?_cons_succ, List.getElem?_cons_zero]; rfl) (by kernel_rfl) (by exact fun _ _ _ h => h) (by rfl) (v := ?_) ?_ ?_; rotate_left; (intro w2 hR; go_simp; first | done | rfl | rw [if_pos (by omega)]) -- Op.move (Operand.tmp 0)
      try simp only [Act.put, List.setIfInBounds_toArray, List.set_cons_zero, List.set_cons_succ]
      refine takeR bel_chains 1 (by simp only [List.getElem?_toArray, List.getElem?_cons_succ, List.getElem?_cons_zero]; rfl) (by kernel_rfl) (by exact fun _ _ _ h => h) (by rfl) (v := ?_) ?_ ?_; rotate_left; (intro w2 hR; go_simp; first | done | rfl | rw [if_pos (by omega)]) -- Op.move (Operand.tmp 5)
      try simp only [Act.put, List.setIfInBounds_toArray, List.set_cons_zero, List.set_cons_succ]
      refine takeR bel_chains 2 (by simp only [List.getElem?_toArray, List.getElem?_cons_succ, List.getElem?_cons_zero]; rfl) (by kernel_rfl) (by exact fun _ _ _ h => h) (by rfl) (v := ?_) ?_ ?_; rotate_left; (intro w2 hR; go_simp; first | done | rfl | rw [if_pos (by omega)]) -- Op.binOp BinOp.quo 3 (Operand.tmp 18) (Operand.tmp 19) 3
      try simp only [Act.put, List.setIfInBounds_toArray, List.set_cons_zero, List.set_cons_succ]
      refine takeR bel_chains 3 (by simp only [List.getElem?_toArray, List.getElem?_cons_succ, List.getElem?_cons_zero]; rfl) (by kernel_rfl) (by exact fun _ _ _ h => h) (by rfl) (v := ?_) ?_ ?_; rotate_left; (intro w2 hR; go_simp; first | done | rfl | rw [if_pos (by omega)]) -- Op.move (Operand.tmp 1)
      try simp only [Act.put, List.setIfInBounds_toArray, List.set_cons_zero, List.set_cons_succ]
      refine takeR bel_chains 4 (by simp only [List.getElem?_toArray, List.getElem?_cons_succ, List.getElem?_cons_zero]; rfl) (by kernel_rfl) (by exact fun _ _ _ h => h) (by rfl) (v := ?_) ?_ ?_; rotate_left; (intro w2 hR; go_simp; first | done | rfl | rw [if_pos (by omega)]) -- Op.move (Operand.tmp 5)
      try simp only [Act.put, List.setIfInBounds_toArray, List.set_cons_zero, List.set_cons_succ]
      refine takeR bel_chains 5 (by simp only [List.getElem?_toArray, List.getElem?_cons_succ, List.getElem?_cons_zero]; rfl) (by kernel_rfl) (by exact fun _ _ _ h => h) (by rfl) (v := ?_) ?_ ?_; rotate_left; (intro w2 hR; go_simp; first | done | rfl | rw [if_pos (by omega)]) -- Op.binOp BinOp.quo 3 (Operand.tmp 21) (Operand.tmp 22) 3
      try simp only [Act.put, List.setIfInBounds_toArray, List.set_cons_zero, List.set_cons_succ]
      refine takeR bel_chains 6 (by simp only [List.getElem?_toArray, List.getElem?_cons_succ, List.getElem?_cons_zero]; rfl) (by kernel_rfl) (by exact fun _ _ _ h => h) (by rfl) (v := ?_) ?_ ?_; rotate_left; (intro w2 hR; go_simp; first | done | rfl | rw [if_pos (by omega)]) -- Op.build 44 #[(0, Operand.tmp 20), (1, Operand.tmp 23)]
      try simp only [Act.put, List.setIfInBounds_toArray, List.set_cons_zero, List.set_cons_succ]
      -- 7: load.go:52 Op.store 44 (Operand.tmp 4) (Operand.tmp 24) -> None  guard none   READY [7]
      refine onlyR 7 (by simp only [List.getElem?_toArray, List.getElem?_cons_succ, List.getElem?_cons_zero]; rfl) (by kernel_rfl) rfl ?_
      intro K hK
      go_wp2_with fail
      refine hK.out _ _ (.inl (by simp)) ?_
      clear hK K
      try simp only [Act.put, List.setIfInBounds_toArray, List.set_cons_zero, List.set_cons_succ]
      refine wpR_done (by kernel_rfl) ?_ _
      have HE : Hid (Nat.gcd n d = a) := by show _ = _; have := HG.out; rw [Nat.gcd_zero_right] at this; exact this.symm
      go_wp2
      refine bodyPost_ret (v := .agg #[.int .i64 (n / a : Nat), .int .i64 (d / a : Nat)]) (by simp [results, Tryz.results164, go_sem, k0, k1]) rfl ⟨by rw [HE.out], ?_⟩
      exact (hB1.setCell (Nat.le_refl _) _).setCell (Nat.le_refl _) _

/-- A ratio in lowest terms. -/
def ratF (n d : Nat) : Int × Int := ((n / Nat.gcd n d : Nat), (d / Nat.gcd n d : Nat))
theorem ratioOf_any (n d : Nat) (w : World) (hn : n ≤ 100000000000000000) (hd : 1 ≤ d) (hd' : d ≤ 100000000000000000) :
    Calls Tryz.prog 129 #[.int .i64 n, .int .i64 d] w fun e w' => e = .returned (.agg #[.int .i64 (ratF n d).1, .int .i64 (ratF n d).2]) ∧ Below w.heap.size w w' := by
  have H := Lib.hid (fun W => ratio_any n d W hn hd hd')
  clear hn hd hd'
  go_enter Tryz.func129, Tryz.ntmps129
  go_wp2_with fail
  refine (H.out _).mono ?_
  rintro e w1 ⟨rfl, hb1⟩
  have k0 := new_cell hb1 0 rfl
  have k1 := new_cell hb1 1 rfl
  have hblk := blk_keep (blk_new w (.cells #[.int .i64 0, .int .i64 0] 44)) hb1
  have f0 := blk_free hblk 0
  have f1 := blk_free hblk 1
  clear hblk
  go_wp2_with fail
  refine bodyPost_ret (v := .agg #[.int .i64 (n / Nat.gcd n d : Nat), .int .i64 (d / Nat.gcd n d : Nat)]) (by simp [results, Tryz.results129, go_sem, k0, k1]) rfl ⟨rfl, ?_⟩
  exact ((below_trans (below_alloc (below_refl w) _) hb1).setCell (Nat.le_refl _) _).setCell (Nat.le_refl _) _

theorem enters117 (f : Nat) (hf : 1 ≤ f) (hf' : f ≤ 7) : Enters Tryz.prog (116 + f) := numEnters f hf hf'
end Go.Proofs.YtbdbmpmijmmbeaaGreatDoor
