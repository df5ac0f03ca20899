/- TopGroupsAsked: the walk. -/
import Derived.Test.YtbdbmpmijmmbeaaGreatDoorLaw1
import Derived.Deep.Cut
import Derived.Test.YtbdbmpmijmmbeaaGreatDoorRegT
import Derived.Test.YtbdbmpmijmmbeaaGreatDoorWkU
import Derived.Deep.CutBlock
namespace Go.Proofs.YtbdbmpmijmmbeaaGreatDoor
open Go.RowKit

theorem groups_choose {p : Nat → Prop} {w : World} {l : List Gp} {t : Sl} (h : GroupsAt p w l t) : t.n = l.length ∧ t.n ≤ t.c ∧ t.c ≤ maxLen ∧
    ∀ i g, l[i]? = some g → ∃ b off u, t.a = some ⟨b, off, none⟩ ∧ p b ∧ ThreeAt w b (off + i * 3) g u ∧ TwosAt p w g.told u := by
  cases h with
  | nil => exact ⟨rfl, Nat.le_refl _, Nat.zero_le _, fun i x h => by simp at h⟩
  | row xs b off cap hp hn hc hR =>
    refine ⟨rfl, hn, hc, fun i g hg => ?_⟩
    obtain ⟨u, h1, h2⟩ := hR i g hg
    exact ⟨b, off, u, rfl, hp, h1, h2⟩

theorem set_blk {w : World} {b : Nat} {cs : Array Value} {T : TypeId} {fr : Nat × Nat} (h : w.heap[b]? = some (.cells cs T fr)) (o : Nat) (v : Value) : (w.setCell ⟨b, o, none⟩ v).heap[b]? = some (.cells (cs.setIfInBounds o v) T fr) := by
  rw [setCell_obj h]; exact setObj_same (blk_lt h)
/-- A condition laid over another one, cell by cell. -/
theorem more_set {w W4 W5 : World} {b : Nat} {k f l h : Int} {t : ByteArray} (hm : W5.heap[b]? = some (.cells #[.int .i64 k, .int .i64 f, .int .i64 l, .int .i64 h, .string t, .slice none 0 0] 24)) (hB : Below w.heap.size w W5) (hb : w.heap.size ≤ b) (hk : ∀ c, c < b → W5.heap[c]? = W4.heap[c]?) (k' f' l' h' : Int) (t' : ByteArray) :
    (fun W6 : World => Below w.heap.size w W6 ∧ b < W6.heap.size ∧ (∀ c, c < b → W6.heap[c]? = W4.heap[c]?) ∧ W6.heap[b]? = some (.cells #[.int .i64 k', .int .i64 f', .int .i64 l', .int .i64 h', .string t', .slice none 0 0] 24))
      ((((((W5.setCell ⟨b, 0, none⟩ (.int .i64 k')).setCell ⟨b, 1, none⟩ (.int .i64 f')).setCell ⟨b, 2, none⟩ (.int .i64 l')).setCell ⟨b, 3, none⟩ (.int .i64 h')).setCell ⟨b, 4, none⟩ (.string t')).setCell ⟨b, 5, none⟩ (.slice none 0 0)) := by
  have h6 := set_blk (set_blk (set_blk (set_blk (set_blk (set_blk hm 0 (.int .i64 k')) 1 (.int .i64 f')) 2 (.int .i64 l')) 3 (.int .i64 h')) 4 (.string t')) 5 (.slice none 0 0)
  refine ⟨?_, blk_lt h6, fun c hc => ?_, h6⟩
  · repeat refine below_set ?_ hb _
    exact hB
  · simp only [setCell_other _ _ _ (by omega : c ≠ b)]
    exact hk c hc
theorem key_bound {g : Int} {r : Rw} {k : Ky} (h : chkRow r = 0) (hk : k ∈ keysF g r) : 0 ≤ k.1 ∧ k.1 ≤ 86399999999 := by
  obtain ⟨h1, h2⟩ := row_parts h
  simp only [inB, Bool.and_eq_true, decide_eq_true_eq] at h1 h2
  unfold keysF at hk
  split at hk
  · simp at hk; subst hk; simp
  split at hk
  · simp at hk; subst hk; simp; omega
  split at hk
  · simp at hk; subst hk; simp; omega
  split at hk
  · simp at hk; subst hk; simp; omega
  · obtain ⟨t, _, rfl⟩ := List.mem_map.1 hk; simp
/-- A group of an answer: its key. -/
theorem ans_key {q : Qy} {rows : List Rw} (hz : chkAns q rows = 0) {g : Gp} (hg : g ∈ ansF q rows) : ∃ k, k ∈ keysR q rows ∧ g = gpR q rows k ∧ 0 ≤ k.1 ∧ k.1 ≤ 86399999999 := by
  unfold ansF at hg
  rw [if_pos hz] at hg
  unfold answerR at hg
  obtain ⟨k, hk, rfl⟩ := List.mem_map.1 hg
  have hk2 := List.mem_mergeSort.1 hk
  obtain ⟨r, hr, _, hkr⟩ := mem_keysR.1 hk2
  exact ⟨k, hk2, rfl, key_bound ((chkRows_zero (or2_zero hz).2).2.1 r hr) hkr⟩
theorem more_text_le {q : Qy} {rows : List Rw} {k : Ky} (hz : chkAns q rows = 0) (hk : k ∈ keysR q rows) : (moreC q.group k).text.size ≤ maxLen := by
  obtain ⟨r, hr, _, hkr⟩ := mem_keysR.1 hk
  have h0 := (chkRows_zero (or2_zero hz).2).2.1 r hr
  unfold moreC
  split; exact Nat.zero_le _
  split; exact Nat.zero_le _
  split; exact Nat.zero_le _
  split
  · rename_i h1 h2 h3 h4
    rw [h4] at hkr
    simp [keysF] at hkr
    obtain ⟨t, ht, rfl⟩ := hkr
    have := tags_names (row_tags h0).2 t ht
    unfold isNameB at this
    simp only [Bool.and_eq_true, decide_eq_true_eq] at this
    show t.size ≤ maxLen
    unfold maxLen; omega
  · exact Nat.zero_le _
theorem more_kids (g : Int) (k : Ky) : (moreC g k).kids = [] := by
  unfold moreC; split; rfl; split; rfl; split; rfl; split <;> rfl
theorem pick_bound (x : Int) (n : Nat) (h : 0 < n) (h' : n ≤ 9223372036854775807) : ∃ i : Nat, pickN x n = i ∧ i < n := by
  obtain ⟨h1, h2⟩ := pickN_lt x n (by omega) (by omega)
  exact ⟨(pickN x n).toNat, by omega, by omega⟩

set_option maxRecDepth 100000 in
set_option maxHeartbeats 4000000 in
theorem top1_walk {q : Qy} {rows : List Rw} {pick : Int} {s u t : Sl} {w : World} {p : Nat → Prop} {m : Int} (hc : CondAt p w q.whr s) (ht : TwosAt p w q.tells u) (hr : RowsAt p w rows t)
    (hp : ∀ b, p b → b < w.heap.size) (hm : w.cell? ⟨0, 0, none⟩ = some (.int .i64 m)) (hn : q.whr.parts ≤ 1900000) :
    Calls Tryz.prog 3 #[q.val s u, .slice t.a t.n t.c, .int .i64 pick] w fun e w' => e = .returned (.bool true) ∧ Below w.heap.size w w' := by
  have H15 := Lib.hid (fun W => printCond_all W)
  have H16 := Lib.hid (fun W (hB : Below w.heap.size w W) => answer16_any (hc.to hp hB) (ht.to hp hB) (hr.to hp hB) (below_size hB hp) (bel_cell hm hB) (by omega : q.whr.parts ≤ 2000000))
  have HC := Lib.hid hc
  have HT := Lib.hid ht
  have HR := Lib.hid hr
  have HM := Lib.hid hm
  clear hc ht hr hm
  go_enter Tryz.func3, Tryz.ntmps3
  go_wp2_with fail
  refine (H15.out _).mono ?_
  rintro e W1 ⟨rfl, hb1⟩
  unfold allText
  have hB1 := below_trans (below_alloc (below_refl w) _) hb1
  have hq1 := blk_keep (blk_new w (.cells #[.int .i64 q.whr.kind, .int .i64 q.whr.field, .int .i64 q.whr.low, .int .i64 q.whr.high, .string q.whr.text, .slice s.a s.n s.c, .int .i64 q.group, .slice u.a u.n u.c] 27)) hb1
  have c0 := blk_cell hq1 0 rfl
  have c1 := blk_cell hq1 1 rfl
  have c2 := blk_cell hq1 2 rfl
  have c3 := blk_cell hq1 3 rfl
  have c4 := blk_cell hq1 4 rfl
  have c5 := blk_cell hq1 5 rfl
  have c6 := blk_cell hq1 6 rfl
  have c7 := blk_cell hq1 7 rfl
  have HQ1 := Lib.hid hq1
  clear hq1 hb1
  go_wp2_with fail
  refine (H16.out _ hB1).mono ?_
  rintro e W2 ⟨v, rfl, hg, hb2⟩
  have hB2 := below_trans hB1 hb2
  have HQ2 := Lib.hid (blk_keep HQ1.out hb2)
  have HG := Lib.hid hg
  clear hg c0 c1 c2 c3 c4 c5 c6 c7
  by_cases hz : chkAns q rows = 0
  · obtain ⟨g1, g2, g3, g4⟩ := groups_choose HG.out
    have hans : ansF q rows = answerR q rows := by unfold ansF; rw [if_pos hz]
    obtain ⟨va, vn, vc⟩ := v
    dsimp only at g1 g2 g3 g4
    rw [hz]
    by_cases he : vn = 0
    · subst he
      have HZ := Lib.hid hz
      clear hz hans g1 g2 g3 g4
      go_wp2_with fail
      go_ret
      exact ⟨rfl, hB2⟩
    · have hpk := pick_bound pick vn (by omega) (by unfold maxLen at g3; omega)
      have HZ := Lib.hid hz
      have HA := Lib.hid hans
      have HG1 := Lib.hid g1
      clear hz hans g1
      have hvn : (vn : Int) ≤ 9223372036854775807 := by unfold maxLen at g3; omega
      have hv1 : (1 : Int) ≤ vn := by omega
      have hv0 : ¬ (vn : Int) = 0 := by omega
      have hv2 : ((vn : Int) == 0) = false := by rw [beq_eq_false_iff_ne]; omega
      obtain ⟨i, hi, hin⟩ := hpk
      have HI := Lib.hid hi
      obtain ⟨g, hgi⟩ : ∃ g, (ansF q rows)[i]? = some g := ⟨_, List.getElem?_eq_getElem (by rw [← HG1.out]; exact hin)⟩
      obtain ⟨gb, go, gu, rfl, hgb, h3, hgt⟩ := g4 i g hgi
      obtain ⟨d0, d1, d2⟩ := h3
      obtain ⟨k, hkk, hgk, hkb0, hkb1⟩ := ans_key HZ.out (List.mem_of_getElem? hgi)
      have hgn0 : 0 ≤ g.number := by rw [hgk]; exact hkb0
      have hgn1 : g.number ≤ 86399999999 := by rw [hgk]; exact hkb1
      have HGK := Lib.hid hgk
      clear hgk
      have HGI := Lib.hid hgi
      have HGT := Lib.hid hgt
      clear hgi hgt g4
      go_wp2_with fail
      refine (wPick_any pick vn _ hv1 hvn).mono ?_
      rintro e W3 ⟨rfl, rfl⟩
      rw [HI.out]
      have hgbw := hgb.2
      go_wp2_with fail
      refine (wOf_any _ _ _ _ _).mono ?_
      rintro e W4 ⟨rfl, hb4⟩
      have hB3 := below_alloc hB2 (.cells #[.int .i64 g.number, .string g.text, .slice gu.a gu.n gu.c] 37)
      have hB4 := below_trans hB3 hb4
      have HQ4 := Lib.hid (blk_keep (blk_alloc HQ2.out (.cells #[.int .i64 g.number, .string g.text, .slice gu.a gu.n gu.c] 37)) hb4)
      have HG4 := Lib.hid (blk_keep (blk_new W2 (.cells #[.int .i64 g.number, .string g.text, .slice gu.a gu.n gu.c] 37)) hb4)
      have q6 := blk_cell HQ4.out 6 rfl
      have g0 := blk_cell HG4.out 0 rfl
      have g1' := blk_cell HG4.out 1 rfl
      have hq4 := blk_lt HQ4.out
      have hg4 := blk_lt HG4.out
      go_upto_block 0 with fail
      go_cut [] from 16 (fun wx => Below w.heap.size w wx ∧ W4.heap.size < wx.heap.size ∧ (∀ c, c < W4.heap.size → wx.heap[c]? = W4.heap[c]?) ∧ wx.heap[W4.heap.size]? = some (.cells #[.int .i64 (moreC q.group (g.number, g.text)).kind, .int .i64 (moreC q.group (g.number, g.text)).field, .int .i64 (moreC q.group (g.number, g.text)).low, .int .i64 (moreC q.group (g.number, g.text)).high, .string (moreC q.group (g.number, g.text)).text, .slice none 0 0] 24))
      case first =>
        rcases (by omega : q.group = 1 ∨ q.group = 2 ∨ q.group = 3 ∨ q.group = 4 ∨ (q.group ≠ 1 ∧ q.group ≠ 2 ∧ q.group ≠ 3 ∧ q.group ≠ 4)) with e | e | e | e | e
        · have HM2 := Lib.hid (show moreC q.group (g.number, g.text) = .mk 7 2 g.number (g.number) ⟨#[]⟩ [] by unfold moreC; simp [e])
          have eb1 : (q.group == 1) = true := by rw [beq_iff_eq]; omega
          clear e
          go_wp2_with fail
          refine (days_any _ _ _).mono ?_
          rintro e5 W5 ⟨rfl, hb5⟩
          have hm5 := blk_keep (blk_new W4 (.cells #[.int .i64 1, .int .i64 0, .int .i64 0, .int .i64 0, .string ⟨#[]⟩, .slice none 0 0] 24)) hb5
          have m0 := blk_cell hm5 0 rfl
          have m1 := blk_cell hm5 1 rfl
          have m2 := blk_cell hm5 2 rfl
          have m3 := blk_cell hm5 3 rfl
          have m4 := blk_cell hm5 4 rfl
          have m5 := blk_cell hm5 5 rfl
          have f0 := blk_free hm5 0
          have f1 := blk_free hm5 1
          have f2 := blk_free hm5 2
          have f3 := blk_free hm5 3
          have f4 := blk_free hm5 4
          have f5 := blk_free hm5 5
          have HM5 := Lib.hid hm5
          clear hm5
          go_wp2_with fail
          go_meet
          case rel =>
            rw [HM2.out]
            exact more_set HM5.out (below_trans (below_alloc hB4 _) hb5) (by have := hB4.size; omega) (fun c hc => (hb5.block c (by rw [World.size_alloc]; omega)).trans (heap_alloc_old _ _ hc)) 7 2 g.number (g.number) ⟨#[]⟩
        · have HM2 := Lib.hid (show moreC q.group (g.number, g.text) = .mk 7 2 g.number (g.number + 6) ⟨#[]⟩ [] by unfold moreC; simp [e])
          have eb1 : (q.group == 1) = false := by rw [beq_eq_false_iff_ne]; omega
          have eb2 : (q.group == 2) = true := by rw [beq_iff_eq]; omega
          clear e
          go_wp2_with fail
          refine (days_any _ _ _).mono ?_
          rintro e5 W5 ⟨rfl, hb5⟩
          have hm5 := blk_keep (blk_new W4 (.cells #[.int .i64 1, .int .i64 0, .int .i64 0, .int .i64 0, .string ⟨#[]⟩, .slice none 0 0] 24)) hb5
          have m0 := blk_cell hm5 0 rfl
          have m1 := blk_cell hm5 1 rfl
          have m2 := blk_cell hm5 2 rfl
          have m3 := blk_cell hm5 3 rfl
          have m4 := blk_cell hm5 4 rfl
          have m5 := blk_cell hm5 5 rfl
          have f0 := blk_free hm5 0
          have f1 := blk_free hm5 1
          have f2 := blk_free hm5 2
          have f3 := blk_free hm5 3
          have f4 := blk_free hm5 4
          have f5 := blk_free hm5 5
          have HM5 := Lib.hid hm5
          clear hm5
          go_wp2_with fail
          go_meet
          case rel =>
            rw [HM2.out]
            exact more_set HM5.out (below_trans (below_alloc hB4 _) hb5) (by have := hB4.size; omega) (fun c hc => (hb5.block c (by rw [World.size_alloc]; omega)).trans (heap_alloc_old _ _ hc)) 7 2 g.number (g.number + 6) ⟨#[]⟩
        · have HM2 := Lib.hid (show moreC q.group (g.number, g.text) = .mk 4 0 g.number 0 ⟨#[]⟩ [] by unfold moreC; simp [e])
          have eb1 : (q.group == 1) = false := by rw [beq_eq_false_iff_ne]; omega
          have eb2 : (q.group == 2) = false := by rw [beq_eq_false_iff_ne]; omega
          have eb3 : (q.group == 3) = true := by rw [beq_iff_eq]; omega
          clear e
          go_wp2_with fail
          go_meet
          case rel =>
            rw [HM2.out]
            exact ⟨below_alloc hB4 _, by simp, fun c hc => heap_alloc_old _ _ hc, blk_new W4 _⟩
        · have HM2 := Lib.hid (show moreC q.group (g.number, g.text) = .mk 5 0 0 0 g.text [] by unfold moreC; simp [e])
          have eb1 : (q.group == 1) = false := by rw [beq_eq_false_iff_ne]; omega
          have eb2 : (q.group == 2) = false := by rw [beq_eq_false_iff_ne]; omega
          have eb3 : (q.group == 3) = false := by rw [beq_eq_false_iff_ne]; omega
          have eb4 : (q.group == 4) = true := by rw [beq_iff_eq]; omega
          clear e
          go_wp2_with fail
          go_meet
          case rel =>
            rw [HM2.out]
            exact ⟨below_alloc hB4 _, by simp, fun c hc => heap_alloc_old _ _ hc, blk_new W4 _⟩
        · have HM2 := Lib.hid (show moreC q.group (g.number, g.text) = .mk 1 0 0 0 ⟨#[]⟩ [] by unfold moreC; simp [e])
          have eb1 : (q.group == 1) = false := by rw [beq_eq_false_iff_ne]; omega
          have eb2 : (q.group == 2) = false := by rw [beq_eq_false_iff_ne]; omega
          have eb3 : (q.group == 3) = false := by rw [beq_eq_false_iff_ne]; omega
          have eb4 : (q.group == 4) = false := by rw [beq_eq_false_iff_ne]; omega
          clear e
          go_wp2_with fail
          go_meet
          case rel =>
            rw [HM2.out]
            exact ⟨below_alloc hB4 _, by simp, fun c hc => heap_alloc_old _ _ hc, blk_new W4 _⟩
      case rest =>
        obtain ⟨hBx, hsx, hkx, hmx⟩ := hcut
        have hq5 := (hkx _ hq4).trans HQ4.out
        have hg5 := (hkx _ hg4).trans HG4.out
        have HQ5 := Lib.hid hq5
        have HG5 := Lib.hid hg5
        have HMX := Lib.hid hmx
        have HKX := Lib.hid hkx
        clear hq5 hg5 hmx hkx q6 g0 g1' d0 d1 d2
        go_upto_region 19 with fail
        go_cut [14] from 16 (fun vp W => ∃ (P kb : Nat), vp = .pointer (some ⟨P, 0, none⟩) ∧ Below w.heap.size w W ∧ W.heap[P]? = some (.cells #[.int .i64 1, .int .i64 0, .int .i64 0, .int .i64 0, .string ⟨#[]⟩, .slice (some ⟨kb, 0, none⟩) 2 2, .int .i64 0, .slice u.a u.n u.c] 27) ∧ CondAt (fun b => w.heap.size ≤ b ∧ b < W.heap.size) W (.mk 1 0 0 0 ⟨#[]⟩ [q.whr, moreC q.group (g.number, g.text)]) ⟨some ⟨kb, 0, none⟩, 2, 2⟩ ∧ ∀ c, c < W4.heap.size → W.heap[c]? = wc.heap[c]?)
        case first =>
          refine wp_region_RS Bel 10 (fun W => Bel wc W) (by kernel_rfl) (below_refl wc).drew ?_
          intro V0 hb5
          have BV0 := below_trans hBx hb5
          have hwc := hb5.size
          have hmt : (moreC q.group (g.number, g.text)).text.size ≤ maxLen   := by
            rw [show (g.number, g.text) = k from by rw [HGK.out]; rfl]; exact more_text_le HZ.out hkk
          have hq5 := blk_keep HQ5.out hb5
          have hm5 := blk_keep HMX.out hb5
          have k0 := blk_cell hq5 0 rfl
          have k1 := blk_cell hq5 1 rfl
          have k2 := blk_cell hq5 2 rfl
          have k3 := blk_cell hq5 3 rfl
          have k4 := blk_cell hq5 4 rfl
          have k5 := blk_cell hq5 5 rfl
          have k7 := blk_cell hq5 7 rfl
          have m0 := blk_cell hm5 0 rfl
          have m1 := blk_cell hm5 1 rfl
          have m2 := blk_cell hm5 2 rfl
          have m3 := blk_cell hm5 3 rfl
          have m4 := blk_cell hm5 4 rfl
          have m5 := blk_cell hm5 5 rfl
          -- region 19 of function 3: 11 operations, sink 10
          refine takeR bel_chains 0 (by simp only [List.getElem?_toArray, List.getElem?_cons_succ, List.getElem?_cons_zero]; rfl) (by kernel_rfl) (by exact fun _ _ _ h => h) (by rfl) (v := ?_) ?_ ?_; rotate_left; (intro w2 hR; go_simp; first | done | rfl | rw [if_pos (by omega)]) -- Op.fieldAddr 27 (Operand.tmp 3) 0
          try simp only [Act.put, List.setIfInBounds_toArray, List.set_cons_zero, List.set_cons_succ]
          refine takeR bel_chains 1 (by simp only [List.getElem?_toArray, List.getElem?_cons_succ, List.getElem?_cons_zero]; rfl) (by kernel_rfl) (by exact fun _ _ _ h => h) (by rfl) (v := ?_) ?_ ?_; rotate_left; (intro w2 hR; have d0 := bel_cell k0 hR; have d1 := bel_cell k1 hR; have d2 := bel_cell k2 hR; have d3 := bel_cell k3 hR; have d4 := bel_cell k4 hR; have d5 := bel_cell k5 hR; have d6 := bel_cell k7 hR; have d7 := bel_cell m0 hR; have d8 := bel_cell m1 hR; have d9 := bel_cell m2 hR; have d10 := bel_cell m3 hR; have d11 := bel_cell m4 hR; have d12 := bel_cell m5 hR; go_simp; first | done | rfl | rw [if_pos (by omega)]) -- Op.load 24 (Operand.tmp 77)
          try simp only [Act.put, List.setIfInBounds_toArray, List.set_cons_zero, List.set_cons_succ]
          refine takeR bel_chains 3 (by simp only [List.getElem?_toArray, List.getElem?_cons_succ, List.getElem?_cons_zero]; rfl) (by kernel_rfl) (by exact fun _ _ _ h => h) (by rfl) (v := ?_) ?_ ?_; rotate_left; (intro w2 hR; have d0 := bel_cell k0 hR; have d1 := bel_cell k1 hR; have d2 := bel_cell k2 hR; have d3 := bel_cell k3 hR; have d4 := bel_cell k4 hR; have d5 := bel_cell k5 hR; have d6 := bel_cell k7 hR; have d7 := bel_cell m0 hR; have d8 := bel_cell m1 hR; have d9 := bel_cell m2 hR; have d10 := bel_cell m3 hR; have d11 := bel_cell m4 hR; have d12 := bel_cell m5 hR; go_simp; first | done | rfl | rw [if_pos (by omega)]) -- Op.load 24 (Operand.tmp 13)
          try simp only [Act.put, List.setIfInBounds_toArray, List.set_cons_zero, List.set_cons_succ]
          refine takeR bel_chains 6 (by simp only [List.getElem?_toArray, List.getElem?_cons_succ, List.getElem?_cons_zero]; rfl) (by kernel_rfl) (by exact fun _ _ _ h => h) (by rfl) (v := ?_) ?_ ?_; rotate_left; (intro w2 hR; go_simp; first | done | rfl | rw [if_pos (by omega)]) -- Op.fieldAddr 27 (Operand.tmp 3) 2
          try simp only [Act.put, List.setIfInBounds_toArray, List.set_cons_zero, List.set_cons_succ]
          refine takeR bel_chains 7 (by simp only [List.getElem?_toArray, List.getElem?_cons_succ, List.getElem?_cons_zero]; rfl) (by kernel_rfl) (by exact fun _ _ _ h => h) (by rfl) (v := ?_) ?_ ?_; rotate_left; (intro w2 hR; have d0 := bel_cell k0 hR; have d1 := bel_cell k1 hR; have d2 := bel_cell k2 hR; have d3 := bel_cell k3 hR; have d4 := bel_cell k4 hR; have d5 := bel_cell k5 hR; have d6 := bel_cell k7 hR; have d7 := bel_cell m0 hR; have d8 := bel_cell m1 hR; have d9 := bel_cell m2 hR; have d10 := bel_cell m3 hR; have d11 := bel_cell m4 hR; have d12 := bel_cell m5 hR; go_simp; first | done | rfl | rw [if_pos (by omega)]) -- Op.load 25 (Operand.tmp 83)
          try simp only [Act.put, List.setIfInBounds_toArray, List.set_cons_zero, List.set_cons_succ]
          refine twoR 2 9 (by simp only [List.getElem?_toArray, List.getElem?_cons_succ, List.getElem?_cons_zero]; rfl) (by simp only [List.getElem?_toArray, List.getElem?_cons_succ, List.getElem?_cons_zero]; rfl) (by kernel_rfl) rfl rfl ?_ ?_
          · -- 2: Op.call { callee := Callee.value (Operand.func 20), args := #[Operand.tmp 78], argTypes := #[24] } READY [2, 9]
            intro K hK
            go_wp2_with fail
            refine (wCond_n q.whr.parts q.whr s V0 p (Nat.le_refl _) (by omega) (HC.out.to hp BV0) (below_size BV0 hp)).mono ?_
            rintro e V1 ⟨s6, rfl, hc6, hb1⟩
            have BV1 := below_trans BV0 hb1
            go_wp2_with fail
            refine hK.out _ _ (.inr (hb1)) ?_
            clear hK K
            try simp only [Act.put, List.setIfInBounds_toArray, List.set_cons_zero, List.set_cons_succ]
            refine twoR 4 9 (by simp only [List.getElem?_toArray, List.getElem?_cons_succ, List.getElem?_cons_zero]; rfl) (by simp only [List.getElem?_toArray, List.getElem?_cons_succ, List.getElem?_cons_zero]; rfl) (by kernel_rfl) rfl rfl ?_ ?_
            · -- 4: Op.buildSlice 22 2 #[(0, Operand.tmp 79), (1, Operand.tmp 80)] READY [4, 9]
              intro K hK
              go_wp2_with fail
              refine hK.out _ _ (.inr (below_alloc (below_refl V1) _)) ?_
              clear hK K
              try simp only [Act.put, List.setIfInBounds_toArray, List.set_cons_zero, List.set_cons_succ]
              have hb2 := below_alloc (below_refl V1) (.cells #[.int .i64 q.whr.kind, .int .i64 q.whr.field, .int .i64 q.whr.low, .int .i64 q.whr.high, .string q.whr.text, .slice s6.a s6.n s6.c, .int .i64 (moreC q.group (g.number, g.text)).kind, .int .i64 (moreC q.group (g.number, g.text)).field, .int .i64 (moreC q.group (g.number, g.text)).low, .int .i64 (moreC q.group (g.number, g.text)).high, .string (moreC q.group (g.number, g.text)).text, .slice none 0 0] 24)
              have hk12 := blk_new V1 (.cells #[.int .i64 q.whr.kind, .int .i64 q.whr.field, .int .i64 q.whr.low, .int .i64 q.whr.high, .string q.whr.text, .slice s6.a s6.n s6.c, .int .i64 (moreC q.group (g.number, g.text)).kind, .int .i64 (moreC q.group (g.number, g.text)).field, .int .i64 (moreC q.group (g.number, g.text)).low, .int .i64 (moreC q.group (g.number, g.text)).high, .string (moreC q.group (g.number, g.text)).text, .slice none 0 0] 24)
              have BV2 := below_trans BV1 hb2
              generalize hW2 : World.alloc V1 (.cells #[.int .i64 q.whr.kind, .int .i64 q.whr.field, .int .i64 q.whr.low, .int .i64 q.whr.high, .string q.whr.text, .slice s6.a s6.n s6.c, .int .i64 (moreC q.group (g.number, g.text)).kind, .int .i64 (moreC q.group (g.number, g.text)).field, .int .i64 (moreC q.group (g.number, g.text)).low, .int .i64 (moreC q.group (g.number, g.text)).high, .string (moreC q.group (g.number, g.text)).text, .slice none 0 0] 24) = V2 at hb2 hk12 BV2 ⊢
              clear hW2
              refine twoR 5 9 (by simp only [List.getElem?_toArray, List.getElem?_cons_succ, List.getElem?_cons_zero]; rfl) (by simp only [List.getElem?_toArray, List.getElem?_cons_succ, List.getElem?_cons_zero]; rfl) (by kernel_rfl) rfl rfl ?_ ?_
              · -- 5: Op.call { callee := Callee.value (Operand.func 19), args := #[Operand.const (Value.int IntKind.i64 1), Operand.tmp 81], argTypes := #[3, 22] } READY [5, 9]
                intro K hK
                go_wp2_with fail
                refine (wOf_any _ _ _ _ _).mono ?_
                rintro e V3 ⟨rfl, hb3⟩
                have BV3 := below_trans BV2 hb3
                go_wp2_with fail
                refine hK.out _ _ (.inr (hb3)) ?_
                clear hK K
                try simp only [Act.put, List.setIfInBounds_toArray, List.set_cons_zero, List.set_cons_succ]
                refine takeR bel_chains 8 (by simp only [List.getElem?_toArray, List.getElem?_cons_succ, List.getElem?_cons_zero]; rfl) (by kernel_rfl) (by exact fun _ _ _ h => h) (by rfl) (v := ?_) ?_ ?_; rotate_left; (intro w2 hR; go_simp; first | done | rfl | rw [if_pos (by omega)]) -- Op.build 27 #[(0, Operand.tmp 82), (2, Operand.tmp 84)]
                try simp only [Act.put, List.setIfInBounds_toArray, List.set_cons_zero, List.set_cons_succ]
                -- 9: Op.alloc 27 READY [9]
                refine onlyR 9 (by simp only [List.getElem?_toArray, List.getElem?_cons_succ, List.getElem?_cons_zero]; rfl) (by kernel_rfl) rfl ?_
                intro K hK
                go_wp2_with fail
                refine hK.out _ _ (.inr (below_alloc (below_refl V3) _)) ?_
                clear hK K
                try simp only [Act.put, List.setIfInBounds_toArray, List.set_cons_zero, List.set_cons_succ]
                have hb4 := below_alloc (below_refl V3) (.cells #[.int .i64 0, .int .i64 0, .int .i64 0, .int .i64 0, .string ⟨#[]⟩, .slice none 0 0, .int .i64 0, .slice none 0 0] 27)
                have hpb := blk_new V3 (.cells #[.int .i64 0, .int .i64 0, .int .i64 0, .int .i64 0, .string ⟨#[]⟩, .slice none 0 0, .int .i64 0, .slice none 0 0] 27)
                have BV4 := below_trans BV3 hb4
                generalize hW4 : World.alloc V3 (.cells #[.int .i64 0, .int .i64 0, .int .i64 0, .int .i64 0, .string ⟨#[]⟩, .slice none 0 0, .int .i64 0, .slice none 0 0] 27) = V4 at hb4 hpb BV4 ⊢
                clear hW4
                -- 10: Op.store 27 (Operand.tmp 14) (Operand.tmp 85) READY [10]
                refine onlyR 10 (by simp only [List.getElem?_toArray, List.getElem?_cons_succ, List.getElem?_cons_zero]; rfl) (by kernel_rfl) rfl ?_
                intro K hK
                have hp4 := hpb
                have p0 := blk_cell hp4 0 rfl
                have p1 := blk_cell hp4 1 rfl
                have p2 := blk_cell hp4 2 rfl
                have p3 := blk_cell hp4 3 rfl
                have p4 := blk_cell hp4 4 rfl
                have p5 := blk_cell hp4 5 rfl
                have p6 := blk_cell hp4 6 rfl
                have p7 := blk_cell hp4 7 rfl
                have pf0 := blk_free hp4 0
                have pf1 := blk_free hp4 1
                have pf2 := blk_free hp4 2
                have pf3 := blk_free hp4 3
                have pf4 := blk_free hp4 4
                have pf5 := blk_free hp4 5
                have pf6 := blk_free hp4 6
                have pf7 := blk_free hp4 7
                go_wp2_with fail
                refine hK.out _ _ (.inl (by simp)) ?_
                clear hK K
                try simp only [Act.put, List.setIfInBounds_toArray, List.set_cons_zero, List.set_cons_succ]
                refine wpR_done (by kernel_rfl) ?_ _
                go_wp2_with fail
                go_meet
                case rel =>
                  have hz1 := hb1.size
                  have hz2 := hb2.size
                  have hz3 := hb3.size
                  have hz4 := hb4.size
                  have hz0 := BV0.size
                  have hzp := blk_lt hpb
                  have hzk := blk_lt hk12
                  have hc7 := ((((hc6.move fun b hb => hb2.block b (by omega)).move fun b hb => hb3.block b (by omega)).move fun b hb => hb4.block b (by omega))).imp (q := fun b => w.heap.size ≤ b ∧ b ≠ V3.heap.size ∧ b < V4.heap.size) fun b hb => ⟨by omega, by omega, by omega⟩
                  have hgk : ∀ c, c < W4.heap.size → V4.heap[c]? = wc.heap[c]? := fun c hc => (hb4.block _ (by omega)).trans ((hb3.block _ (by omega)).trans ((hb2.block _ (by omega)).trans ((hb1.block _ (by omega)).trans (hb5.block _ (by omega)))))
                  have hset := fun (G : Nat) (hG : G < W4.heap.size) => ask_set (G := G) (ua := u.a) (un := u.n) (uc := u.c) BV4 hp4 (by omega) (blk_keep (blk_keep hk12 hb3) hb4) (by omega) (by omega) hc7 (more_kids _ _) hmt (by omega)
                  exact ⟨_, _, rfl, (hset _ hg4).1, (hset _ hg4).2.1, (hset _ hg4).2.2.1, fun c hc => (hset c hc).2.2.2.trans (hgk c hc)⟩
              · -- 9: Op.alloc 27 READY [5, 9]
                intro K hK
                go_wp2_with fail
                refine hK.out _ _ (.inr (below_alloc (below_refl V2) _)) ?_
                clear hK K
                try simp only [Act.put, List.setIfInBounds_toArray, List.set_cons_zero, List.set_cons_succ]
                have hb3 := below_alloc (below_refl V2) (.cells #[.int .i64 0, .int .i64 0, .int .i64 0, .int .i64 0, .string ⟨#[]⟩, .slice none 0 0, .int .i64 0, .slice none 0 0] 27)
                have hpb := blk_new V2 (.cells #[.int .i64 0, .int .i64 0, .int .i64 0, .int .i64 0, .string ⟨#[]⟩, .slice none 0 0, .int .i64 0, .slice none 0 0] 27)
                have BV3 := below_trans BV2 hb3
                generalize hW3 : World.alloc V2 (.cells #[.int .i64 0, .int .i64 0, .int .i64 0, .int .i64 0, .string ⟨#[]⟩, .slice none 0 0, .int .i64 0, .slice none 0 0] 27) = V3 at hb3 hpb BV3 ⊢
                clear hW3
                -- 5: Op.call { callee := Callee.value (Operand.func 19), args := #[Operand.const (Value.int IntKind.i64 1), Operand.tmp 81], argTypes := #[3, 22] } READY [5]
                refine onlyR 5 (by simp only [List.getElem?_toArray, List.getElem?_cons_succ, List.getElem?_cons_zero]; rfl) (by kernel_rfl) rfl ?_
                intro K hK
                go_wp2_with fail
                refine (wOf_any _ _ _ _ _).mono ?_
                rintro e V4 ⟨rfl, hb4⟩
                have BV4 := below_trans BV3 hb4
                go_wp2_with fail
                refine hK.out _ _ (.inr (hb4)) ?_
                clear hK K
                try simp only [Act.put, List.setIfInBounds_toArray, List.set_cons_zero, List.set_cons_succ]
                refine takeR bel_chains 8 (by simp only [List.getElem?_toArray, List.getElem?_cons_succ, List.getElem?_cons_zero]; rfl) (by kernel_rfl) (by exact fun _ _ _ h => h) (by rfl) (v := ?_) ?_ ?_; rotate_left; (intro w2 hR; go_simp; first | done | rfl | rw [if_pos (by omega)]) -- Op.build 27 #[(0, Operand.tmp 82), (2, Operand.tmp 84)]
                try simp only [Act.put, List.setIfInBounds_toArray, List.set_cons_zero, List.set_cons_succ]
                -- 10: Op.store 27 (Operand.tmp 14) (Operand.tmp 85) READY [10]
                refine onlyR 10 (by simp only [List.getElem?_toArray, List.getElem?_cons_succ, List.getElem?_cons_zero]; rfl) (by kernel_rfl) rfl ?_
                intro K hK
                have hp4 := (blk_keep hpb hb4)
                have p0 := blk_cell hp4 0 rfl
                have p1 := blk_cell hp4 1 rfl
                have p2 := blk_cell hp4 2 rfl
                have p3 := blk_cell hp4 3 rfl
                have p4 := blk_cell hp4 4 rfl
                have p5 := blk_cell hp4 5 rfl
                have p6 := blk_cell hp4 6 rfl
                have p7 := blk_cell hp4 7 rfl
                have pf0 := blk_free hp4 0
                have pf1 := blk_free hp4 1
                have pf2 := blk_free hp4 2
                have pf3 := blk_free hp4 3
                have pf4 := blk_free hp4 4
                have pf5 := blk_free hp4 5
                have pf6 := blk_free hp4 6
                have pf7 := blk_free hp4 7
                go_wp2_with fail
                refine hK.out _ _ (.inl (by simp)) ?_
                clear hK K
                try simp only [Act.put, List.setIfInBounds_toArray, List.set_cons_zero, List.set_cons_succ]
                refine wpR_done (by kernel_rfl) ?_ _
                go_wp2_with fail
                go_meet
                case rel =>
                  have hz1 := hb1.size
                  have hz2 := hb2.size
                  have hz3 := hb3.size
                  have hz4 := hb4.size
                  have hz0 := BV0.size
                  have hzp := blk_lt hpb
                  have hzk := blk_lt hk12
                  have hc7 := ((((hc6.move fun b hb => hb2.block b (by omega)).move fun b hb => hb3.block b (by omega)).move fun b hb => hb4.block b (by omega))).imp (q := fun b => w.heap.size ≤ b ∧ b ≠ V2.heap.size ∧ b < V4.heap.size) fun b hb => ⟨by omega, by omega, by omega⟩
                  have hgk : ∀ c, c < W4.heap.size → V4.heap[c]? = wc.heap[c]? := fun c hc => (hb4.block _ (by omega)).trans ((hb3.block _ (by omega)).trans ((hb2.block _ (by omega)).trans ((hb1.block _ (by omega)).trans (hb5.block _ (by omega)))))
                  have hset := fun (G : Nat) (hG : G < W4.heap.size) => ask_set (G := G) (ua := u.a) (un := u.n) (uc := u.c) BV4 hp4 (by omega) (blk_keep (blk_keep hk12 hb3) hb4) (by omega) (by omega) hc7 (more_kids _ _) hmt (by omega)
                  exact ⟨_, _, rfl, (hset _ hg4).1, (hset _ hg4).2.1, (hset _ hg4).2.2.1, fun c hc => (hset c hc).2.2.2.trans (hgk c hc)⟩
            · -- 9: Op.alloc 27 READY [4, 9]
              intro K hK
              go_wp2_with fail
              refine hK.out _ _ (.inr (below_alloc (below_refl V1) _)) ?_
              clear hK K
              try simp only [Act.put, List.setIfInBounds_toArray, List.set_cons_zero, List.set_cons_succ]
              have hb2 := below_alloc (below_refl V1) (.cells #[.int .i64 0, .int .i64 0, .int .i64 0, .int .i64 0, .string ⟨#[]⟩, .slice none 0 0, .int .i64 0, .slice none 0 0] 27)
              have hpb := blk_new V1 (.cells #[.int .i64 0, .int .i64 0, .int .i64 0, .int .i64 0, .string ⟨#[]⟩, .slice none 0 0, .int .i64 0, .slice none 0 0] 27)
              have BV2 := below_trans BV1 hb2
              generalize hW2 : World.alloc V1 (.cells #[.int .i64 0, .int .i64 0, .int .i64 0, .int .i64 0, .string ⟨#[]⟩, .slice none 0 0, .int .i64 0, .slice none 0 0] 27) = V2 at hb2 hpb BV2 ⊢
              clear hW2
              -- 4: Op.buildSlice 22 2 #[(0, Operand.tmp 79), (1, Operand.tmp 80)] READY [4]
              refine onlyR 4 (by simp only [List.getElem?_toArray, List.getElem?_cons_succ, List.getElem?_cons_zero]; rfl) (by kernel_rfl) rfl ?_
              intro K hK
              go_wp2_with fail
              refine hK.out _ _ (.inr (below_alloc (below_refl V2) _)) ?_
              clear hK K
              try simp only [Act.put, List.setIfInBounds_toArray, List.set_cons_zero, List.set_cons_succ]
              have hb3 := below_alloc (below_refl V2) (.cells #[.int .i64 q.whr.kind, .int .i64 q.whr.field, .int .i64 q.whr.low, .int .i64 q.whr.high, .string q.whr.text, .slice s6.a s6.n s6.c, .int .i64 (moreC q.group (g.number, g.text)).kind, .int .i64 (moreC q.group (g.number, g.text)).field, .int .i64 (moreC q.group (g.number, g.text)).low, .int .i64 (moreC q.group (g.number, g.text)).high, .string (moreC q.group (g.number, g.text)).text, .slice none 0 0] 24)
              have hk12 := blk_new V2 (.cells #[.int .i64 q.whr.kind, .int .i64 q.whr.field, .int .i64 q.whr.low, .int .i64 q.whr.high, .string q.whr.text, .slice s6.a s6.n s6.c, .int .i64 (moreC q.group (g.number, g.text)).kind, .int .i64 (moreC q.group (g.number, g.text)).field, .int .i64 (moreC q.group (g.number, g.text)).low, .int .i64 (moreC q.group (g.number, g.text)).high, .string (moreC q.group (g.number, g.text)).text, .slice none 0 0] 24)
              have BV3 := below_trans BV2 hb3
              generalize hW3 : World.alloc V2 (.cells #[.int .i64 q.whr.kind, .int .i64 q.whr.field, .int .i64 q.whr.low, .int .i64 q.whr.high, .string q.whr.text, .slice s6.a s6.n s6.c, .int .i64 (moreC q.group (g.number, g.text)).kind, .int .i64 (moreC q.group (g.number, g.text)).field, .int .i64 (moreC q.group (g.number, g.text)).low, .int .i64 (moreC q.group (g.number, g.text)).high, .string (moreC q.group (g.number, g.text)).text, .slice none 0 0] 24) = V3 at hb3 hk12 BV3 ⊢
              clear hW3
              -- 5: Op.call { callee := Callee.value (Operand.func 19), args := #[Operand.const (Value.int IntKind.i64 1), Operand.tmp 81], argTypes := #[3, 22] } READY [5]
              refine onlyR 5 (by simp only [List.getElem?_toArray, List.getElem?_cons_succ, List.getElem?_cons_zero]; rfl) (by kernel_rfl) rfl ?_
              intro K hK
              go_wp2_with fail
              refine (wOf_any _ _ _ _ _).mono ?_
              rintro e V4 ⟨rfl, hb4⟩
              have BV4 := below_trans BV3 hb4
              go_wp2_with fail
              refine hK.out _ _ (.inr (hb4)) ?_
              clear hK K
              try simp only [Act.put, List.setIfInBounds_toArray, List.set_cons_zero, List.set_cons_succ]
              refine takeR bel_chains 8 (by simp only [List.getElem?_toArray, List.getElem?_cons_succ, List.getElem?_cons_zero]; rfl) (by kernel_rfl) (by exact fun _ _ _ h => h) (by rfl) (v := ?_) ?_ ?_; rotate_left; (intro w2 hR; go_simp; first | done | rfl | rw [if_pos (by omega)]) -- Op.build 27 #[(0, Operand.tmp 82), (2, Operand.tmp 84)]
              try simp only [Act.put, List.setIfInBounds_toArray, List.set_cons_zero, List.set_cons_succ]
              -- 10: Op.store 27 (Operand.tmp 14) (Operand.tmp 85) READY [10]
              refine onlyR 10 (by simp only [List.getElem?_toArray, List.getElem?_cons_succ, List.getElem?_cons_zero]; rfl) (by kernel_rfl) rfl ?_
              intro K hK
              have hp4 := (blk_keep (blk_keep hpb hb3) hb4)
              have p0 := blk_cell hp4 0 rfl
              have p1 := blk_cell hp4 1 rfl
              have p2 := blk_cell hp4 2 rfl
              have p3 := blk_cell hp4 3 rfl
              have p4 := blk_cell hp4 4 rfl
              have p5 := blk_cell hp4 5 rfl
              have p6 := blk_cell hp4 6 rfl
              have p7 := blk_cell hp4 7 rfl
              have pf0 := blk_free hp4 0
              have pf1 := blk_free hp4 1
              have pf2 := blk_free hp4 2
              have pf3 := blk_free hp4 3
              have pf4 := blk_free hp4 4
              have pf5 := blk_free hp4 5
              have pf6 := blk_free hp4 6
              have pf7 := blk_free hp4 7
              go_wp2_with fail
              refine hK.out _ _ (.inl (by simp)) ?_
              clear hK K
              try simp only [Act.put, List.setIfInBounds_toArray, List.set_cons_zero, List.set_cons_succ]
              refine wpR_done (by kernel_rfl) ?_ _
              go_wp2_with fail
              go_meet
              case rel =>
                have hz1 := hb1.size
                have hz2 := hb2.size
                have hz3 := hb3.size
                have hz4 := hb4.size
                have hz0 := BV0.size
                have hzp := blk_lt hpb
                have hzk := blk_lt hk12
                have hc7 := ((((hc6.move fun b hb => hb2.block b (by omega)).move fun b hb => hb3.block b (by omega)).move fun b hb => hb4.block b (by omega))).imp (q := fun b => w.heap.size ≤ b ∧ b ≠ V1.heap.size ∧ b < V4.heap.size) fun b hb => ⟨by omega, by omega, by omega⟩
                have hgk : ∀ c, c < W4.heap.size → V4.heap[c]? = wc.heap[c]? := fun c hc => (hb4.block _ (by omega)).trans ((hb3.block _ (by omega)).trans ((hb2.block _ (by omega)).trans ((hb1.block _ (by omega)).trans (hb5.block _ (by omega)))))
                have hset := fun (G : Nat) (hG : G < W4.heap.size) => ask_set (G := G) (ua := u.a) (un := u.n) (uc := u.c) BV4 hp4 (by omega) (blk_keep hk12 hb4) (by omega) (by omega) hc7 (more_kids _ _) hmt (by omega)
                exact ⟨_, _, rfl, (hset _ hg4).1, (hset _ hg4).2.1, (hset _ hg4).2.2.1, fun c hc => (hset c hc).2.2.2.trans (hgk c hc)⟩
          · -- 9: Op.alloc 27 READY [2, 9]
            intro K hK
            go_wp2_with fail
            refine hK.out _ _ (.inr (below_alloc (below_refl V0) _)) ?_
            clear hK K
            try simp only [Act.put, List.setIfInBounds_toArray, List.set_cons_zero, List.set_cons_succ]
            have hb1 := below_alloc (below_refl V0) (.cells #[.int .i64 0, .int .i64 0, .int .i64 0, .int .i64 0, .string ⟨#[]⟩, .slice none 0 0, .int .i64 0, .slice none 0 0] 27)
            have hpb := blk_new V0 (.cells #[.int .i64 0, .int .i64 0, .int .i64 0, .int .i64 0, .string ⟨#[]⟩, .slice none 0 0, .int .i64 0, .slice none 0 0] 27)
            have BV1 := below_trans BV0 hb1
            generalize hW1 : World.alloc V0 (.cells #[.int .i64 0, .int .i64 0, .int .i64 0, .int .i64 0, .string ⟨#[]⟩, .slice none 0 0, .int .i64 0, .slice none 0 0] 27) = V1 at hb1 hpb BV1 ⊢
            clear hW1
            -- 2: Op.call { callee := Callee.value (Operand.func 20), args := #[Operand.tmp 78], argTypes := #[24] } READY [2]
            refine onlyR 2 (by simp only [List.getElem?_toArray, List.getElem?_cons_succ, List.getElem?_cons_zero]; rfl) (by kernel_rfl) rfl ?_
            intro K hK
            go_wp2_with fail
            refine (wCond_n q.whr.parts q.whr s V1 p (Nat.le_refl _) (by omega) (HC.out.to hp BV1) (below_size BV1 hp)).mono ?_
            rintro e V2 ⟨s6, rfl, hc6, hb2⟩
            have BV2 := below_trans BV1 hb2
            go_wp2_with fail
            refine hK.out _ _ (.inr (hb2)) ?_
            clear hK K
            try simp only [Act.put, List.setIfInBounds_toArray, List.set_cons_zero, List.set_cons_succ]
            -- 4: Op.buildSlice 22 2 #[(0, Operand.tmp 79), (1, Operand.tmp 80)] READY [4]
            refine onlyR 4 (by simp only [List.getElem?_toArray, List.getElem?_cons_succ, List.getElem?_cons_zero]; rfl) (by kernel_rfl) rfl ?_
            intro K hK
            go_wp2_with fail
            refine hK.out _ _ (.inr (below_alloc (below_refl V2) _)) ?_
            clear hK K
            try simp only [Act.put, List.setIfInBounds_toArray, List.set_cons_zero, List.set_cons_succ]
            have hb3 := below_alloc (below_refl V2) (.cells #[.int .i64 q.whr.kind, .int .i64 q.whr.field, .int .i64 q.whr.low, .int .i64 q.whr.high, .string q.whr.text, .slice s6.a s6.n s6.c, .int .i64 (moreC q.group (g.number, g.text)).kind, .int .i64 (moreC q.group (g.number, g.text)).field, .int .i64 (moreC q.group (g.number, g.text)).low, .int .i64 (moreC q.group (g.number, g.text)).high, .string (moreC q.group (g.number, g.text)).text, .slice none 0 0] 24)
            have hk12 := blk_new V2 (.cells #[.int .i64 q.whr.kind, .int .i64 q.whr.field, .int .i64 q.whr.low, .int .i64 q.whr.high, .string q.whr.text, .slice s6.a s6.n s6.c, .int .i64 (moreC q.group (g.number, g.text)).kind, .int .i64 (moreC q.group (g.number, g.text)).field, .int .i64 (moreC q.group (g.number, g.text)).low, .int .i64 (moreC q.group (g.number, g.text)).high, .string (moreC q.group (g.number, g.text)).text, .slice none 0 0] 24)
            have BV3 := below_trans BV2 hb3
            generalize hW3 : World.alloc V2 (.cells #[.int .i64 q.whr.kind, .int .i64 q.whr.field, .int .i64 q.whr.low, .int .i64 q.whr.high, .string q.whr.text, .slice s6.a s6.n s6.c, .int .i64 (moreC q.group (g.number, g.text)).kind, .int .i64 (moreC q.group (g.number, g.text)).field, .int .i64 (moreC q.group (g.number, g.text)).low, .int .i64 (moreC q.group (g.number, g.text)).high, .string (moreC q.group (g.number, g.text)).text, .slice none 0 0] 24) = V3 at hb3 hk12 BV3 ⊢
            clear hW3
            -- 5: Op.call { callee := Callee.value (Operand.func 19), args := #[Operand.const (Value.int IntKind.i64 1), Operand.tmp 81], argTypes := #[3, 22] } READY [5]
            refine onlyR 5 (by simp only [List.getElem?_toArray, List.getElem?_cons_succ, List.getElem?_cons_zero]; rfl) (by kernel_rfl) rfl ?_
            intro K hK
            go_wp2_with fail
            refine (wOf_any _ _ _ _ _).mono ?_
            rintro e V4 ⟨rfl, hb4⟩
            have BV4 := below_trans BV3 hb4
            go_wp2_with fail
            refine hK.out _ _ (.inr (hb4)) ?_
            clear hK K
            try simp only [Act.put, List.setIfInBounds_toArray, List.set_cons_zero, List.set_cons_succ]
            refine takeR bel_chains 8 (by simp only [List.getElem?_toArray, List.getElem?_cons_succ, List.getElem?_cons_zero]; rfl) (by kernel_rfl) (by exact fun _ _ _ h => h) (by rfl) (v := ?_) ?_ ?_; rotate_left; (intro w2 hR; go_simp; first | done | rfl | rw [if_pos (by omega)]) -- Op.build 27 #[(0, Operand.tmp 82), (2, Operand.tmp 84)]
            try simp only [Act.put, List.setIfInBounds_toArray, List.set_cons_zero, List.set_cons_succ]
            -- 10: Op.store 27 (Operand.tmp 14) (Operand.tmp 85) READY [10]
            refine onlyR 10 (by simp only [List.getElem?_toArray, List.getElem?_cons_succ, List.getElem?_cons_zero]; rfl) (by kernel_rfl) rfl ?_
            intro K hK
            have hp4 := (blk_keep (blk_keep (blk_keep hpb hb2) hb3) hb4)
            have p0 := blk_cell hp4 0 rfl
            have p1 := blk_cell hp4 1 rfl
            have p2 := blk_cell hp4 2 rfl
            have p3 := blk_cell hp4 3 rfl
            have p4 := blk_cell hp4 4 rfl
            have p5 := blk_cell hp4 5 rfl
            have p6 := blk_cell hp4 6 rfl
            have p7 := blk_cell hp4 7 rfl
            have pf0 := blk_free hp4 0
            have pf1 := blk_free hp4 1
            have pf2 := blk_free hp4 2
            have pf3 := blk_free hp4 3
            have pf4 := blk_free hp4 4
            have pf5 := blk_free hp4 5
            have pf6 := blk_free hp4 6
            have pf7 := blk_free hp4 7
            go_wp2_with fail
            refine hK.out _ _ (.inl (by simp)) ?_
            clear hK K
            try simp only [Act.put, List.setIfInBounds_toArray, List.set_cons_zero, List.set_cons_succ]
            refine wpR_done (by kernel_rfl) ?_ _
            go_wp2_with fail
            go_meet
            case rel =>
              have hz1 := hb1.size
              have hz2 := hb2.size
              have hz3 := hb3.size
              have hz4 := hb4.size
              have hz0 := BV0.size
              have hzp := blk_lt hpb
              have hzk := blk_lt hk12
              have hc7 := (((hc6.move fun b hb => hb3.block b (by omega)).move fun b hb => hb4.block b (by omega))).imp (q := fun b => w.heap.size ≤ b ∧ b ≠ V0.heap.size ∧ b < V4.heap.size) fun b hb => ⟨by omega, by omega, by omega⟩
              have hgk : ∀ c, c < W4.heap.size → V4.heap[c]? = wc.heap[c]? := fun c hc => (hb4.block _ (by omega)).trans ((hb3.block _ (by omega)).trans ((hb2.block _ (by omega)).trans ((hb1.block _ (by omega)).trans (hb5.block _ (by omega)))))
              have hset := fun (G : Nat) (hG : G < W4.heap.size) => ask_set (G := G) (ua := u.a) (un := u.n) (uc := u.c) BV4 hp4 (by omega) (blk_keep hk12 hb4) (by omega) (by omega) hc7 (more_kids _ _) hmt (by omega)
              exact ⟨_, _, rfl, (hset _ hg4).1, (hset _ hg4).2.1, (hset _ hg4).2.2.1, fun c hc => (hset c hc).2.2.2.trans (hgk c hc)⟩
  
        case rest =>
          obtain ⟨P, kb, rfl, hBy, hPb, hCa, hGb⟩ := hcut
          have hkey : (g.number, g.text) = k := by rw [HGK.out]; rfl
          have hlaw := law1 HZ.out hkk
          have hmk1 : (moreC q.group (g.number, g.text)).parts = 1 := by
            rw [Cd.parts_eq, more_kids]; rfl
          have hpar : (askQ q (g.number, g.text)).whr.parts ≤ 2000000 := by
            show Cd.parts (.mk 1 0 0 0 ⟨#[]⟩ [q.whr, moreC q.group (g.number, g.text)]) ≤ _
            simp only [Cd.parts, Cd.partsL]
            rw [hmk1]; omega
          have HA2 := Lib.hid (answer16_any (q := askQ q (g.number, g.text)) (rows := rows) (s := ⟨some ⟨kb, 0, none⟩, 2, 2⟩) (u := u) (t := t) (w := wc) (p := fun b => b < wc.heap.size) (hCa.imp fun b hb => hb.2)
            ((HT.out.to hp hBy).imp (below_size hBy hp)) ((HR.out.to hp hBy).imp (below_size hBy hp)) (fun _ h => h) (bel_cell HM.out hBy) hpar)
          rw [← hkey] at hlaw
          have HLAW := Lib.hid hlaw
          have HG6 := Lib.hid ((hGb _ hg4).trans HG5.out)
          have HGB := Lib.hid hGb
          clear hlaw hmk1 hpar hCa hkey hGb
          have p0 := blk_cell hPb 0 rfl
          have p1 := blk_cell hPb 1 rfl
          have p2 := blk_cell hPb 2 rfl
          have p3 := blk_cell hPb 3 rfl
          have p4 := blk_cell hPb 4 rfl
          have p5 := blk_cell hPb 5 rfl
          have p6 := blk_cell hPb 6 rfl
          have p7 := blk_cell hPb 7 rfl
          clear hPb
          go_wp2_with fail
          refine (HA2.out).mono ?_
          rintro e W6 ⟨v2, rfl, hg2, hb6⟩
          have hB6 := below_trans hBy hb6
          have HG7 := Lib.hid (blk_keep HG6.out hb6)
          have HGG := Lib.hid hg2
          clear hg2 p0 p1 p2 p3 p4 p5 p6 p7
          rcases HLAW.out with h3 | ⟨h0, ha⟩
          · rw [h3]
            clear h3
            go_wp2_with fail
            go_ret
            exact ⟨rfl, hB6⟩
          · have hg3 := HGG.out
            rw [ha] at hg3
            rw [h0]
            clear h0 ha
            obtain ⟨v2a, v2n, v2c⟩ := v2
            obtain ⟨y1, y2, y3, y4⟩ := groups_choose hg3
            dsimp only [List.length_cons, List.length_nil] at y1 y2 y3 y4
            subst y1
            obtain ⟨gb2, go2, gu2, rfl, hgb2, z3, hgt2⟩ := y4 0 _ rfl
            obtain ⟨z0, z1, z2⟩ := z3
            have hT1 := (hgt2.imp (q := fun b => b < W6.heap.size) fun b hb => hb.2)
            have hT2 := ((HGT.out.imp (q := fun b => b < W2.heap.size) fun b hb => hb.2))
            clear y2 y3 y4 hg3 hgt2
            have g2' := blk_cell HG7.out 2 rfl
            go_wp2_with fail
            have hc2 : W6.cell? ⟨W2.heap.size, 2, none⟩ = some (.slice gu.a gu.n gu.c) := g2'
            clear g2'
            have hW2k : ∀ b, b < W2.heap.size → W6.heap[b]? = W2.heap[b]? := fun b hb => (hb6.block b (by have := blk_lt HG6.out; omega)).trans ((HGB.out b (by omega)).trans ((HKX.out b (by omega)).trans ((hb4.block b (by rw [World.size_alloc]; omega)).trans (heap_alloc_old _ _ hb))))
            have hW26 : W2.heap.size < W6.heap.size := blk_lt HG7.out
            have hT3 := (hT2.move hW2k).imp (q := fun b => b < W6.heap.size) (fun b hb => Nat.lt_trans hb hW26)
            have HT1 := Lib.hid (fun (W : World) (hB : Below W6.heap.size W6 W) => (hT1.to (fun _ h => h) hB).imp (q := fun b => b < W.heap.size) fun b hb => Nat.lt_of_lt_of_le hb hB.size)
            have HT2 := Lib.hid (fun (W : World) (hB : Below W6.heap.size W6 W) => (hT3.to (fun _ h => h) hB).imp (q := fun b => b < W.heap.size) fun b hb => Nat.lt_of_lt_of_le hb hB.size)
            clear hT3
            clear hT1 hT2
            refine wp_region_RS Bel 16 (fun W => Bel W6 W) (by kernel_rfl) (below_refl W6).drew ?_
            intro V0 hbq
            have z0 := bel_cell z0 hbq
            have z1 := bel_cell z1 hbq
            have z2 := bel_cell z2 hbq
            have g2b := bel_cell hc2 hbq
            -- region 23 of function 3: 17 operations, sink 16
            refine takeR bel_chains 0 (by simp only [List.getElem?_toArray, List.getElem?_cons_succ, List.getElem?_cons_zero]; rfl) (by kernel_rfl) (by exact fun _ _ _ h => h) (by rfl) (v := ?_) ?_ ?_; rotate_left; (intro w2 hR; go_simp; first | done | rfl | rw [if_pos (by omega)]) -- Op.move (Operand.tmp 10)
            try simp only [Act.put, List.setIfInBounds_toArray, List.set_cons_zero, List.set_cons_succ]
            refine takeR bel_chains 1 (by simp only [List.getElem?_toArray, List.getElem?_cons_succ, List.getElem?_cons_zero]; rfl) (by kernel_rfl) (by exact fun _ _ _ h => h) (by rfl) (v := ?_) ?_ ?_; rotate_left; (intro w2 hR; go_simp; first | done | rfl | rw [if_pos (by omega)]) -- Op.binOp BinOp.eql 29 (Operand.tmp 94) (Operand.const (Value.int IntKind.i64 0)) 29
            try simp only [Act.put, List.setIfInBounds_toArray, List.set_cons_zero, List.set_cons_succ]
            refine takeR bel_chains 2 (by simp only [List.getElem?_toArray, List.getElem?_cons_succ, List.getElem?_cons_zero]; rfl) (by kernel_rfl) (by exact fun _ _ _ h => h) (by rfl) (v := ?_) ?_ ?_; rotate_left; (intro w2 hR; go_simp; first | done | rfl | rw [if_pos (by omega)]) -- Op.move (Operand.tmp 95)
            try simp only [Act.put, List.setIfInBounds_toArray, List.set_cons_zero, List.set_cons_succ]
            refine takeR bel_chains 3 (by simp only [List.getElem?_toArray, List.getElem?_cons_succ, List.getElem?_cons_zero]; rfl) (by kernel_rfl) (by exact fun _ _ _ h => h) (by rfl) (v := ?_) ?_ ?_; rotate_left; (intro w2 hR; go_simp; first | done | rfl | rw [if_pos (by omega)]) -- Op.move (Operand.tmp 15)
            try simp only [Act.put, List.setIfInBounds_toArray, List.set_cons_zero, List.set_cons_succ]
            refine takeR bel_chains 4 (by simp only [List.getElem?_toArray, List.getElem?_cons_succ, List.getElem?_cons_zero]; rfl) (by kernel_rfl) (by exact fun _ _ _ h => h) (by rfl) (v := ?_) ?_ ?_; rotate_left; (intro w2 hR; go_simp; first | done | rfl | rw [if_pos (by omega)]) -- Op.call { callee := Callee.builtin Builtin.len, args := #[Operand.tmp 97], argTypes := #[32] }
            try simp only [Act.put, List.setIfInBounds_toArray, List.set_cons_zero, List.set_cons_succ]
            refine takeR bel_chains 5 (by simp only [List.getElem?_toArray, List.getElem?_cons_succ, List.getElem?_cons_zero]; rfl) (by kernel_rfl) (by exact fun _ _ _ h => h) (by rfl) (v := ?_) ?_ ?_; rotate_left; (intro w2 hR; go_simp; first | done | rfl | rw [if_pos (by omega)]) -- Op.binOp BinOp.eql 3 (Operand.tmp 98) (Operand.const (Value.int IntKind.i64 1)) 3
            try simp only [Act.put, List.setIfInBounds_toArray, List.set_cons_zero, List.set_cons_succ]
            refine takeR bel_chains 6 (by simp only [List.getElem?_toArray, List.getElem?_cons_succ, List.getElem?_cons_zero]; rfl) (by kernel_rfl) (by exact fun _ _ _ h => h) (by rfl) (v := ?_) ?_ ?_; rotate_left; (intro w2 hR; go_simp; first | done | rfl | rw [if_pos (by omega)]) -- Op.pick (Operand.tmp 96) (Operand.tmp 99) (Operand.const (Value.bool false))
            try simp only [Act.put, List.setIfInBounds_toArray, List.set_cons_zero, List.set_cons_succ]
            refine takeR bel_chains 7 (by simp only [List.getElem?_toArray, List.getElem?_cons_succ, List.getElem?_cons_zero]; rfl) (by kernel_rfl) (by exact fun _ _ _ h => h) (by rfl) (v := ?_) ?_ ?_; rotate_left; (intro w2 hR; go_simp; first | done | rfl | rw [if_pos (by omega)]) -- Op.move (Operand.tmp 100)
            try simp only [Act.put, List.setIfInBounds_toArray, List.set_cons_zero, List.set_cons_succ]
            refine takeR bel_chains 8 (by simp only [List.getElem?_toArray, List.getElem?_cons_succ, List.getElem?_cons_zero]; rfl) (by kernel_rfl) (by exact fun _ _ _ h => h) (by rfl) (v := ?_) ?_ ?_; rotate_left; (intro w2 hR; go_simp; first | done | rfl | rw [if_pos (by omega)]) -- Op.move (Operand.tmp 15)
            try simp only [Act.put, List.setIfInBounds_toArray, List.set_cons_zero, List.set_cons_succ]
            refine takeR bel_chains 9 (by simp only [List.getElem?_toArray, List.getElem?_cons_succ, List.getElem?_cons_zero]; rfl) (by kernel_rfl) (by exact fun _ _ _ h => h) (by rfl) (v := ?_) ?_ ?_; rotate_left; (intro w2 hR; go_simp; first | done | rfl | rw [if_pos (by omega)]) -- Op.indexAddr 32 (Operand.tmp 102) (Operand.const (Value.int IntKind.i64 0))
            try simp only [Act.put, List.setIfInBounds_toArray, List.set_cons_zero, List.set_cons_succ]
            refine takeR bel_chains 10 (by simp only [List.getElem?_toArray, List.getElem?_cons_succ, List.getElem?_cons_zero]; rfl) (by kernel_rfl) (by exact fun _ _ _ h => h) (by rfl) (v := ?_) ?_ ?_; rotate_left; (intro w2 hR; go_simp; first | done | rfl | rw [if_pos (by omega)]) -- Op.fieldAddr 37 (Operand.tmp 103) 2
            try simp only [Act.put, List.setIfInBounds_toArray, List.set_cons_zero, List.set_cons_succ]
            refine takeR bel_chains 11 (by simp only [List.getElem?_toArray, List.getElem?_cons_succ, List.getElem?_cons_zero]; rfl) (by kernel_rfl) (by exact fun _ _ _ h => h) (by rfl) (v := ?_) ?_ ?_; rotate_left; (intro w2 hR; have d0 := bel_cell z0 hR; have d1 := bel_cell z1 hR; have d2 := bel_cell z2 hR; have d3 := bel_cell g2b hR; go_simp; first | done | rfl | rw [if_pos (by omega)]) -- Op.load 35 (Operand.tmp 104)
            try simp only [Act.put, List.setIfInBounds_toArray, List.set_cons_zero, List.set_cons_succ]
            refine takeR bel_chains 12 (by simp only [List.getElem?_toArray, List.getElem?_cons_succ, List.getElem?_cons_zero]; rfl) (by kernel_rfl) (by exact fun _ _ _ h => h) (by rfl) (v := ?_) ?_ ?_; rotate_left; (intro w2 hR; go_simp; first | done | rfl | rw [if_pos (by omega)]) -- Op.fieldAddr 37 (Operand.tmp 11) 2
            try simp only [Act.put, List.setIfInBounds_toArray, List.set_cons_zero, List.set_cons_succ]
            refine takeR bel_chains 13 (by simp only [List.getElem?_toArray, List.getElem?_cons_succ, List.getElem?_cons_zero]; rfl) (by kernel_rfl) (by exact fun _ _ _ h => h) (by rfl) (v := ?_) ?_ ?_; rotate_left; (intro w2 hR; have d0 := bel_cell z0 hR; have d1 := bel_cell z1 hR; have d2 := bel_cell z2 hR; have d3 := bel_cell g2b hR; go_simp; first | done | rfl | rw [if_pos (by omega)]) -- Op.load 35 (Operand.tmp 106)
            try simp only [Act.put, List.setIfInBounds_toArray, List.set_cons_zero, List.set_cons_succ]
            -- 14: woven.go:340 Op.call { callee := Callee.value (Operand.func 21), args := #[Operand.tmp 105, Operand.tmp 107], argTypes := #[35, 35] } -> 108  guard some (7, true)   READY [14]
            refine wpR_only (i := 14) (by simp only [List.getElem?_toArray, List.getElem?_cons_succ, List.getElem?_cons_zero]; rfl) (by kernel_rfl) ?_
            intro K hK
            rw [if_pos (by rfl)]
            go_wp2_with fail
            refine (equal_any _ _ _ _ _ _ (HT1.out _ hbq) (HT2.out _ hbq) (fun _ h => h)).mono ?_; rintro e W7 ⟨rfl, hb2⟩
            go_wp2_with fail
            refine hK.out _ _ (.inr hb2) ?_
            clear hK K
            try simp only [Act.put, List.setIfInBounds_toArray, List.set_cons_zero, List.set_cons_succ]
            refine takeR bel_chains 15 (by simp only [List.getElem?_toArray, List.getElem?_cons_succ, List.getElem?_cons_zero]; rfl) (by kernel_rfl) (by exact fun _ _ _ h => h) (by rfl) (v := ?_) ?_ ?_; rotate_left; (intro w2 hR; go_simp; first | done | rfl | rw [if_pos (by omega)]) -- Op.pick (Operand.tmp 101) (Operand.tmp 108) (Operand.const (Value.bool false))
            try simp only [Act.put, List.setIfInBounds_toArray, List.set_cons_zero, List.set_cons_succ]
            refine takeR bel_chains 16 (by simp only [List.getElem?_toArray, List.getElem?_cons_succ, List.getElem?_cons_zero]; rfl) (by kernel_rfl) (by exact fun _ _ _ h => h) (by rfl) (v := ?_) ?_ ?_; rotate_left; (intro w2 hR; go_simp; first | done | rfl | rw [if_pos (by omega)]) -- Op.assign (Operand.tmp 109)
            try simp only [Act.put, List.setIfInBounds_toArray, List.set_cons_zero, List.set_cons_succ]
            refine wpR_done (by kernel_rfl) ?_ _
            go_wp2_with fail
            have hd : decide ((gpR q rows (g.number, g.text)).told = g.told) = true := by
              rw [decide_eq_true_eq, show (g.number, g.text) = k from by rw [HGK.out]; rfl]
              exact (congrArg Gp.told HGK.out).symm
            rw [hd]
            go_ret
            exact ⟨rfl, below_trans hB6 (below_trans hbq hb2)⟩
  · have hzb : (chkAns q rows != 0) = true := bne_iff_ne.2 hz
    have HZ := Lib.hid hz
    clear hz
    go_wp2_with fail
    go_ret
    exact ⟨rfl, hB2⟩
end Go.Proofs.YtbdbmpmijmmbeaaGreatDoor
