/- PrintCond of the condition that all rows meet; small helpers of the laws. -/
import Derived.Test.YtbdbmpmijmmbeaaGreatDoorWkO
namespace Go.Proofs.YtbdbmpmijmmbeaaGreatDoor
open Go.RowKit

def allText : ByteArray := ⟨#[97, 108, 108]⟩
theorem listText_nil (t1 t2 t3 : ByteArray) (w : World) : Calls Tryz.prog 64 #[.slice none 0 0, .string t1, .string t2, .string t3] w fun e w' => e = .returned (.string t1) ∧ w = w' := by
  go_enter Tryz.func64, Tryz.ntmps64
  go_wp2_with fail
  refine wp_loop_rounds 1 ?_
  rw [rounds_succ]; go_wp2
  go_ret
  exact ⟨rfl, rfl⟩
theorem condText_all (w : World) : Calls Tryz.prog 47 #[.agg #[.int .i64 1, .int .i64 0, .int .i64 0, .int .i64 0, .string ⟨#[]⟩, .slice none 0 0]] w fun e w' => e = .returned (.string allText) ∧ Below w.heap.size w w' := by
  go_enter Tryz.func47, Tryz.ntmps47
  go_wp2_with (go_at_call 64; refine (listText_nil _ _ _ _).mono ?_; rintro e w' ⟨rfl, rfl⟩)
  go_ret
  exact ⟨rfl, below_alloc (below_refl w) _⟩
def cdAll : Cd := .mk 1 0 0 0 ⟨#[]⟩ []
theorem printCond_all (w : World) : Calls Tryz.prog 15 #[.agg #[.int .i64 1, .int .i64 0, .int .i64 0, .int .i64 0, .string ⟨#[]⟩, .slice none 0 0]] w fun e w' => e = .returned (.tuple #[.string allText, .int .i64 0]) ∧ Below w.heap.size w w' := by
  have H1 := fun W : World => checkCond_any (d := cdAll) (s := ⟨none, 0, 0⟩) (w := W) (p := fun _ => False) (.nil 1 0 0 0 ⟨#[]⟩ (by decide)) (fun b h => h.elim) (by decide)
  have hz : chkCond cdAll = 0 := by decide
  rw [hz] at H1
  go_enter Tryz.func15, Tryz.ntmps15
  go_wp2_with fail
  refine (H1 _).mono ?_
  rintro e W1 ⟨rfl, hb1⟩
  have hold := blk_keep (blk_new w (.cells #[.int .i64 1, .int .i64 0, .int .i64 0, .int .i64 0, .string ⟨#[]⟩, .slice none 0 0] 24)) hb1
  have c0 := blk_cell hold 0 rfl
  have c1 := blk_cell hold 1 rfl
  have c2 := blk_cell hold 2 rfl
  have c3 := blk_cell hold 3 rfl
  have c4 := blk_cell hold 4 rfl
  have c5 := blk_cell hold 5 rfl
  go_wp2_with fail
  refine (condText_all _).mono ?_
  rintro e W2 ⟨rfl, hb2⟩
  go_wp2_with fail
  refine (sized_ok _ _ (by decide)).mono ?_
  rintro e W3 ⟨rfl, rfl⟩
  go_wp2_with fail
  refine bodyPost_ret (v := .tuple #[.string allText, .int .i64 0]) (by simp [results, Tryz.results15, go_sem]) rfl ⟨rfl, below_trans (below_trans (below_alloc (below_refl w) _) hb1) hb2⟩

theorem wOf_any (k : Int) (a : Option Addr) (n c : Nat) (w : World) : Calls Tryz.prog 19 #[.int .i64 k, .slice a n c] w fun e w' => e = .returned (.agg #[.int .i64 k, .int .i64 0, .int .i64 0, .int .i64 0, .string ⟨#[]⟩, .slice a n c]) ∧ Below w.heap.size w w' := by
  go_enter Tryz.func19, Tryz.ntmps19
  go_wp2_with fail
  have hb := blk_new w (.cells #[.int .i64 k, .int .i64 0, .int .i64 0, .int .i64 0, .string ⟨#[]⟩, .slice a n c] 24)
  have c0 := blk_cell hb 0 rfl
  have c1 := blk_cell hb 1 rfl
  have c2 := blk_cell hb 2 rfl
  have c3 := blk_cell hb 3 rfl
  have c4 := blk_cell hb 4 rfl
  have c5 := blk_cell hb 5 rfl
  refine bodyPost_ret (v := .agg #[.int .i64 k, .int .i64 0, .int .i64 0, .int .i64 0, .string ⟨#[]⟩, .slice a n c]) (by simp [results, Tryz.results19, go_sem]) rfl ⟨rfl, below_alloc (below_refl w) _⟩
theorem days_any (a b : Int) (w : World) : Calls Tryz.prog 18 #[.int .i64 a, .int .i64 b] w fun e w' => e = .returned (.agg #[.int .i64 7, .int .i64 2, .int .i64 a, .int .i64 b, .string ⟨#[]⟩, .slice none 0 0]) ∧ Below w.heap.size w w' := by
  go_enter Tryz.func18, Tryz.ntmps18
  go_wp2_with fail
  have hb := blk_new w (.cells #[.int .i64 7, .int .i64 2, .int .i64 a, .int .i64 b, .string ⟨#[]⟩, .slice none 0 0] 24)
  have c0 := blk_cell hb 0 rfl
  have c1 := blk_cell hb 1 rfl
  have c2 := blk_cell hb 2 rfl
  have c3 := blk_cell hb 3 rfl
  have c4 := blk_cell hb 4 rfl
  have c5 := blk_cell hb 5 rfl
  refine bodyPost_ret (v := .agg #[.int .i64 7, .int .i64 2, .int .i64 a, .int .i64 b, .string ⟨#[]⟩, .slice none 0 0]) (by simp [results, Tryz.results18, go_sem]) rfl ⟨rfl, below_alloc (below_refl w) _⟩

/-- The cells of a condition. -/
def cdCells (x : Cd × Sl) : List Value := [.int .i64 x.1.kind, .int .i64 x.1.field, .int .i64 x.1.low, .int .i64 x.1.high, .string x.1.text, .slice x.2.a x.2.n x.2.c]
theorem cd_len (x : Cd × Sl) : (cdCells x).length = 6 := rfl
theorem cd_ones (x : Cd × Sl) : ∀ u ∈ cdCells x, u.oneCell' = true := by
  intro u hu; simp [cdCells] at hu; rcases hu with rfl | rfl | rfl | rfl | rfl | rfl <;> rfl
theorem Tryz.info24 : (Tryz.prog.info? 24).map (fun i => (i.zero, i.size, i.bytes)) = some (some (.agg #[.int .i64 0, .int .i64 0, .int .i64 0, .int .i64 0, .string ⟨#[]⟩, .slice none 0 0]), 6, 72) := by kernel_rfl
theorem cond_of_owns {W : World} {base : Nat} {v : Value} {ps : List (Cd × Sl)} {p q : Nat → Prop} (h : Owns W base 24 6 cdCells v ps) (hk : ∀ x ∈ ps, CondAt p W x.1 x.2) (hpq : ∀ b, p b → q b) (hv : ∀ b, v.ownBlock = some b → q b) (k f l hi : Int) (t : ByteArray) (ht : t.size ≤ maxLen) :
    ∃ s : Sl, v = .slice s.a s.n s.c ∧ CondAt q W (.mk k f l hi t (ps.map (·.1))) s := by
  obtain ⟨s, rfl, ha⟩ := h.arr cd_len
  refine ⟨s, rfl, ?_⟩
  cases ha with
  | nil => exact .nil k f l hi t ht
  | row xs b off cap hp hn hc hR =>
    have e : ps.length = (ps.map (·.1)).length := by simp
    rw [e] at hn ⊢
    refine .row k f l hi t _ b off cap (fun i => (ps[i]?.getD (.mk 0 0 0 0 ⟨#[]⟩ [], ⟨none, 0, 0⟩)).2) ht (hv b hp.2.2) hn hc (fun i d hd => ?_) fun i d hd => ?_
    all_goals
      rw [List.getElem?_map] at hd
      cases hx : ps[i]? with
      | none => simp [hx] at hd
      | some x =>
        simp [hx] at hd; subst hd
        simp only [Option.getD_some]
        first
          | exact ⟨hR i x hx 0 _ rfl, hR i x hx 1 _ rfl, hR i x hx 2 _ rfl, hR i x hx 3 _ rfl, hR i x hx 4 _ rfl, hR i x hx 5 _ rfl⟩
          | exact (hk x (List.mem_of_getElem? hx)).imp hpq
end Go.Proofs.YtbdbmpmijmmbeaaGreatDoor
