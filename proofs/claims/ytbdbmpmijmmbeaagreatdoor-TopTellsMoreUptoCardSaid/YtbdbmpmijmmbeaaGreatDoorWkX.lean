/- Answers whose parts are the call's own: Answer's contract so; the plain law of TopTellsMore. -/
import Derived.Test.YtbdbmpmijmmbeaaGreatDoorWkW
import Derived.Test.YtbdbmpmijmmbeaaGreatDoorWkO
namespace Go.Proofs.YtbdbmpmijmmbeaaGreatDoor
open Go.RowKit

/-- Groups with their slices of what is told, none of which shares memory with another. -/
structure OwnAt (B : Nat) (w : World) (v : Sl) (gl : List (Gp × Sl)) : Prop where
  arr : ArrAt (fun b => B ≤ b ∧ b < w.heap.size) 3 (fun b o x => ThreeAt w b o x.1 x.2) gl v
  told : ∀ x ∈ gl, TwosAt (fun b => B ≤ b ∧ b < w.heap.size) w x.1.told x.2
  free : ∀ x ∈ gl, ∀ c, x.2.v.ownBlock = some c → (B ≤ c ∧ c < w.heap.size ∧ v.v.ownBlock ≠ some c) ∧ ∀ o, w.frozen? ⟨c, o, none⟩ = false
  apart : gl.Pairwise fun x y => ∀ c, x.2.v.ownBlock = some c → y.2.v.ownBlock ≠ some c
def Ans16Own (w : World) (gs : List Gp) (c : Int) (e : Ending) (w' : World) : Prop :=
  ∃ (v : Sl) (gl : List (Gp × Sl)), e = .returned (.tuple #[.slice v.a v.n v.c, .int .i64 c]) ∧ gl.map (·.1) = gs ∧ OwnAt w.heap.size w' v gl ∧ Below w.heap.size w w'

theorem answer51_own {q : Qy} {rows : List Rw} {s u t : Sl} {w : World} {p : Nat → Prop} {m : Int} (hc : CondAt p w q.whr s) (ht : TwosAt p w q.tells u) (hr : RowsAt p w rows t)
    (hp : ∀ b, p b → b < w.heap.size) (hm : w.cell? ⟨0, 0, none⟩ = some (.int .i64 m)) (hq : chkQuery q = 0) (hR : chkRows rows = 0) :
    Calls Tryz.prog 51 #[q.val s u, .slice t.a t.n t.c] w (AnsOwn w (answerR q rows)) := by
  obtain ⟨xs, rfl, h1, h2, h3, h4⟩ := rows_choose hr
  obtain ⟨g1, g2, g3, g4, g5⟩ := chkQuery_zero hq
  obtain ⟨r1, r2, _⟩ := chkRows_zero hR
  have r2' : ∀ x ∈ xs, chkRow x.1 = 0 := fun x hx => r2 _ (List.mem_map_of_mem hx)
  rw [← answerF_eq r2']
  exact answer_own q xs s u t w p 0 m hc ht h1 h2 h3 h4 hp hm (chkCond_zero g1).2 g2 g5 g4 (by simpa using r1) r2'

set_option maxHeartbeats 1000000 in
theorem answer16_own {q : Qy} {rows : List Rw} {s u t : Sl} {w : World} {p : Nat → Prop} {m : Int} (hc : CondAt p w q.whr s) (ht : TwosAt p w q.tells u) (hr : RowsAt p w rows t)
    (hp : ∀ b, p b → b < w.heap.size) (hm : w.cell? ⟨0, 0, none⟩ = some (.int .i64 m)) (hn : q.whr.parts ≤ 2000000) :
    Calls Tryz.prog 16 #[q.val s u, .slice t.a t.n t.c] w (Ans16Own w (ansF q rows) (chkAns q rows)) := by
  have H1 := Lib.hid (fun W (hB : Below w.heap.size w W) => checkQuery_any (hc.to hp hB) (ht.to hp hB) (below_size hB hp) hn)
  have H2 := Lib.hid (fun W (hB : Below w.heap.size w W) => checkRows_all (hr.to hp hB) (below_size hB hp))
  have H3 := Lib.hid (fun W (hB : Below w.heap.size w W) h1 h2 => answer51_own (hc.to hp hB) (ht.to hp hB) (hr.to hp hB) (below_size hB hp) (bel_cell hm hB) h1 h2)
  clear hc ht hr hp hm hn
  go_enter Tryz.func16, Tryz.ntmps16
  go_wp2_with fail
  refine (H1.out _ (below_alloc (below_refl w) _)).mono ?_
  rintro e W1 ⟨rfl, hb1⟩
  have hB1 := below_trans (below_alloc (below_refl w) _) hb1
  go_wp2_with fail
  refine (H2.out _ hB1).mono ?_
  rintro e W2 ⟨rfl, hb2⟩
  have hB2 := below_trans hB1 hb2
  go_wp2_with fail
  have z0 := blk_cell (blk_new W2 (.cells #[.int .i64 (chkQuery q), .int .i64 (chkRows rows)] 29)) 0 rfl
  have z1 := blk_cell (blk_new W2 (.cells #[.int .i64 (chkQuery q), .int .i64 (chkRows rows)] 29)) 1 rfl
  refine (or_any _ _ _ _ z0 z1).mono ?_
  rintro e W3 ⟨rfl, rfl⟩
  have hB3 := below_alloc hB2 (.cells #[.int .i64 (chkQuery q), .int .i64 (chkRows rows)] 29)
  have hold : (W2.alloc (.cells #[.int .i64 (chkQuery q), .int .i64 (chkRows rows)] 29)).heap[w.heap.size]? = some (.cells #[.int .i64 q.whr.kind, .int .i64 q.whr.field, .int .i64 q.whr.low, .int .i64 q.whr.high, .string q.whr.text, .slice s.a s.n s.c, .int .i64 q.group, .slice u.a u.n u.c] 27) :=
    blk_alloc (blk_keep (blk_keep (blk_new w _) hb1) hb2) _
  generalize W2.alloc (.cells #[.int .i64 (chkQuery q), .int .i64 (chkRows rows)] 29) = W4 at hB3 hold z0 z1 ⊢
  clear z0 z1
  cases hz : (or2 (chkQuery q) (chkRows rows) != 0)
  · have hz2 : or2 (chkQuery q) (chkRows rows) = 0 := bne_eq_false_iff_eq.1 hz
    have HZ := Lib.hid hz2
    have c0 := blk_cell hold 0 rfl
    have c1 := blk_cell hold 1 rfl
    have c2 := blk_cell hold 2 rfl
    have c3 := blk_cell hold 3 rfl
    have c4 := blk_cell hold 4 rfl
    have c5 := blk_cell hold 5 rfl
    have c6 := blk_cell hold 6 rfl
    have c7 := blk_cell hold 7 rfl
    clear hold hz2
    go_wp2_with fail
    refine (H3.out _ hB3 (or2_zero HZ.out).1 (or2_zero HZ.out).2).mono ?_
    rintro e W5 ⟨v, gl, rfl, hm5, hA, ht5, hf5, hap, hb5⟩
    go_wp2_with fail
    have hle := hB3.size
    refine bodyPost_ret (v := .tuple #[.slice v.a v.n v.c, .int .i64 0]) (by simp [results, Tryz.results16, go_sem]) rfl ⟨v, gl, by unfold chkAns; rw [HZ.out], ?_, ⟨?_, fun x hx => ?_, fun x hx c hc => ?_, hap⟩, below_trans hB3 hb5⟩
    · have : ansF q rows = answerR q rows := by unfold ansF chkAns; rw [if_pos HZ.out]
      rw [this]; exact hm5
    · exact hA.imp (fun c hc => ⟨by omega, hc.2⟩) fun _ _ _ _ _ h => h
    · exact (ht5 x hx).imp fun c hc => ⟨by omega, hc.2⟩
    · obtain ⟨⟨h1, h2, h3⟩, h4⟩ := hf5 x hx c hc
      exact ⟨⟨by omega, h2, h3⟩, h4⟩
  · have HZ := Lib.hid (bne_iff_ne.1 hz)
    clear hold
    go_wp2_with fail
    refine bodyPost_ret (v := .tuple #[.slice none 0 0, .int .i64 (or2 (chkQuery q) (chkRows rows))]) (by simp [results, Tryz.results16, go_sem]) rfl ⟨⟨none, 0, 0⟩, [], rfl, ?_, ⟨.nil, fun x hx => (by cases hx), fun x hx => (by cases hx), .nil⟩, hB3⟩
    have : ansF q rows = [] := by unfold ansF chkAns; rw [if_neg HZ.out]
    rw [this]
    rfl

theorem OwnAt.groups {B : Nat} {w : World} {v : Sl} {gl : List (Gp × Sl)} (h : OwnAt B w v gl) : GroupsAt (fun b => B ≤ b ∧ b < w.heap.size) w (gl.map (·.1)) v := by
  obtain ⟨hA, ht, _, _⟩ := h
  cases hA with
  | nil => exact .nil
  | row ys b off cap hb hcap hmax hR =>
    have e : gl.length = (gl.map (·.1)).length := by simp
    rw [e] at hcap ⊢
    refine .row _ b off cap hb hcap hmax fun i g hg => ?_
    rw [List.getElem?_map] at hg
    cases hx : gl[i]? with
    | none => simp [hx] at hg
    | some x =>
      simp [hx] at hg; subst hg
      exact ⟨x.2, hR i x hx, ht x (List.mem_of_getElem? hx)⟩

def revG (g : Gp) : Gp := ⟨g.number, g.text, g.told.reverse⟩
theorem twos_row {p : Nat → Prop} {w : World} {l : List (Int × Int)} {s : Sl} (h : TwosAt p w l s) (hl : 1 ≤ l.length) : ∃ b off cap, s = ⟨some ⟨b, off, none⟩, l.length, cap⟩ ∧ p b ∧ l.length ≤ cap ∧ cap ≤ maxLen ∧
    ∀ i x, l[i]? = some x → w.cell? ⟨b, off + i * 2, none⟩ = some (.int .i64 x.1) ∧ w.cell? ⟨b, off + i * 2 + 1, none⟩ = some (.int .i64 x.2) := by
  cases h with
  | nil => simp at hl
  | row xs b off cap hp hn hc hR => exact ⟨b, off, cap, rfl, hp, hn, hc, hR⟩

theorem twos_at {p q : Nat → Prop} {w w' : World} {l : List (Int × Int)} {s : Sl} (h : TwosAt p w l s) (hw : ∀ c, s.v.ownBlock = some c → p c → w'.heap[c]? = w.heap[c]?) (hpq : ∀ c, p c → q c) : TwosAt q w' l s := by
  cases h with
  | nil => exact .nil
  | row xs b off cap hp hn hc hR =>
    have hk := hw b rfl hp
    exact .row _ b off cap (hpq b hp) hn hc fun i x hx => ⟨(cell_same hk _).trans (hR i x hx).1, (cell_same hk _).trans (hR i x hx).2⟩
/-- One group's part turned in place. -/
theorem OwnAt.turn {B : Nat} {w w' : World} {v : Sl} {gl : List (Gp × Sl)} (h : OwnAt B w v gl) {j : Nat} {x : Gp × Sl} (hx : gl[j]? = some x) {b off cap : Nat} (hs : x.2 = ⟨some ⟨b, off, none⟩, x.1.told.length, cap⟩) (hcap : x.1.told.length ≤ cap) (hmax : cap ≤ maxLen)
    (hg : w.grownBy w' (some b)) (hf : ∀ o, w'.frozen? ⟨b, o, none⟩ = false)
    (hc : ∀ t y, x.1.told.reverse[t]? = some y → w'.cell? ⟨b, off + t * 2, none⟩ = some (.int .i64 y.1) ∧ w'.cell? ⟨b, off + t * 2 + 1, none⟩ = some (.int .i64 y.2)) :
    OwnAt B w' v (gl.set j (revG x.1, x.2)) := by
  have hxm := List.mem_of_getElem? hx
  have hb : x.2.v.ownBlock = some b := by rw [hs]; rfl
  obtain ⟨⟨f1, f2, f3⟩, _⟩ := h.free x hxm b hb
  have hsz := hg.size
  have hlen := (List.getElem?_eq_some_iff.1 hx).1
  have hoth : ∀ i y, gl[i]? = some y → i ≠ j → ∀ c, y.2.v.ownBlock = some c → c ≠ b := by
    rintro i y hi hij c hyc rfl
    rcases Nat.lt_or_gt_of_ne hij with hij | hij
    · have := List.pairwise_iff_getElem.1 h.apart i j (List.getElem?_eq_some_iff.1 hi).1 hlen hij
      rw [(List.getElem?_eq_some_iff.1 hi).2, (List.getElem?_eq_some_iff.1 hx).2] at this
      exact absurd hb (this c hyc)
    · have := List.pairwise_iff_getElem.1 h.apart j i hlen (List.getElem?_eq_some_iff.1 hi).1 hij
      rw [(List.getElem?_eq_some_iff.1 hi).2, (List.getElem?_eq_some_iff.1 hx).2] at this
      exact absurd hyc (this c hb)
  have hset : ∀ y ∈ gl.set j (revG x.1, x.2), y = (revG x.1, x.2) ∨ ∃ i, i ≠ j ∧ gl[i]? = some y := fun y hy => by
    obtain ⟨i, hi⟩ := List.getElem?_of_mem hy
    rw [List.getElem?_set] at hi
    split at hi
    · rename_i e; subst e
      cases hi; exact .inl rfl
    · rename_i e; exact .inr ⟨i, fun h => e h.symm, hi⟩
  refine ⟨?_, fun y hy => ?_, fun y hy c hc' => ?_, ?_⟩
  · have hA := h.arr
    cases hA with
    | nil => cases hx
    | row ys b' off' cap' hb' hcap' hmax' hR =>
      have hne : b' ≠ b := fun e => f3 (by rw [e]; rfl)
      have hl : gl.length = (gl.set j (revG x.1, x.2)).length := by simp
      rw [hl] at hcap' ⊢
      refine .row _ b' off' cap' ⟨hb'.1, by omega⟩ hcap' hmax' fun i y hy => ?_
      have hkp : w'.heap[b']? = w.heap[b']? := hg.block b' hb'.2 fun e => hne (by injection e)
      rw [List.getElem?_set] at hy
      split at hy
      · rename_i e; subst e
        cases hy
        have := hR j x hx
        exact ⟨(cell_same hkp _).trans this.c0, (cell_same hkp _).trans this.c1, (cell_same hkp _).trans this.c2⟩
      · exact (hR i y hy).move hkp
  · rcases hset y hy with rfl | ⟨i, hij, hi⟩
    · show TwosAt _ w' x.1.told.reverse x.2
      rw [hs]
      have e : x.1.told.length = x.1.told.reverse.length := by simp
      rw [e] at hcap ⊢
      exact .row _ b off cap ⟨f1, by omega⟩ hcap hmax hc
    · exact twos_at (h.told y (List.mem_of_getElem? hi)) (fun c hc1 hc2 => hg.block c hc2.2 fun e => hoth i y hi hij c hc1 (by injection e)) fun c hc => ⟨hc.1, by omega⟩
  · rcases hset y hy with rfl | ⟨i, hij, hi⟩
    · have hcb : x.2.v.ownBlock = some c := hc'
      rw [hb] at hcb
      obtain rfl : b = c := by injection hcb
      exact ⟨⟨f1, by omega, f3⟩, hf⟩
    · obtain ⟨⟨h1, h2, h3⟩, h4⟩ := h.free y (List.mem_of_getElem? hi) c hc'
      refine ⟨⟨h1, by omega, h3⟩, fun o => ?_⟩
      rw [World.frozen?_of_block (a := ⟨c, o, none⟩) (hg.block c h2 fun e => hoth i y hi hij c hc' (by injection e))]
      exact h4 o
  · have hm : (gl.set j (revG x.1, x.2)).map (·.2) = gl.map (·.2) := by
      rw [List.map_set]
      apply List.ext_getElem?
      intro i
      rw [List.getElem?_set]
      split
      · rename_i e; subst e
        rw [if_pos (by simpa using hlen), List.getElem?_map, hx]; rfl
      · rfl
    have := h.apart
    have h1 := (List.pairwise_map (f := fun x : Gp × Sl => x.2) (R := fun (s u : Sl) => ∀ c, s.v.ownBlock = some c → u.v.ownBlock ≠ some c)).2 this
    rw [← hm] at h1
    exact List.pairwise_map.1 h1

/-! The plain law of TopTellsMore. -/
def moreQ (q : Qy) (t : Int × Int) : Qy := ⟨q.whr, q.group, q.tells ++ [t]⟩
def turnQ (q : Qy) : Qy := ⟨q.whr, q.group, q.tells.reverse⟩
theorem chkQuery_tells {q q' : Qy} (hw : q'.whr = q.whr) (hg : q'.group = q.group) (h1 : 0 < q'.tells.length) (h2 : q'.tells.length ≤ 10) (h3 : q'.tells.all tellB = true) (hz : chkQuery q = 0) : chkQuery q' = 0 := by
  obtain ⟨g1, g2, _⟩ := chkQuery_zero hz
  unfold chkQuery
  rw [hw, hg, g1, g2, if_neg (by decide), if_neg (by decide), if_neg (by omega), if_neg (by omega), if_pos h3]
theorem more_chk {q : Qy} {rows : List Rw} {t : Int × Int} (hz : chkAns q rows = 0) (ht : t ∈ q.tells) (hn : q.tells.length < 10) : chkAns (moreQ q t) rows = 0 := by
  obtain ⟨hq, hR⟩ := or2_zero hz
  obtain ⟨g1, g2, g3, g4, g5⟩ := chkQuery_zero hq
  unfold chkAns
  rw [chkQuery_tells (q := q) (q' := moreQ q t) rfl rfl (by simp [moreQ]) (by simp [moreQ]; omega) (by
    have := List.all_eq_true.1 g5 t ht
    simp only [moreQ, List.all_append, g5, List.all_cons, this, List.all_nil, Bool.and_self]) hq, hR]; rfl
theorem turn_chk {q : Qy} {rows : List Rw} (hz : chkAns q rows = 0) : chkAns (turnQ q) rows = 0 := by
  obtain ⟨hq, hR⟩ := or2_zero hz
  obtain ⟨g1, g2, g3, g4, g5⟩ := chkQuery_zero hq
  unfold chkAns
  rw [chkQuery_tells (q := q) (q' := turnQ q) rfl rfl (by simpa [turnQ] using g3) (by simpa [turnQ] using g4) (by simpa [turnQ] using g5) hq, hR]; rfl
theorem ansF_zero {q : Qy} {rows : List Rw} (hz : chkAns q rows = 0) : ansF q rows = answerR q rows := by unfold ansF; rw [if_pos hz]
theorem turn_ans {q : Qy} {rows : List Rw} (hz : chkAns q rows = 0) : ansF (turnQ q) rows = (ansF q rows).map revG := by
  rw [ansF_zero hz, ansF_zero (turn_chk hz)]
  unfold answerR
  rw [List.map_map]
  refine List.map_congr_left fun k _ => ?_
  show Gp.mk _ _ (q.tells.reverse.map _) = revG (gpR q rows k)
  unfold gpR revG
  rw [List.map_reverse]
  rfl
theorem ans_told_len {q : Qy} {rows : List Rw} (hz : chkAns q rows = 0) {g : Gp} (hg : g ∈ ansF q rows) : g.told.length = q.tells.length := by
  rw [ansF_zero hz] at hg
  obtain ⟨k, _, rfl⟩ := List.mem_map.1 hg
  simp [gpR]
theorem more_len {q : Qy} {rows : List Rw} {t : Int × Int} (hz : chkAns q rows = 0) (ht : t ∈ q.tells) (hn : q.tells.length < 10) : (ansF (moreQ q t) rows).length = (ansF q rows).length := by
  rw [ansF_zero hz, ansF_zero (more_chk hz ht hn)]
  unfold answerR
  rw [List.length_map, List.length_map]; rfl
theorem more_get {q : Qy} {rows : List Rw} {t : Int × Int} (hz : chkAns q rows = 0) (ht : t ∈ q.tells) (hn : q.tells.length < 10) {j : Nat} {g g1 : Gp} (hg : (ansF q rows)[j]? = some g) (hg1 : (ansF (moreQ q t) rows)[j]? = some g1) :
    ∃ r : Int × Int, g1 = ⟨g.number, g.text, g.told ++ [r]⟩ ∧ ∀ i : Nat, q.tells[i]? = some t → g.told[i]? = some r := by
  rw [ansF_zero hz] at hg
  rw [ansF_zero (more_chk hz ht hn)] at hg1
  unfold answerR at hg hg1
  have hk : keysR (moreQ q t) rows = keysR q rows := rfl
  rw [hk] at hg1
  rw [List.getElem?_map] at hg hg1
  obtain ⟨k, h1, rfl⟩ := Option.map_eq_some_iff.1 hg
  rw [h1] at hg1
  cases hg1
  refine ⟨toldF t (grpR q rows k), ?_, fun i hi => ?_⟩
  · show Gp.mk _ _ ((q.tells ++ [t]).map _) = _
    rw [List.map_append]
    rfl
  · simp [gpR, hi]
end Go.Proofs.YtbdbmpmijmmbeaaGreatDoor
