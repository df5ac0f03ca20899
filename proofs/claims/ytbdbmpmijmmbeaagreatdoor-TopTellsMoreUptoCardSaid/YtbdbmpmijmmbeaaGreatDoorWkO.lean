/- Answer: what it hands back, as plain lists. -/
import Derived.Test.YtbdbmpmijmmbeaaGreatDoorWkN
namespace Go.Proofs.YtbdbmpmijmmbeaaGreatDoor
open Go.RowKit

/-- Keys without repetition, in the order in which they first come. -/
def dedup (l : List Ky) : List Ky := l.foldl addK []
theorem firsts_dedup (ps : List (Ky × RS)) : firsts ps = dedup (ps.map (·.1)) := by
  unfold firsts dedup; rw [List.foldl_map]
/-- The rows that a query asks for. -/
def heldR (q : Qy) (rows : List Rw) : List Rw := rows.filter fun r => holdsF r q.whr
def grpR (q : Qy) (rows : List Rw) (k : Ky) : List Rw := rows.filter fun r => holdsF r q.whr && decide (k ∈ keysF q.group r)
def keysR (q : Qy) (rows : List Rw) : List Ky := dedup ((heldR q rows).flatMap (keysF q.group))
def gpR (q : Qy) (rows : List Rw) (k : Ky) : Gp := ⟨k.1, k.2, q.tells.map fun t => toldF t (grpR q rows k)⟩
def answerR (q : Qy) (rows : List Rw) : List Gp := ((keysR q rows).mergeSort kyLe).map (gpR q rows)
theorem prs_keys (g : Int) (c : Cd) (xs : List RS) : (prs g c xs).map (·.1) = ((xs.map (·.1)).filter fun r => holdsF r c).flatMap (keysF g) := by
  induction xs with
  | nil => rfl
  | cons x r ih =>
    unfold prs at ih ⊢
    rw [List.map_cons, List.filter_cons, List.filter_cons]
    cases holdsF x.1 c
    · simpa using ih
    · simp only [if_true, List.flatMap_cons, List.map_append, ih]
      simp [Function.comp_def]
theorem answerF_eq {q : Qy} {xs : List RS} (h : ∀ x ∈ xs, chkRow x.1 = 0) : answerF q xs = answerR q (xs.map (·.1)) := by
  have hk : firsts (prs q.group q.whr xs) = keysR q (xs.map (·.1)) := by rw [firsts_dedup, prs_keys]; rfl
  have hg : ∀ k, (grp (prs q.group q.whr xs) k).map (·.1) = grpR q (xs.map (·.1)) k := fun k => by
    rw [grp_prs (fun x hx => keysF_nodup _ (h x hx)), grpR, List.filter_map]
    rfl
  unfold answerF answerR
  rw [hk]
  congr 1
  funext k
  unfold gpF gpR
  rw [hg]

/-- The code that Answer hands back, and its groups. -/
def chkAns (q : Qy) (rows : List Rw) : Int := or2 (chkQuery q) (chkRows rows)
def ansF (q : Qy) (rows : List Rw) : List Gp := if chkAns q rows = 0 then answerR q rows else []
theorem or2_zero {a b : Int} (h : or2 a b = 0) : a = 0 ∧ b = 0 := by
  unfold or2 at h; split at h
  · contradiction
  · rename_i h'; exact ⟨by omega, h⟩
theorem chkRowsFrom_zero : ∀ {l : List Rw} {known : List ByteArray}, chkRowsFrom known l = 0 → (∀ r ∈ l, chkRow r = 0) ∧ (l.map (·.name)).Nodup ∧ ∀ r ∈ l, r.name ∉ known
  | [], _, _ => ⟨fun r h => (by cases h), by simp, fun r h => (by cases h)⟩
  | r :: l, known, h => by
    unfold chkRowsFrom at h
    split at h
    · contradiction
    · rename_i h0
      split at h
      · cases h
      · rename_i h1
        obtain ⟨h2, h3, h4⟩ := chkRowsFrom_zero h
        refine ⟨fun x hx => ?_, ?_, fun x hx => ?_⟩
        · rcases List.mem_cons.1 hx with rfl | hx
          · omega
          · exact h2 x hx
        · rw [List.map_cons, List.nodup_cons]
          refine ⟨fun hm => ?_, h3⟩
          obtain ⟨y, hy, e⟩ := List.mem_map.1 hm
          exact h4 y hy (by rw [e]; simp)
        · rcases List.mem_cons.1 hx with rfl | hx
          · exact h1
          · exact fun hk => h4 x hx (by simp [hk])
theorem chkRows_zero {l : List Rw} (h : chkRows l = 0) : l.length ≤ 5000 ∧ (∀ r ∈ l, chkRow r = 0) ∧ (l.map (·.name)).Nodup := by
  unfold chkRows at h
  split at h
  · cases h
  · obtain ⟨h1, h2, _⟩ := chkRowsFrom_zero h; exact ⟨by omega, h1, h2⟩
theorem chkQuery_zero {q : Qy} (h : chkQuery q = 0) : chkCond q.whr = 0 ∧ inB q.group 0 4 = true ∧ 0 < q.tells.length ∧ q.tells.length ≤ 10 ∧ q.tells.all tellB = true := by
  unfold chkQuery at h
  split at h
  · contradiction
  · rename_i h1
    split at h
    · cases h
    · rename_i h2
      split at h
      · cases h
      · rename_i h3
        split at h
        · cases h
        · rename_i h4
          split at h
          · rename_i h5; exact ⟨by omega, by simpa using h2, by omega, by omega, h5⟩
          · cases h
theorem chkCond_zero {d : Cd} (h : chkCond d = 0) : d.parts ≤ 100 ∧ chkPart 0 d = 0 := by
  unfold chkCond at h
  split at h
  · cases h
  · exact ⟨by omega, h⟩

/-- The ending of Answer. -/
def Ans16 (w : World) (gs : List Gp) (c : Int) (e : Ending) (w' : World) : Prop :=
  ∃ v : Sl, e = .returned (.tuple #[.slice v.a v.n v.c, .int .i64 c]) ∧ GroupsAt (fun b => w.heap.size ≤ b ∧ b < w'.heap.size) w' gs v ∧ Below w.heap.size w w'

theorem answer51_any {q : Qy} {rows : List Rw} {s u t : Sl} {w : World} {p : Nat → Prop} {m : Int} (hc : CondAt p w q.whr s) (ht : TwosAt p w q.tells u) (hr : RowsAt p w rows t)
    (hp : ∀ b, p b → b < w.heap.size) (hm : w.cell? ⟨0, 0, none⟩ = some (.int .i64 m)) (hq : chkQuery q = 0) (hR : chkRows rows = 0) :
    Calls Tryz.prog 51 #[q.val s u, .slice t.a t.n t.c] w (AnsPost w (answerR q rows)) := by
  obtain ⟨xs, rfl, h1, h2, h3, h4⟩ := rows_choose hr
  obtain ⟨g1, g2, g3, g4, g5⟩ := chkQuery_zero hq
  obtain ⟨r1, r2, _⟩ := chkRows_zero hR
  have r2' : ∀ x ∈ xs, chkRow x.1 = 0 := fun x hx => r2 _ (List.mem_map_of_mem hx)
  rw [← answerF_eq r2']
  exact answer_xs q xs s u t w p 0 m hc ht h1 h2 h3 h4 hp hm (chkCond_zero g1).2 g2 g5 g4 (by simpa using r1) r2'

set_option maxHeartbeats 1000000 in
theorem answer16_any {q : Qy} {rows : List Rw} {s u t : Sl} {w : World} {p : Nat → Prop} {m : Int} (hc : CondAt p w q.whr s) (ht : TwosAt p w q.tells u) (hr : RowsAt p w rows t)
    (hp : ∀ b, p b → b < w.heap.size) (hm : w.cell? ⟨0, 0, none⟩ = some (.int .i64 m)) (hn : q.whr.parts ≤ 2000000) :
    Calls Tryz.prog 16 #[q.val s u, .slice t.a t.n t.c] w (Ans16 w (ansF q rows) (chkAns q rows)) := by
  have H1 := Lib.hid (fun W (hB : Below w.heap.size w W) => checkQuery_any (hc.to hp hB) (ht.to hp hB) (below_size hB hp) hn)
  have H2 := Lib.hid (fun W (hB : Below w.heap.size w W) => checkRows_all (hr.to hp hB) (below_size hB hp))
  have H3 := Lib.hid (fun W (hB : Below w.heap.size w W) h1 h2 => answer51_any (hc.to hp hB) (ht.to hp hB) (hr.to hp hB) (below_size hB hp) (bel_cell hm hB) h1 h2)
  clear hc ht hr hp hm hn
  go_enter Tryz.func16, Tryz.ntmps16
  go_wp2_with fail
  refine (H1.out _ (below_alloc (below_refl w) _)).mono ?_
  rintro e W1 ⟨rfl, hb1⟩
  have hB1 := below_trans (below_alloc (below_refl w) _) hb1
  go_wp2_with fail
  refine (H2.out _ hB1).mono ?_
  rintro e W2 ⟨rfl, hb2⟩
  have hB2 := below_trans hB1 hb2
  go_wp2_with fail
  have z0 := blk_cell (blk_new W2 (.cells #[.int .i64 (chkQuery q), .int .i64 (chkRows rows)] 29)) 0 rfl
  have z1 := blk_cell (blk_new W2 (.cells #[.int .i64 (chkQuery q), .int .i64 (chkRows rows)] 29)) 1 rfl
  refine (or_any _ _ _ _ z0 z1).mono ?_
  rintro e W3 ⟨rfl, rfl⟩
  have hB3 := below_alloc hB2 (.cells #[.int .i64 (chkQuery q), .int .i64 (chkRows rows)] 29)
  have hold : (W2.alloc (.cells #[.int .i64 (chkQuery q), .int .i64 (chkRows rows)] 29)).heap[w.heap.size]? = some (.cells #[.int .i64 q.whr.kind, .int .i64 q.whr.field, .int .i64 q.whr.low, .int .i64 q.whr.high, .string q.whr.text, .slice s.a s.n s.c, .int .i64 q.group, .slice u.a u.n u.c] 27) :=
    blk_alloc (blk_keep (blk_keep (blk_new w _) hb1) hb2) _
  generalize W2.alloc (.cells #[.int .i64 (chkQuery q), .int .i64 (chkRows rows)] 29) = W4 at hB3 hold z0 z1 ⊢
  clear z0 z1
  cases hz : (or2 (chkQuery q) (chkRows rows) != 0)
  · have hz2 : or2 (chkQuery q) (chkRows rows) = 0 := bne_eq_false_iff_eq.1 hz
    have HZ := Lib.hid hz2
    have c0 := blk_cell hold 0 rfl
    have c1 := blk_cell hold 1 rfl
    have c2 := blk_cell hold 2 rfl
    have c3 := blk_cell hold 3 rfl
    have c4 := blk_cell hold 4 rfl
    have c5 := blk_cell hold 5 rfl
    have c6 := blk_cell hold 6 rfl
    have c7 := blk_cell hold 7 rfl
    clear hold hz2
    go_wp2_with fail
    refine (H3.out _ hB3 (or2_zero HZ.out).1 (or2_zero HZ.out).2).mono ?_
    rintro e W5 ⟨v, rfl, hg, hb5⟩
    go_wp2_with fail
    refine bodyPost_ret (v := .tuple #[.slice v.a v.n v.c, .int .i64 0]) (by simp [results, Tryz.results16, go_sem]) rfl ⟨v, by unfold chkAns; rw [HZ.out], ?_, below_trans hB3 hb5⟩
    have : ansF q rows = answerR q rows := by unfold ansF chkAns; rw [if_pos HZ.out]
    rw [this]
    exact hg.imp fun c hc => ⟨Nat.le_trans hB3.size hc.1, hc.2⟩
  · have HZ := Lib.hid (bne_iff_ne.1 hz)
    clear hold
    go_wp2_with fail
    refine bodyPost_ret (v := .tuple #[.slice none 0 0, .int .i64 (or2 (chkQuery q) (chkRows rows))]) (by simp [results, Tryz.results16, go_sem]) rfl ⟨⟨none, 0, 0⟩, rfl, ?_, hB3⟩
    have : ansF q rows = [] := by unfold ansF chkAns; rw [if_neg HZ.out]
    rw [this]
    exact .nil
end Go.Proofs.YtbdbmpmijmmbeaaGreatDoor
