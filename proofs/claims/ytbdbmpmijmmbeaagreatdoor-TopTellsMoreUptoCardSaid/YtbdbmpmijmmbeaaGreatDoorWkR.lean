/- wCond: a condition laid anew. -/
import Derived.Test.YtbdbmpmijmmbeaaGreatDoorWkQ
namespace Go.Proofs.YtbdbmpmijmmbeaaGreatDoor
open Go.RowKit

theorem cond_choose {p : Nat → Prop} {w : World} {d : Cd} {s : Sl} (h : CondAt p w d s) : s.n = d.kids.length ∧ s.n ≤ s.c ∧ s.c ≤ maxLen ∧ d.text.size ≤ maxLen ∧
    ∀ i k, d.kids[i]? = some k → ∃ b off u, s.a = some ⟨b, off, none⟩ ∧ p b ∧ SixAt w b (off + i * 6) k u ∧ CondAt p w k u := by
  cases h with
  | nil k f l h t ht => exact ⟨rfl, Nat.le_refl _, Nat.zero_le _, ht, fun i k h => by simp [Cd.kids] at h⟩
  | row k f l h t ks b off cap kv ht hp hn hc h6 hk => exact ⟨rfl, hn, hc, ht, fun i k hk' => ⟨b, off, kv i, rfl, hp, h6 i k hk', hk i k hk'⟩⟩

theorem setCell_other (w : World) {b c : Nat} (o : Nat) (v : Value) (h : c ≠ b) : (w.setCell ⟨b, o, none⟩ v).heap[c]? = w.heap[c]? := by
  simp only [World.setCell, Array.getElem?_modify]; rw [if_neg (fun e => h e.symm)]
theorem below_set {B : Nat} {w a : World} (h : Below B w a) {b o : Nat} (hb : B ≤ b) (v : Value) : Below B w (a.setCell ⟨b, o, none⟩ v) :=
  h.trans ⟨rfl, rfl, rfl, by simp [World.setCell], fun c hc => setCell_other a o v (by omega)⟩
/-- The ending: the same condition, laid in new blocks. -/
def CondPost (w : World) (d : Cd) (e : Ending) (w' : World) : Prop :=
  ∃ s : Sl, e = .returned (d.val s) ∧ CondAt (fun b => w.heap.size ≤ b ∧ b < w'.heap.size) w' d s ∧ Below w.heap.size w w'

set_option maxHeartbeats 2000000 in
theorem wCond_n (N : Nat) : ∀ (d : Cd) (s : Sl) (w : World) (p : Nat → Prop), d.parts ≤ N → d.parts ≤ 2000000 → CondAt p w d s → (∀ b, p b → b < w.heap.size) → Calls Tryz.prog 20 #[d.val s] w (CondPost w d) := by
  induction N with
  | zero => intro d s w p hd; have := d.parts_eq; omega
  | succ N ih =>
    intro d s w p hd hd2 hat hp
    obtain ⟨h1, h2, h3, h4, h5⟩ := cond_choose hat
    have hpe := d.parts_eq
    have hpl := Cd.partsL_length d.kids
    obtain ⟨k, f, l, h, t, ks⟩ := d
    obtain ⟨sa, sn, sc⟩ := s
    dsimp only [Cd.kids, Cd.text] at h1 h2 h3 h4 h5 hpl hpe
    subst h1
    have HD := Lib.hid (fun i kd (hk : ks[i]? = some kd) => Cd.parts_kid (c := .mk k f l h t ks) (d := kd) (i := i) hk)
    have IH := Lib.hid ih
    have H5 := Lib.hid h5
    have HPE := Lib.hid hpe
    have hpl3 : ks.length ≤ 2000000 := by omega
    clear hat ih h5 hpe
    go_enter Tryz.func20, Tryz.ntmps20
    go_wp2_with fail
    have hkl : ks.length ≤ 9223372036854775807 := by omega
    go_loopw [3, 5, 9] (fun v _ i W => ∃ (j : Nat) (ps : List (Cd × Sl)), j ≤ ks.length ∧ i = .int .i64 j ∧ Below w.heap.size w W ∧ w.heap.size + 1 < W.heap.size ∧
        W.heap[w.heap.size]? = some (.cells #[.int .i64 k, .int .i64 f, .int .i64 l, .int .i64 h, .string t, .slice sa ks.length sc] 24) ∧
        W.heap[w.heap.size + 1]? = some (.cells #[.int .i64 0, .int .i64 0, .int .i64 0, .int .i64 0, .string ⟨#[]⟩, .slice none 0 0] 24) ∧
        Owns W (w.heap.size + 2) 24 6 cdCells v ps ∧ ps.map (·.1) = ks.take j ∧ ∀ x ∈ ps, CondAt (fun b => w.heap.size + 2 ≤ b ∧ b < W.heap.size ∧ v.ownBlock ≠ some b) W x.1 x.2) (fun _ _ i _ => ks.length - (intOf i).toNat)
    case atStart =>
      refine ⟨0, [], by omega, rfl, below_alloc (below_alloc (below_refl w) _) _, by simp, blk_alloc (blk_new w _) _, ?_, owns_nil _ _ _ _ _, rfl, fun x hx => (by cases hx)⟩
      rw [← World.size_alloc w _]; exact blk_new _ _
    case round =>
      obtain ⟨j, ps, hj, rfl, hB, hz, hq, hr, hown, hps, hcs⟩ := hrel
      by_cases hlt : j < ks.length
      · obtain ⟨kd, hkj⟩ : ∃ x, ks[j]? = some x := ⟨_, List.getElem?_eq_getElem hlt⟩
        obtain ⟨b, off, u, rfl, hpb, h6, hck⟩ := H5.out j kd hkj
        obtain ⟨c0, c1, c2, c3, c4, c5⟩ := h6.move (hB.block b (hp b hpb))
        have hbw := hp b hpb
        have HKJ := Lib.hid hkj
        have HQ := Lib.hid hq
        have HR := Lib.hid hr
        have HPS := Lib.hid hps
        have HCS := Lib.hid hcs
        clear hkj hq hr hps hcs
        go_wp2_with fail
        have hkp := HD.out j kd HKJ.out
        have hB1 := below_alloc (below_refl wr) (.cells #[.int .i64 kd.kind, .int .i64 kd.field, .int .i64 kd.low, .int .i64 kd.high, .string kd.text, .slice u.a u.n u.c] 24)
        have hBa := below_alloc hB (.cells #[.int .i64 kd.kind, .int .i64 kd.field, .int .i64 kd.low, .int .i64 kd.high, .string kd.text, .slice u.a u.n u.c] 24)
        refine (IH.out kd u _ p (by omega) (by omega) (hck.to hp hBa) (below_size hBa hp)).mono ?_
        rintro e W2 ⟨s2, rfl, hc2, hb2⟩
        have hB2 := below_trans hB1 hb2
        have hBb := below_trans hB hB2
        have hz2 := hb2.size
        rw [World.size_alloc] at hz2 hc2
        have hown2 := (hown.below hB2).alloc (.cells (cdCells (kd, s2)).toArray 24)
        have hpl2 : ps.length ≤ 10000000 := by have := congrArg List.length HPS.out; simp at this; omega
        have hq2 := blk_keep HQ.out hB2
        have hr2 := blk_keep HR.out hB2
        have HQ2 := Lib.hid hq2
        have HR2 := Lib.hid hr2
        clear hq2 hr2
        go_wp2_with (refine wpList_push_at rfl (.tmp 13) (.tmp 16) 22 rfl (w.heap.size + 2) 24 (.agg #[.int .i64 0, .int .i64 0, .int .i64 0, .int .i64 0, .string ⟨#[]⟩, .slice none 0 0]) 6 72 Tryz.underlying22 Tryz.info24 rfl (by decide) (by decide) u3 ps cdCells cd_len (kd, s2) (cd_ones _) W2.heap.size (by rfl) (by rfl) (blk_new W2 _) hown2 hpl2 (by rw [World.size_alloc]; omega) ?_
                     intro v' W3 hv hgr hat
                     have HHAT := Lib.hid hat
                     clear hat)
        go_roundw
        case rel =>
          have hs3 := hgr.size
          rw [World.size_alloc] at hs3
          have hlw := fun c hc => hown.lt c hc
          have keep : ∀ c, c < W2.heap.size → u3.ownBlock ≠ some c → W3.heap[c]? = W2.heap[c]? := fun c h1 h2 => (hgr.block c (by rw [World.size_alloc]; omega) fun e => h2 e.symm).trans (heap_alloc_old _ _ h1)
          have hno : ∀ c, c < w.heap.size + 2 → u3.ownBlock ≠ some c := fun c h1 h2 => by have := (hlw c h2).1; omega
          refine ⟨j + 1, ps ++ [(kd, s2)], by omega, by go_num, below_grown (below_alloc hBb _) hgr fun c hc => by have := (hlw c hc).1; omega, by omega, (keep _ (by omega) (hno _ (by omega))).trans HQ2.out, (keep _ (by omega) (hno _ (by omega))).trans HR2.out, hv, ?_, ?_⟩
          · rw [List.map_append, HPS.out, List.take_add_one, HKJ.out]; rfl
          · intro x hx
            have nb : ∀ c, c < W2.heap.size → u3.ownBlock ≠ some c → v'.ownBlock ≠ some c := fun c h1 h2 => by
              rcases HHAT.out with e | e
              · rw [e]; exact h2
              · rw [e, World.size_alloc]; simp; omega
            rcases List.mem_append.1 hx with hx | hx
            · refine ((HCS.out x hx).move fun c hc => ?_).imp fun c hc => ⟨hc.1, by omega, nb c (by omega) hc.2.2⟩
              exact (keep c (by omega) hc.2.2).trans (hB2.block c hc.2.1)
            · simp at hx; subst hx
              have ho : ∀ c, wr.heap.size + 1 ≤ c → u3.ownBlock ≠ some c := fun c h1 h2 => by have := (hlw c h2).2; omega
              refine (hc2.move fun c hc => ?_).imp fun c hc => ⟨by omega, by omega, nb c hc.2 (ho c hc.1)⟩
              exact keep c hc.2 (ho c hc.1)
        case measure => simp [intOf]; omega
      · obtain rfl : j = ks.length := by omega
        rw [List.take_length] at hps
        obtain ⟨s2, rfl, hc2⟩ := cond_of_owns (q := fun b => w.heap.size + 2 ≤ b ∧ b < wr.heap.size) hown hcs (fun b hb => ⟨hb.1, hb.2.1⟩) (fun b hb => hown.lt b hb) k f l h t h4
        rw [hps] at hc2
        have q0 := blk_cell hq 0 rfl
        have q1 := blk_cell hq 1 rfl
        have q2 := blk_cell hq 2 rfl
        have q3 := blk_cell hq 3 rfl
        have q4 := blk_cell hq 4 rfl
        have q5 := blk_cell hq 5 rfl
        have qf := blk_free hq 5
        have qf0 := blk_free hr 0
        have qf1 := blk_free hr 1
        have qf2 := blk_free hr 2
        have qf3 := blk_free hr 3
        have qf4 := blk_free hr 4
        have qf5 := blk_free hr 5
        have r0 := blk_cell hr 0 rfl
        have r1 := blk_cell hr 1 rfl
        have r2 := blk_cell hr 2 rfl
        have r3 := blk_cell hr 3 rfl
        have r4 := blk_cell hr 4 rfl
        have r5 := blk_cell hr 5 rfl
        have HPS := Lib.hid hps
        have HQ := Lib.hid hq
        have HR := Lib.hid hr
        clear hps hcs hq hr
        go_wp2_with fail
        refine bodyPost_ret (v := Cd.val (.mk k f l h t ks) s2) (by simp [results, Tryz.results20, go_sem, r0, r1, r2, r3, r4, r5]; exact ⟨rfl, rfl, rfl, rfl, rfl⟩) rfl ⟨s2, rfl, ?_, ?_⟩
        · refine (hc2.move fun c hc => ?_).imp fun c hc => ⟨by omega, by simp; omega⟩
          simp only [setCell_other _ _ _ (by omega : c ≠ w.heap.size + 1), setCell_other _ _ _ (by omega : c ≠ w.heap.size)]
        · repeat refine below_set ?_ (by simp) _
          exact hB
end Go.Proofs.YtbdbmpmijmmbeaaGreatDoor
