/- A query laid cell by cell. -/
import Derived.Test.YtbdbmpmijmmbeaaGreatDoorLaw1
namespace Go.Proofs.YtbdbmpmijmmbeaaGreatDoor
open Go.RowKit

theorem set_blk' {w : World} {b : Nat} {cs : Array Value} {T : TypeId} {fr : Nat × Nat} (h : w.heap[b]? = some (.cells cs T fr)) (o : Nat) (v : Value) : (w.setCell ⟨b, o, none⟩ v).heap[b]? = some (.cells (cs.setIfInBounds o v) T fr) := by
  rw [setCell_obj h]; exact setObj_same (blk_lt h)
theorem ask_set {w V4 : World} {P kb G : Nat} {d mc : Cd} {s6 : Sl} {ua : Option Addr} {un uc : Nat} (hB : Below w.heap.size w V4)
    (hP : V4.heap[P]? = some (.cells #[.int .i64 0, .int .i64 0, .int .i64 0, .int .i64 0, .string ⟨#[]⟩, .slice none 0 0, .int .i64 0, .slice none 0 0] 27)) (hPw : w.heap.size ≤ P)
    (hkb : V4.heap[kb]? = some (.cells #[.int .i64 d.kind, .int .i64 d.field, .int .i64 d.low, .int .i64 d.high, .string d.text, .slice s6.a s6.n s6.c, .int .i64 mc.kind, .int .i64 mc.field, .int .i64 mc.low, .int .i64 mc.high, .string mc.text, .slice none 0 0] 24))
    (hkw : w.heap.size ≤ kb) (hne : kb ≠ P) (hc : CondAt (fun b => w.heap.size ≤ b ∧ b ≠ P ∧ b < V4.heap.size) V4 d s6) (hmk : mc.kids = []) (hmt : mc.text.size ≤ maxLen) (hG : G ≠ P) :
    (fun W : World => Below w.heap.size w W ∧ W.heap[P]? = some (.cells #[.int .i64 1, .int .i64 0, .int .i64 0, .int .i64 0, .string ⟨#[]⟩, .slice (some ⟨kb, 0, none⟩) 2 2, .int .i64 0, .slice ua un uc] 27) ∧
      CondAt (fun b => w.heap.size ≤ b ∧ b < W.heap.size) W (.mk 1 0 0 0 ⟨#[]⟩ [d, mc]) ⟨some ⟨kb, 0, none⟩, 2, 2⟩ ∧ W.heap[G]? = V4.heap[G]?)
      ((((((((V4.setCell ⟨P, 0, none⟩ (.int .i64 1)).setCell ⟨P, 1, none⟩ (.int .i64 0)).setCell ⟨P, 2, none⟩ (.int .i64 0)).setCell ⟨P, 3, none⟩ (.int .i64 0)).setCell ⟨P, 4, none⟩ (.string ⟨#[]⟩)).setCell ⟨P, 5, none⟩ (.slice (some ⟨kb, 0, none⟩) 2 2)).setCell ⟨P, 6, none⟩ (.int .i64 0)).setCell ⟨P, 7, none⟩ (.slice ua un uc)) := by
  have h8 := set_blk' (set_blk' (set_blk' (set_blk' (set_blk' (set_blk' (set_blk' (set_blk' hP 0 (.int .i64 1)) 1 (.int .i64 0)) 2 (.int .i64 0)) 3 (.int .i64 0)) 4 (.string ⟨#[]⟩)) 5 (.slice (some ⟨kb, 0, none⟩) 2 2)) 6 (.int .i64 0)) 7 (.slice ua un uc)
  have ho : ∀ c, c ≠ P → ((((((((V4.setCell ⟨P, 0, none⟩ (.int .i64 1)).setCell ⟨P, 1, none⟩ (.int .i64 0)).setCell ⟨P, 2, none⟩ (.int .i64 0)).setCell ⟨P, 3, none⟩ (.int .i64 0)).setCell ⟨P, 4, none⟩ (.string ⟨#[]⟩)).setCell ⟨P, 5, none⟩ (.slice (some ⟨kb, 0, none⟩) 2 2)).setCell ⟨P, 6, none⟩ (.int .i64 0)).setCell ⟨P, 7, none⟩ (.slice ua un uc)).heap[c]? = V4.heap[c]? := fun c hc => by
    simp only [setCell_other _ _ _ hc]
  have hs : ((((((((V4.setCell ⟨P, 0, none⟩ (.int .i64 1)).setCell ⟨P, 1, none⟩ (.int .i64 0)).setCell ⟨P, 2, none⟩ (.int .i64 0)).setCell ⟨P, 3, none⟩ (.int .i64 0)).setCell ⟨P, 4, none⟩ (.string ⟨#[]⟩)).setCell ⟨P, 5, none⟩ (.slice (some ⟨kb, 0, none⟩) 2 2)).setCell ⟨P, 6, none⟩ (.int .i64 0)).setCell ⟨P, 7, none⟩ (.slice ua un uc)).heap.size = V4.heap.size := by
    simp [World.setCell]
  have hBx : Below w.heap.size w ((((((((V4.setCell ⟨P, 0, none⟩ (.int .i64 1)).setCell ⟨P, 1, none⟩ (.int .i64 0)).setCell ⟨P, 2, none⟩ (.int .i64 0)).setCell ⟨P, 3, none⟩ (.int .i64 0)).setCell ⟨P, 4, none⟩ (.string ⟨#[]⟩)).setCell ⟨P, 5, none⟩ (.slice (some ⟨kb, 0, none⟩) 2 2)).setCell ⟨P, 6, none⟩ (.int .i64 0)).setCell ⟨P, 7, none⟩ (.slice ua un uc)) := by
    repeat refine below_set ?_ hPw _
    exact hB
  generalize (((((((V4.setCell ⟨P, 0, none⟩ (.int .i64 1)).setCell ⟨P, 1, none⟩ (.int .i64 0)).setCell ⟨P, 2, none⟩ (.int .i64 0)).setCell ⟨P, 3, none⟩ (.int .i64 0)).setCell ⟨P, 4, none⟩ (.string ⟨#[]⟩)).setCell ⟨P, 5, none⟩ (.slice (some ⟨kb, 0, none⟩) 2 2)).setCell ⟨P, 6, none⟩ (.int .i64 0)).setCell ⟨P, 7, none⟩ (.slice ua un uc) = W at h8 ho hs hBx ⊢
  have hk2 := (ho kb hne).trans hkb
  refine ⟨hBx, h8, ?_, ho G hG⟩
  obtain ⟨k, f, l, h, t, ks⟩ := mc
  dsimp only [Cd.kids, Cd.text] at hmk hmt
  subst hmk
  refine .row 1 0 0 0 ⟨#[]⟩ [d, .mk k f l h t []] kb 0 2 (fun i => if i = 0 then s6 else ⟨none, 0, 0⟩) (by decide) ⟨hkw, blk_lt hk2⟩ (by simp) (by decide) (fun i x hx => ?_) fun i x hx => ?_
  · rcases i with _ | _ | i
    · simp at hx; subst hx
      exact ⟨blk_cell hk2 0 rfl, blk_cell hk2 1 rfl, blk_cell hk2 2 rfl, blk_cell hk2 3 rfl, blk_cell hk2 4 rfl, blk_cell hk2 5 rfl⟩
    · simp at hx; subst hx
      exact ⟨blk_cell hk2 6 rfl, blk_cell hk2 7 rfl, blk_cell hk2 8 rfl, blk_cell hk2 9 rfl, blk_cell hk2 10 rfl, blk_cell hk2 11 rfl⟩
    · simp at hx
  · rcases i with _ | _ | i
    · simp at hx; subst hx
      exact (hc.move fun b hb => ho b hb.2.1).imp fun b hb => ⟨hb.1, by omega⟩
    · simp at hx; subst hx
      exact .nil k f l h t hmt
    · simp at hx
end Go.Proofs.YtbdbmpmijmmbeaaGreatDoor
