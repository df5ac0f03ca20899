/- The keys of a row's groups. -/
import Derived.Test.YtbdbmpmijmmbeaaGreatDoorWkJ
import Derived.Test.YtbdbmpmijmmbeaaGreatDoorPush
namespace Go.Proofs.YtbdbmpmijmmbeaaGreatDoor
open Go.RowKit

/-- A key: its number, its text. -/
def keyCells (k : Int × ByteArray) : List Value := [.int .i64 k.1, .string k.2]
abbrev KeysAt (p : Nat → Prop) (w : World) : List (Int × ByteArray) → Sl → Prop :=
  ArrAt p 2 fun b o k => w.cell? ⟨b, o, none⟩ = some (.int .i64 k.1) ∧ w.cell? ⟨b, o + 1, none⟩ = some (.string k.2)
def keysF (g : Int) (r : Rw) : List (Int × ByteArray) :=
  if g = 0 then [(0, ⟨#[]⟩)] else if g = 1 then [(r.start / 86400, ⟨#[]⟩)] else if g = 2 then [(r.start / 86400 - r.start / 86400 % 7, ⟨#[]⟩)] else if g = 3 then [(r.sport, ⟨#[]⟩)] else r.tags.map fun t => (0, t)
def KeysPost (w : World) (ks : List (Int × ByteArray)) (e : Ending) (w' : World) : Prop :=
  ∃ s : Sl, e = .returned (.slice s.a s.n s.c) ∧ KeysAt (fun b => w.heap.size ≤ b ∧ b < w'.heap.size) w' ks s ∧ Below w.heap.size w w'

theorem keys_one {w w' : World} {n : Int} {t : ByteArray} {b : Nat} (hb : w.heap.size ≤ b) (hblk : w'.heap[b]? = some (.cells #[.int .i64 n, .string t] 114)) (hB : Below w.heap.size w w') :
    KeysPost w [(n, t)] (.returned (.slice (some ⟨b, 0, none⟩) 1 1)) w' := by
  refine ⟨⟨some ⟨b, 0, none⟩, 1, 1⟩, rfl, .row [(n, t)] b 0 1 ⟨hb, blk_lt hblk⟩ (by simp) (by decide) fun i x hx => ?_, hB⟩
  cases i with
  | zero => simp at hx; subst hx; exact ⟨blk_cell hblk 0 rfl, blk_cell hblk 1 rfl⟩
  | succ i => simp at hx

theorem keys_0 (r : Rw) (u : Sl) (w : World) (h0 : 0 ≤ r.start) (h1 : r.start ≤ 86399999999) : Calls Tryz.prog 75 #[.int .i64 0, r.val u] w (KeysPost w [(0, ⟨#[]⟩)]) := by
  go_enter Tryz.func75, Tryz.ntmps75
  go_wp2
  go_ret
  exact keys_one (by omega) (by rw [← World.size_alloc w _]; exact blk_new _ _) (below_alloc (below_alloc (below_refl w) _) _)
theorem keys_1 (r : Rw) (u : Sl) (w : World) (h0 : 0 ≤ r.start) (h1 : r.start ≤ 86399999999) : Calls Tryz.prog 75 #[.int .i64 1, r.val u] w (KeysPost w [(r.start / 86400, ⟨#[]⟩)]) := by
  go_enter Tryz.func75, Tryz.ntmps75
  go_wp2
  go_ret
  exact keys_one (by omega) (by rw [← World.size_alloc w _]; exact blk_new _ _) (below_alloc (below_alloc (below_refl w) _) _)
theorem keys_2 (r : Rw) (u : Sl) (w : World) (h0 : 0 ≤ r.start) (h1 : r.start ≤ 86399999999) : Calls Tryz.prog 75 #[.int .i64 2, r.val u] w (KeysPost w [(r.start / 86400 - r.start / 86400 % 7, ⟨#[]⟩)]) := by
  go_enter Tryz.func75, Tryz.ntmps75
  go_wp2
  go_ret
  exact keys_one (by omega) (by rw [← World.size_alloc w _]; exact blk_new _ _) (below_alloc (below_alloc (below_refl w) _) _)
theorem keys_3 (r : Rw) (u : Sl) (w : World) (h0 : 0 ≤ r.start) (h1 : r.start ≤ 86399999999) : Calls Tryz.prog 75 #[.int .i64 3, r.val u] w (KeysPost w [(r.sport, ⟨#[]⟩)]) := by
  go_enter Tryz.func75, Tryz.ntmps75
  go_wp2
  go_ret
  exact keys_one (by omega) (by rw [← World.size_alloc w _]; exact blk_new _ _) (below_alloc (below_alloc (below_refl w) _) _)

theorem Tryz.info114 : (Tryz.prog.info? 114).map (fun i => (i.zero, i.size, i.bytes)) = some (some (.agg #[(.int .i64 0), (.string ⟨#[]⟩)]), 2, 24) := by kernel_rfl

theorem keys_4 (r : Rw) (u : Sl) (w : World) (p : Nat → Prop) (h0 : 0 ≤ r.start) (h1 : r.start ≤ 86399999999) (ht : StrsAt p w r.tags u) (hp : ∀ b, p b → b < w.heap.size) (hn : r.tags.length ≤ 20) :
    Calls Tryz.prog 75 #[.int .i64 4, r.val u] w (KeysPost w (r.tags.map fun t => (0, t))) := by
  obtain ⟨name, sport, start, way, climb, seconds, load, tags⟩ := r
  dsimp only at h0 h1 hn
  cases ht with
  | nil =>
    go_enter Tryz.func75, Tryz.ntmps75
    go_wp2
    refine wp_loop_rounds 1 ?_
    rw [rounds_succ]; go_wp2
    go_ret
    exact ⟨⟨none, 0, 0⟩, rfl, .nil, below_alloc (below_refl w) _⟩
  | row xs b off cap hb hcap hmax hR =>
    dsimp only at hcap
    have hbw := hp b hb
    go_enter Tryz.func75, Tryz.ntmps75
    go_wp2
    go_loopw [6, 8, 39] (fun v _ i wr => ∃ j : Nat, j ≤ tags.length ∧ i = .int .i64 j ∧ Below w.heap.size w wr ∧
      Owns wr w.heap.size 114 2 keyCells v ((tags.take j).map fun t => ((0 : Int), t))) (fun _ _ i _ => tags.length - (intOf i).toNat)
    case atStart => exact ⟨0, by omega, rfl, below_alloc (below_refl w) _, owns_nil _ _ _ _ _⟩
    case round =>
      obtain ⟨j, hj, rfl, hB, hown⟩ := hrel
      by_cases hlt : j < tags.length
      · obtain ⟨t, hx⟩ : ∃ t, tags[j]? = some t := ⟨_, List.getElem?_eq_getElem hlt⟩
        have c0 := (cell_same (hB.block b hbw) _).trans (hR j t hx).1
        simp only [Nat.mul_one] at c0
        have HO := Lib.hid hown
        have HT := Lib.hid (take_map (f := fun t => ((0 : Int), t)) hx)
        have hown2 := hown.lt
        have HW := Lib.hid hown2
        clear hown hx hR hown2
        go_wp2_with (at_builtin; refine wpList_push rfl (.tmp 43) (.tmp 46) 111 rfl w.heap.size 114 (.agg #[.int .i64 0, .string ⟨#[]⟩]) 2 24 Tryz.underlying111 Tryz.info114 rfl (by decide) (by decide) _ _ keyCells (fun _ => rfl) ((0 : Int), t) (by simp [keyCells, Value.oneCell']) wr.heap.size rfl rfl (blk_new _ _) (HO.out.alloc _) ?c3 ?c5 ?_; rotate_left; rotate_left; intro v2 w2 hown2 hg2; have hB2 := below_grown (below_alloc hB _) hg2 (fun b h => (HW.out b h).1); have HO2 := Lib.hid hown2; clear hown2 hg2)
        case c3 => simp; omega
        case c5 => exact (below_alloc hB _).size
        go_roundw
        case rel => exact ⟨j + 1, by omega, by go_num, hB2, by rw [HT.out]; exact HO2.out⟩
        case measure => simp [intOf]; omega
      · obtain rfl : j = tags.length := by omega
        have HO := Lib.hid hown
        clear hj hown
        go_wp2
        go_ret
        have h := HO.out
        rw [List.take_length] at h
        obtain ⟨s, hs, ha⟩ := h.arr (fun _ => rfl)
        exact ⟨s, by rw [← hs]; rfl, ha.imp (fun b h => ⟨h.1, h.2.1⟩) (fun b _ o x _ h => ⟨h 0 _ rfl, h 1 _ rfl⟩), hB⟩

theorem keys_any (g : Int) (r : Rw) (u : Sl) (w : World) (p : Nat → Prop) (hg : inB g 0 4 = true) (h0 : 0 ≤ r.start) (h1 : r.start ≤ 86399999999) (ht : StrsAt p w r.tags u) (hp : ∀ b, p b → b < w.heap.size) (hn : r.tags.length ≤ 20) :
    Calls Tryz.prog 75 #[.int .i64 g, r.val u] w (KeysPost w (keysF g r)) := by
  simp only [inB, Bool.and_eq_true, decide_eq_true_eq] at hg
  rcases (by omega : g = 0 ∨ g = 1 ∨ g = 2 ∨ g = 3 ∨ g = 4) with rfl | rfl | rfl | rfl | rfl
  · exact keys_0 r u w h0 h1
  · exact keys_1 r u w h0 h1
  · exact keys_2 r u w h0 h1
  · exact keys_3 r u w h0 h1
  · exact keys_4 r u w p h0 h1 ht hp hn
end Go.Proofs.YtbdbmpmijmmbeaaGreatDoor
