/- holds of the package ask. -/
import Derived.Test.YtbdbmpmijmmbeaaGreatDoorWkG
import Derived.Test.YtbdbmpmijmmbeaaGreatDoorShelf
import Derived.Deep.RegionHeld3
import Derived.Laws.EntriesVeiled
import Derived.StillTailTactics
namespace Go.Proofs.YtbdbmpmijmmbeaaGreatDoor
open Go.RowKit

/-- A number of a row. -/
def numF (f : Int) (r : Rw) : Int :=
  if f = 1 then r.start else if f = 2 then r.start / 86400 else if f = 3 then r.way else if f = 4 then r.climb else if f = 5 then r.seconds else if f = 6 then r.load else r.start / 86400 % 7

theorem num1 (r : Rw) (u : Sl) (w : World) : Calls Tryz.prog 117 #[r.val u] w fun e w' => e = .returned (.int .i64 r.start) ∧ Below w.heap.size w w' := by
  go_enter Tryz.func117, Tryz.ntmps117
  go_wp2
  go_ret
  exact ⟨rfl, below_alloc (below_refl w) _⟩
theorem num2 (r : Rw) (u : Sl) (w : World) (h0 : 0 ≤ r.start) (h1 : r.start ≤ 86399999999) : Calls Tryz.prog 118 #[r.val u] w fun e w' => e = .returned (.int .i64 (r.start / 86400)) ∧ Below w.heap.size w w' := by
  go_enter Tryz.func118, Tryz.ntmps118
  go_wp2
  go_ret
  exact ⟨rfl, below_alloc (below_refl w) _⟩
theorem num3 (r : Rw) (u : Sl) (w : World) : Calls Tryz.prog 119 #[r.val u] w fun e w' => e = .returned (.int .i64 r.way) ∧ Below w.heap.size w w' := by
  go_enter Tryz.func119, Tryz.ntmps119
  go_wp2
  go_ret
  exact ⟨rfl, below_alloc (below_refl w) _⟩
theorem num4 (r : Rw) (u : Sl) (w : World) : Calls Tryz.prog 120 #[r.val u] w fun e w' => e = .returned (.int .i64 r.climb) ∧ Below w.heap.size w w' := by
  go_enter Tryz.func120, Tryz.ntmps120
  go_wp2
  go_ret
  exact ⟨rfl, below_alloc (below_refl w) _⟩
theorem num5 (r : Rw) (u : Sl) (w : World) : Calls Tryz.prog 121 #[r.val u] w fun e w' => e = .returned (.int .i64 r.seconds) ∧ Below w.heap.size w w' := by
  go_enter Tryz.func121, Tryz.ntmps121
  go_wp2
  go_ret
  exact ⟨rfl, below_alloc (below_refl w) _⟩
theorem num6 (r : Rw) (u : Sl) (w : World) : Calls Tryz.prog 122 #[r.val u] w fun e w' => e = .returned (.int .i64 r.load) ∧ Below w.heap.size w w' := by
  go_enter Tryz.func122, Tryz.ntmps122
  go_wp2
  go_ret
  exact ⟨rfl, below_alloc (below_refl w) _⟩
theorem num7 (r : Rw) (u : Sl) (w : World) (h0 : 0 ≤ r.start) (h1 : r.start ≤ 86399999999) : Calls Tryz.prog 123 #[r.val u] w fun e w' => e = .returned (.int .i64 (r.start / 86400 % 7)) ∧ Below w.heap.size w w' := by
  go_enter Tryz.func123, Tryz.ntmps123
  go_wp2
  go_ret
  exact ⟨rfl, below_alloc (below_refl w) _⟩
/-- The function of a number, as the table has it. -/
theorem num_any (f : Nat) (r : Rw) (u : Sl) (w : World) (hf : 1 ≤ f) (hf' : f ≤ 7) (h0 : 0 ≤ r.start) (h1 : r.start ≤ 86399999999) :
    Calls Tryz.prog (116 + f) #[r.val u] w fun e w' => e = .returned (.int .i64 (numF f r)) ∧ Below w.heap.size w w' := by
  rcases (by omega : f = 1 ∨ f = 2 ∨ f = 3 ∨ f = 4 ∨ f = 5 ∨ f = 6 ∨ f = 7) with rfl | rfl | rfl | rfl | rfl | rfl | rfl
  · exact num1 r u w
  · exact num2 r u w h0 h1
  · exact num3 r u w
  · exact num4 r u w
  · exact num5 r u w
  · exact num6 r u w
  · exact num7 r u w h0 h1
theorem numEnters (f : Nat) (hf : 1 ≤ f) (hf' : f ≤ 7) : Enters Tryz.prog (116 + f) := by
  rcases (by omega : f = 1 ∨ f = 2 ∨ f = 3 ∨ f = 4 ∨ f = 5 ∨ f = 6 ∨ f = 7) with rfl | rfl | rfl | rfl | rfl | rfl | rfl
  · exact enters_of Tryz.func117 (by kernel_rfl) rfl
  · exact enters_of Tryz.func118 (by kernel_rfl) rfl
  · exact enters_of Tryz.func119 (by kernel_rfl) rfl
  · exact enters_of Tryz.func120 (by kernel_rfl) rfl
  · exact enters_of Tryz.func121 (by kernel_rfl) rfl
  · exact enters_of Tryz.func122 (by kernel_rfl) rfl
  · exact enters_of Tryz.func123 (by kernel_rfl) rfl
theorem numCells_at (f : Nat) (hf : 1 ≤ f) (hf' : f ≤ 7) : numCells[f * 2 + 1]? = some (.func (.func (116 + f)) #[] #[]) := by
  rcases (by omega : f = 1 ∨ f = 2 ∨ f = 3 ∨ f = 4 ∨ f = 5 ∨ f = 6 ∨ f = 7) with rfl | rfl | rfl | rfl | rfl | rfl | rfl <;> rfl

mutual
/-- Does a condition hold for a row? -/
def holdsF (r : Rw) : Cd → Bool
  | .mk k f l h t ks =>
    if k = 1 then (holdsL r ks).all id
    else if k = 2 then (holdsL r ks).any id
    else if k = 3 then !((holdsL r ks).headD false)
    else if k = 4 then r.sport == l
    else if k = 5 then r.tags.any fun x => decide (x = t)
    else if k = 6 then Lib.contains r.name.data.toList t.data.toList
    else inB (numF f r) l h
def holdsL (r : Rw) : List Cd → List Bool
  | [] => []
  | d :: ds => holdsF r d :: holdsL r ds
end
theorem holdsL_eq (r : Rw) (ks : List Cd) : holdsL r ks = ks.map (holdsF r) := by
  induction ks with
  | nil => rfl
  | cons d ds ih => simp [holdsL, ih]

/-- The block of a row's cells. -/
abbrev rowCells (r : Rw) (u : Sl) : Array Value := #[.string r.name, .int .i64 r.sport, .int .i64 r.start, .int .i64 r.way, .int .i64 r.climb, .int .i64 r.seconds, .int .i64 r.load, .slice u.a u.n u.c]

theorem kid1_any (d : Cd) (s : Sl) (r : Rw) (u : Sl) (bR : Nat) (w : World) (hR : w.heap[bR]? = some (.cells (rowCells r u) 84))
    (H : ∀ W, Below w.heap.size w W → Calls Tryz.prog 74 #[d.val s, r.val u] W fun e w' => e = .returned (.bool (holdsF r d)) ∧ Below W.heap.size W w') :
    Calls Tryz.prog 125 #[d.val s, .pointer (some ⟨bR, 0, none⟩)] w fun e w' => e = .returned (.bool (holdsF r d)) ∧ Below w.heap.size w w' := by
  have HH := Lib.hid H
  clear H
  have c0 := blk_cell hR 0 rfl
  have c1 := blk_cell hR 1 rfl
  have c2 := blk_cell hR 2 rfl
  have c3 := blk_cell hR 3 rfl
  have c4 := blk_cell hR 4 rfl
  have c5 := blk_cell hR 5 rfl
  have c6 := blk_cell hR 6 rfl
  have c7 := blk_cell hR 7 rfl
  have hlt := blk_lt hR
  clear hR
  go_enter Tryz.func125, Tryz.ntmps125
  go_wp2_with (go_at_call 74; refine (HH.out _ (below_alloc (below_refl w) _)).mono ?_; rintro e w2 ⟨rfl, hb2⟩)
  go_ret
  exact ⟨rfl, below_trans (below_alloc (below_refl w) _) hb2⟩

theorem enters125 : Enters Tryz.prog 125 := enters_of Tryz.func125 (by kernel_rfl) rfl
theorem enters126 : Enters Tryz.prog 126 := enters_of Tryz.func126 (by kernel_rfl) rfl

theorem kid2_any (d : Cd) (s : Sl) (r : Rw) (u : Sl) (bR bK : Nat) (w : World) (hR : w.heap[bR]? = some (.cells (rowCells r u) 84)) (hK : w.heap[bK]? = some (.cells #[.func (.func 125) #[] #[.pointer (some ⟨bR, 0, none⟩)]] 65))
    (H : ∀ W, Below w.heap.size w W → Calls Tryz.prog 74 #[d.val s, r.val u] W fun e w' => e = .returned (.bool (holdsF r d)) ∧ Below W.heap.size W w') :
    Calls Tryz.prog 126 #[d.val s, .pointer (some ⟨bK, 0, none⟩)] w fun e w' => e = .returned (.bool (!holdsF r d)) ∧ Below w.heap.size w w' := by
  have HH := Lib.hid (fun W (hW : Below w.heap.size w W) => kid1_any d s r u bR W (blk_keep hR hW) fun W2 h2 => H W2 (below_trans hW h2))
  have c0 := blk_cell hK 0 rfl
  have hlt := blk_lt hK
  have he := enters125
  unfold Enters at he
  clear H hR hK
  go_enter Tryz.func126, Tryz.ntmps126
  go_wp2_with (go_at_call 125; refine (HH.out _ (below_alloc (below_refl w) _)).mono ?_; rintro e w2 ⟨rfl, hb2⟩)
  go_ret
  exact ⟨rfl, below_trans (below_alloc (below_refl w) _) hb2⟩

/-- The world at hand under a name, with what is known of it. -/
theorem wp_gen {P : Program} {c : Code} {Q : Exit → Act → World → Prop} {a : Act} {w : World} (S : World → Prop) (h : S w) (k : ∀ W, S W → c.wp P Q a W) : c.wp P Q a w := k w h
/-- What is known of a condition's kids. -/
def KidsH (r : Rw) (u : Sl) (p : Nat → Prop) (w : World) (ks : List Cd) : Prop :=
  ∀ k ∈ ks, ∀ v W, Below w.heap.size w W → CondAt p W k v → Calls Tryz.prog 74 #[k.val v, r.val u] W fun e w' => e = .returned (.bool (holdsF r k)) ∧ Below W.heap.size W w'

theorem holds_1 (f l h : Int) (t : ByteArray) (ks : List Cd) (s : Sl) (r : Rw) (u : Sl) (w : World) (p : Nat → Prop) (hat : CondAt p w (.mk 1 f l h t ks) s) (hp : ∀ b, p b → b < w.heap.size) (H : KidsH r u p w ks) :
    Calls Tryz.prog 74 #[.agg #[.int .i64 1, .int .i64 f, .int .i64 l, .int .i64 h, .string t, .slice s.a s.n s.c], r.val u] w fun e w' => e = .returned (.bool (holdsF r (.mk 1 f l h t ks))) ∧ Below w.heap.size w w' := by
  have hmf : ∀ (fn : Fn) (first cap : Array Value) (w : World), (Instr.makeFunc fn first cap).run Tryz.prog w = .ok (.func fn first cap) w := fun _ _ _ _ => rfl
  have HC := Lib.hid (fun W (hW : Below w.heap.size w W) bR bK (hR : W.heap[bR]? = some (.cells (rowCells r u) 84)) (hK : W.heap[bK]? = some (.cells #[.func (.func 125) #[] #[.pointer (some ⟨bR, 0, none⟩)]] 65)) =>
    containsC_all 126 enters126 #[.pointer (some ⟨bK, 0, none⟩)] (fun k => !holdsF r k) (hat.to hp hW) (below_size hW hp) fun k hk v W2 h2 hat2 =>
      kid2_any k v r u bR bK W2 (blk_keep hR h2) (blk_keep hK h2) fun W3 h3 => H k hk v W3 (below_trans hW (below_trans h2 h3)) (hat2.to (below_size (below_trans hW h2) hp) h3))
  have HF : Hid (holdsF r (.mk 1 f l h t ks) = !(ks.any fun k => !holdsF r k)) := by
    show _ = _
    rw [holdsF, if_pos rfl, holdsL_eq, List.all_map, List.not_any_eq_all_not]; simp
  clear hat H
  go_enter Tryz.func74, Tryz.ntmps74
  go_wp2_with fail
  refine (HC.out _ (below_alloc (below_alloc (below_alloc (below_refl w) _) _) _) (w.heap.size + 1) (w.heap.size + 1 + 1) ?_ ?_).mono ?_
  · exact blk_alloc (by rw [← World.size_alloc w _]; exact blk_new _ _) _
  · rw [← World.size_alloc w _, ← World.size_alloc _ _]; exact blk_new _ _
  rintro e w2 ⟨rfl, hb2⟩
  go_wp2_with fail
  go_ret
  exact ⟨ret_bool HF.out.symm, below_trans (below_alloc (below_alloc (below_alloc (below_refl w) _) _) _) hb2⟩

theorem holds_2 (f l h : Int) (t : ByteArray) (ks : List Cd) (s : Sl) (r : Rw) (u : Sl) (w : World) (p : Nat → Prop) (hat : CondAt p w (.mk 2 f l h t ks) s) (hp : ∀ b, p b → b < w.heap.size) (H : KidsH r u p w ks) :
    Calls Tryz.prog 74 #[.agg #[.int .i64 2, .int .i64 f, .int .i64 l, .int .i64 h, .string t, .slice s.a s.n s.c], r.val u] w fun e w' => e = .returned (.bool (holdsF r (.mk 2 f l h t ks))) ∧ Below w.heap.size w w' := by
  have hmf : ∀ (fn : Fn) (first cap : Array Value) (w : World), (Instr.makeFunc fn first cap).run Tryz.prog w = .ok (.func fn first cap) w := fun _ _ _ _ => rfl
  have HC := Lib.hid (fun W (hW : Below w.heap.size w W) bR (hR : W.heap[bR]? = some (.cells (rowCells r u) 84)) =>
    containsC_all 125 enters125 #[.pointer (some ⟨bR, 0, none⟩)] (holdsF r) (hat.to hp hW) (below_size hW hp) fun k hk v W2 h2 hat2 =>
      kid1_any k v r u bR W2 (blk_keep hR h2) fun W3 h3 => H k hk v W3 (below_trans hW (below_trans h2 h3)) (hat2.to (below_size (below_trans hW h2) hp) h3))
  have HF : Hid (holdsF r (.mk 2 f l h t ks) = (ks.any (holdsF r))) := by
    show _ = _
    rw [holdsF, if_neg (by omega), if_pos rfl, holdsL_eq, List.any_map]; rfl
  clear hat H
  go_enter Tryz.func74, Tryz.ntmps74
  go_wp2_with fail
  refine (HC.out _ (below_alloc (below_alloc (below_alloc (below_refl w) _) _) _) (w.heap.size + 1) ?_).mono ?_
  · exact blk_alloc (by rw [← World.size_alloc w _]; exact blk_new _ _) _
  rintro e w2 ⟨rfl, hb2⟩
  go_wp2_with fail
  go_ret
  exact ⟨ret_bool HF.out.symm, below_trans (below_alloc (below_alloc (below_alloc (below_refl w) _) _) _) hb2⟩

set_option maxRecDepth 100000 in
theorem holds_3 (f l h : Int) (t : ByteArray) (k : Cd) (b off cap : Nat) (v : Sl) (r : Rw) (u : Sl) (w : World) (p : Nat → Prop) (hb : b < w.heap.size) (h6 : SixAt w b off k v) (hk : CondAt p w k v) (hp : ∀ b, p b → b < w.heap.size) (H : KidsH r u p w [k]) :
    Calls Tryz.prog 74 #[.agg #[.int .i64 3, .int .i64 f, .int .i64 l, .int .i64 h, .string t, .slice (some ⟨b, off, none⟩) 1 cap], r.val u] w fun e w' => e = .returned (.bool (!holdsF r k)) ∧ Below w.heap.size w w' := by
  have hmf : ∀ (fn : Fn) (first cap : Array Value) (w : World), (Instr.makeFunc fn first cap).run Tryz.prog w = .ok (.func fn first cap) w := fun _ _ _ _ => rfl
  have HC := Lib.hid (fun W (hW : Below w.heap.size w W) bR (hR : W.heap[bR]? = some (.cells (rowCells r u) 84)) =>
      kid1_any k v r u bR W hR fun W3 h3 => H k (by simp) v W3 (below_trans hW h3) (hk.to hp (below_trans hW h3)))
  obtain ⟨c0, c1, c2, c3, c4, c5⟩ := h6
  clear hk H
  have he := enters125
  unfold Enters at he
  go_enter Tryz.func74, Tryz.ntmps74
  go_wp2_with fail
  refine wp_gen (fun W => Below w.heap.size w W ∧ W.heap[w.heap.size + 1]? = some (.cells (rowCells r u) 84) ∧ W.cell? ⟨w.heap.size, 5, none⟩ = some (.slice (some ⟨b, off, none⟩) 1 cap) ∧
    W.cell? ⟨w.heap.size + 1 + 1, 0, none⟩ = some (.func (.func 125) #[] #[.pointer (some ⟨w.heap.size + 1, 0, none⟩)])) ⟨below_alloc (below_alloc (below_alloc (below_refl w) _) _) _, ?_, ?_, ?_⟩ ?_
  · exact blk_alloc (by rw [← World.size_alloc w _]; exact blk_new _ _) _
  · simp [go_sem]
  · simp [go_sem]
  rintro W0 ⟨hB, hR, k5, kf⟩
  replace c0 := (cell_same (hB.block b hb) _).trans c0
  replace c1 := (cell_same (hB.block b hb) _).trans c1
  replace c2 := (cell_same (hB.block b hb) _).trans c2
  replace c3 := (cell_same (hB.block b hb) _).trans c3
  replace c4 := (cell_same (hB.block b hb) _).trans c4
  replace c5 := (cell_same (hB.block b hb) _).trans c5
  have HR := Lib.hid hR
  clear hR
  go_still_tail 5, (by kernel_rfl)
  change wpList _ _ _ _ _ W0.drew
  have hB1 := hB.drew
  have HR1 : Hid (W0.drew.heap[w.heap.size + 1]? = some (.cells (rowCells r u) 84)) := HR.out
  generalize W0.drew = W1 at hB1 HR1 ⊢
  go_wp2_with fail
  refine (HC.out _ hB1 (w.heap.size + 1) HR1.out).mono ?_
  rintro e w2 ⟨rfl, hb2⟩
  go_wp2_with fail
  go_ret
  exact ⟨rfl, below_trans hB1 hb2⟩

theorem holds_4 (f l h : Int) (t : ByteArray) (s : Sl) (r : Rw) (u : Sl) (w : World) :
    Calls Tryz.prog 74 #[.agg #[.int .i64 4, .int .i64 f, .int .i64 l, .int .i64 h, .string t, .slice s.a s.n s.c], r.val u] w fun e w' => e = .returned (.bool (r.sport == l)) ∧ Below w.heap.size w w' := by
  have hmf : ∀ (fn : Fn) (first cap : Array Value) (w : World), (Instr.makeFunc fn first cap).run Tryz.prog w = .ok (.func fn first cap) w := fun _ _ _ _ => rfl
  go_enter Tryz.func74, Tryz.ntmps74
  go_wp2_with fail
  go_ret
  exact ⟨rfl, below_alloc (below_alloc (below_alloc (below_refl w) _) _) _⟩
theorem holds_5 (f l h : Int) (t : ByteArray) (s : Sl) (r : Rw) (u : Sl) (w : World) (p : Nat → Prop) (ht : StrsAt p w r.tags u) (hp : ∀ b, p b → b < w.heap.size) :
    Calls Tryz.prog 74 #[.agg #[.int .i64 5, .int .i64 f, .int .i64 l, .int .i64 h, .string t, .slice s.a s.n s.c], r.val u] w fun e w' => e = .returned (.bool (r.tags.any fun x => decide (x = t))) ∧ Below w.heap.size w w' := by
  have hmf : ∀ (fn : Fn) (first cap : Array Value) (w : World), (Instr.makeFunc fn first cap).run Tryz.prog w = .ok (.func fn first cap) w := fun _ _ _ _ => rfl
  have HC := Lib.hid (fun W (hW : Below w.heap.size w W) => containsS_any r.tags t (ht.to hp hW) (below_size hW hp))
  clear ht
  go_enter Tryz.func74, Tryz.ntmps74
  go_wp2_with (go_at_call 127; refine (HC.out _ (below_alloc (below_alloc (below_alloc (below_refl w) _) _) _)).mono ?_; rintro e w2 ⟨rfl, rfl⟩)
  go_ret
  exact ⟨rfl, below_alloc (below_alloc (below_alloc (below_refl w) _) _) _⟩
theorem holds_6 (f l h : Int) (t : ByteArray) (s : Sl) (r : Rw) (u : Sl) (w : World) (hn : r.name.size ≤ 60) (m : Int) (hm : w.cell? ⟨0, 0, none⟩ = some (.int .i64 m)) (h0 : 0 < w.heap.size) :
    Calls Tryz.prog 74 #[.agg #[.int .i64 6, .int .i64 f, .int .i64 l, .int .i64 h, .string t, .slice s.a s.n s.c], r.val u] w fun e w' => e = .returned (.bool (Lib.contains r.name.data.toList t.data.toList)) ∧ Below w.heap.size w w' := by
  have hmf : ∀ (fn : Fn) (first cap : Array Value) (w : World), (Instr.makeFunc fn first cap).run Tryz.prog w = .ok (.func fn first cap) w := fun _ _ _ _ => rfl
  have HC := Lib.hid (fun W (hW : Below w.heap.size w W) => Tryz.strings_Contains r.name t m W (by omega) ((cell_same (hW.block 0 h0) 0).trans hm))
  clear hn
  go_enter Tryz.func74, Tryz.ntmps74
  go_wp2_with (go_at_call 128; refine (HC.out _ (below_alloc (below_alloc (below_alloc (below_refl w) _) _) _)).mono ?_; rintro e w2 ⟨rfl, rfl⟩)
  go_ret
  exact ⟨rfl, below_alloc (below_alloc (below_alloc (below_refl w) _) _) _⟩
end Go.Proofs.YtbdbmpmijmmbeaaGreatDoor
