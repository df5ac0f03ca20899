/- slices.IndexFunc, ContainsFunc at conditions; slices.Index, Contains at strings; the table of numbers. -/
import Derived.Test.YtbdbmpmijmmbeaaGreatDoorWkF
import Derived.Shelf.Abstract
namespace Go.Proofs.YtbdbmpmijmmbeaaGreatDoor
open Go.RowKit

/-- Where a list first has what is looked for; -1: nowhere. -/
def idxB {α : Type} (f : α → Bool) (l : List α) : Int := match l.findIdx? f with | some i => (i : Int) | none => -1
theorem idxB_any {α : Type} (f : α → Bool) (l : List α) : decide (0 ≤ idxB f l) = l.any f := by
  unfold idxB
  cases h : l.findIdx? f with
  | none => rw [List.findIdx?_eq_none_iff] at h; rw [Bool.eq_iff_iff]; simp; intro x hx; simpa using h x hx
  | some i =>
    rw [List.findIdx?_eq_some_iff_getElem] at h
    obtain ⟨hi, h1, _⟩ := h
    rw [Bool.eq_iff_iff]; simp; exact ⟨_, List.getElem_mem hi, h1⟩
theorem idxB_hit {α : Type} {f : α → Bool} {l : List α} {j : Nat} {x : α} (h : l[j]? = some x) (hn : (l.take j).any f = false) (hx : f x = true) : idxB f l = j := by
  have hl := (List.getElem?_eq_some_iff.1 h)
  obtain ⟨hj, rfl⟩ := hl
  unfold idxB
  have : l.findIdx? f = some j := by
    rw [List.findIdx?_eq_some_iff_getElem]
    refine ⟨hj, hx, fun i hi => ?_⟩
    rw [List.any_eq_false] at hn
    have := hn l[i] (by rw [List.mem_take_iff_getElem]; exact ⟨i, by omega, rfl⟩)
    simpa using this
  rw [this]
theorem idxB_miss {α : Type} {f : α → Bool} {l : List α} (hn : (l.take l.length).any f = false) : idxB f l = -1 := by
  rw [List.take_length] at hn
  unfold idxB
  have : l.findIdx? f = none := by
    rw [List.findIdx?_eq_none_iff]; intro x hx; rw [List.any_eq_false] at hn; simpa using hn x hx
  rw [this]
theorem any_take {α : Type} {f : α → Bool} {l : List α} {j : Nat} {x : α} (h : l[j]? = some x) (hn : (l.take j).any f = false) (hx : f x = false) : (l.take (j + 1)).any f = false := by
  rw [List.take_add_one, h, List.any_append, hn]; simp [hx]

/-- What is asked of a function value over conditions. -/
def PredC (g : FuncId) (caps : Array Value) (ks : List Cd) (kv : Nat → Sl) (pr : Cd → Bool) (w : World) : Prop :=
  ∀ i d, ks[i]? = some d → ∀ W, Below w.heap.size w W → Calls Tryz.prog g (#[d.val (kv i)] ++ caps) W fun e w' => e = .returned (.bool (pr d)) ∧ Below W.heap.size W w'

theorem indexC_any (g : FuncId) (he : Enters Tryz.prog g) (caps : Array Value) (ks : List Cd) (kv : Nat → Sl) (pr : Cd → Bool) (b off cap : Nat) (w : World) (hbw : b < w.heap.size) (hl : ks.length ≤ 9223372036854775807)
    (h6 : ∀ i d, ks[i]? = some d → SixAt w b (off + i * 6) d (kv i)) (hk : PredC g caps ks kv pr w) :
    Calls Tryz.prog 42 #[.slice (some ⟨b, off, none⟩) ks.length cap, .func (.func g) #[] caps] w fun e w' => e = .returned (.int .i64 (idxB pr ks)) ∧ Below w.heap.size w w' := by
  unfold Enters at he
  go_enter Tryz.func42, Tryz.ntmps42
  go_wp2
  go_loopw [5, 8] (fun _ i wr => ∃ j : Nat, j ≤ ks.length ∧ i = .int .i64 j ∧ (ks.take j).any pr = false ∧ Below w.heap.size w wr) (fun _ i _ => ks.length - (intOf i).toNat)
  case atStart => exact ⟨0, by omega, rfl, rfl, below_refl w⟩
  case round =>
    obtain ⟨j, hj, rfl, hz, hB⟩ := hrel
    by_cases hlt : j < ks.length
    · obtain ⟨d, hd⟩ : ∃ d, ks[j]? = some d := ⟨_, List.getElem?_eq_getElem hlt⟩
      obtain ⟨c0, c1, c2, c3, c4, c5⟩ := (h6 j d hd).move (hB.block b hbw)
      have HI := Lib.hid (hk j d hd)
      have HT := Lib.hid (fun h => any_take hd hz h)
      have HH := Lib.hid (fun h => idxB_hit hd hz h)
      clear hk h6 hd hz
      cases hp : pr d
      all_goals
        have HP := Lib.hid hp
        clear hp
        go_wp2_with fail
        refine (HI.out _ hB).mono ?_
        rintro e w2 ⟨rfl, hb2⟩
        have hp2 := HP.out
        go_wp2_with fail
      · go_roundw
        case rel => exact ⟨j + 1, by omega, by go_num, HT.out HP.out, below_trans hB hb2⟩
        case measure => simp [intOf]; omega
      · go_ret
        exact ⟨ret_int (HH.out HP.out).symm, below_trans hB hb2⟩
    · obtain rfl : j = ks.length := by omega
      have HZ := Lib.hid hz
      clear hj hz
      go_wp2
      go_ret
      exact ⟨ret_int (idxB_miss HZ.out).symm, hB⟩

theorem indexC_all (g : FuncId) (he : Enters Tryz.prog g) (caps : Array Value) (pr : Cd → Bool) {d : Cd} {s : Sl} {w : World} {p : Nat → Prop} (h : CondAt p w d s) (hp : ∀ b, p b → b < w.heap.size)
    (HP : ∀ k ∈ d.kids, ∀ u W, Below w.heap.size w W → CondAt p W k u → Calls Tryz.prog g (#[k.val u] ++ caps) W fun e w' => e = .returned (.bool (pr k)) ∧ Below W.heap.size W w') :
    Calls Tryz.prog 42 #[.slice s.a s.n s.c, .func (.func g) #[] caps] w fun e w' => e = .returned (.int .i64 (idxB pr d.kids)) ∧ Below w.heap.size w w' := by
  cases h with
  | nil k f l h t ht =>
    go_enter Tryz.func42, Tryz.ntmps42
    go_wp2
    refine wp_loop_rounds 1 ?_
    rw [rounds_succ]; go_wp2
    go_ret
    exact ⟨rfl, below_refl w⟩
  | row k f l h t ks b off cap kv ht hb hn hc h6 hk =>
    refine indexC_any g he caps ks kv pr b off cap w (hp b hb) (by unfold maxLen at hc; omega) h6 fun i d hd W hW => ?_
    exact HP d (List.mem_of_getElem? hd) (kv i) W hW ((hk i d hd).to hp hW)
theorem containsC_all (g : FuncId) (he : Enters Tryz.prog g) (caps : Array Value) (pr : Cd → Bool) {d : Cd} {s : Sl} {w : World} {p : Nat → Prop} (h : CondAt p w d s) (hp : ∀ b, p b → b < w.heap.size)
    (HP : ∀ k ∈ d.kids, ∀ u W, Below w.heap.size w W → CondAt p W k u → Calls Tryz.prog g (#[k.val u] ++ caps) W fun e w' => e = .returned (.bool (pr k)) ∧ Below W.heap.size W w') :
    Calls Tryz.prog 94 #[.slice s.a s.n s.c, .func (.func g) #[] caps] w fun e w' => e = .returned (.bool (d.kids.any pr)) ∧ Below w.heap.size w w' := by
  have HI := Lib.hid (indexC_all g he caps pr h hp HP)
  have HA := Lib.hid (idxB_any pr d.kids)
  clear h HP
  go_enter Tryz.func94, Tryz.ntmps94
  go_wp2_with (go_at_call 42; refine (HI.out).mono ?_; rintro e w2 ⟨rfl, hb2⟩)
  go_ret
  exact ⟨ret_bool HA.out, hb2⟩

/-- A text among texts. -/
theorem indexS_any (ts : List ByteArray) (t : ByteArray) {s : Sl} {w : World} {p : Nat → Prop} (h : StrsAt p w ts s) (hp : ∀ b, p b → b < w.heap.size) :
    Calls Tryz.prog 140 #[.slice s.a s.n s.c, .string t] w fun e w' => e = .returned (.int .i64 (idxB (fun x => decide (x = t)) ts)) ∧ w = w' := by
  cases h with
  | nil =>
    go_enter Tryz.func140, Tryz.ntmps140
    go_wp2
    refine wp_loop_rounds 1 ?_
    rw [rounds_succ]; go_wp2
    go_ret
    exact ⟨rfl, rfl⟩
  | row xs b off cap hb hcap hmax hR =>
    have hl : ts.length ≤ 9223372036854775807 := by unfold maxLen at hmax; omega
    go_enter Tryz.func140, Tryz.ntmps140
    go_wp2
    go_loop [5, 8] (fun _ i => ∃ j : Nat, j ≤ ts.length ∧ i = .int .i64 j ∧ (ts.take j).any (fun x => decide (x = t)) = false) (fun _ i => ts.length - (intOf i).toNat)
    case atStart => exact ⟨0, by omega, rfl, rfl⟩
    case round =>
      obtain ⟨j, hj, rfl, hz⟩ := hrel
      by_cases hlt : j < ts.length
      · obtain ⟨x, hx⟩ : ∃ x, ts[j]? = some x := ⟨_, List.getElem?_eq_getElem hlt⟩
        have c0 := (hR j x hx).1
        simp only [Nat.mul_one] at c0
        have HT := Lib.hid (fun h => any_take hx hz h)
        have HH := Lib.hid (fun h => idxB_hit hx hz h)
        clear hR hx hz
        by_cases hp : x = t
        · subst hp
          have hp2 : (x.toList == x.toList) = true := by simp
          go_wp2
          go_ret
          exact ⟨ret_int (HH.out (by simp)).symm, rfl⟩
        · have hp2 : (t.toList == x.toList) = false := by
            rw [beq_eq_false_iff_ne]; intro e; rw [ByteArray.toList_eq, ByteArray.toList_eq] at e; exact hp (Go.WideShapes.bytes_inj e).symm
          have HP := Lib.hid hp
          clear hp
          go_wp2
          go_round
          case rel => exact ⟨j + 1, by omega, by go_num, HT.out (by simpa using HP.out)⟩
          case measure => simp [intOf]; omega
      · obtain rfl : j = ts.length := by omega
        have HZ := Lib.hid hz
        clear hj hz
        go_wp2
        go_ret
        exact ⟨ret_int (idxB_miss HZ.out).symm, rfl⟩
theorem containsS_any (ts : List ByteArray) (t : ByteArray) {s : Sl} {w : World} {p : Nat → Prop} (h : StrsAt p w ts s) (hp : ∀ b, p b → b < w.heap.size) :
    Calls Tryz.prog 127 #[.slice s.a s.n s.c, .string t] w fun e w' => e = .returned (.bool (ts.any fun x => decide (x = t))) ∧ w = w' := by
  have HI := Lib.hid (indexS_any ts t h hp)
  have HA := Lib.hid (idxB_any (fun x => decide (x = t)) ts)
  clear h
  go_enter Tryz.func127, Tryz.ntmps127
  go_wp2_with (go_at_call 140; refine (HI.out).mono ?_; rintro e w2 ⟨rfl, rfl⟩)
  go_ret
  exact ⟨ret_bool HA.out, rfl⟩

/-- The table of numbers, in block b. -/
def numCells : Array Value := #[.string ⟨#[]⟩, .nilFunc, .string ⟨#[115, 116, 97, 114, 116]⟩, .func (.func 117) #[] #[], .string ⟨#[100, 97, 121]⟩, .func (.func 118) #[] #[], .string ⟨#[119, 97, 121]⟩, .func (.func 119) #[] #[],
  .string ⟨#[99, 108, 105, 109, 98]⟩, .func (.func 120) #[] #[], .string ⟨#[115, 101, 99, 111, 110, 100, 115]⟩, .func (.func 121) #[] #[], .string ⟨#[108, 111, 97, 100]⟩, .func (.func 122) #[] #[], .string ⟨#[119, 101, 101, 107, 100, 97, 121]⟩, .func (.func 123) #[] #[]]
theorem numbers_any (w : World) : Calls Tryz.prog 69 #[] w fun e w' => e = .returned (.slice (some ⟨w.heap.size, 0, none⟩) 8 8) ∧ w' = w.alloc (.cells numCells 101) := by
  go_enter Tryz.func69, Tryz.ntmps69
  go_wp2
  go_ret
  exact ⟨rfl, rfl⟩
end Go.Proofs.YtbdbmpmijmmbeaaGreatDoor
