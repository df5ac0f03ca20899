/- The arguments' readings: what the form hands over reads as conditions, tells and rows. -/
import Derived.Test.YtbdbmpmijmmbeaaGreatDoorBase
import Derived.Test.YtbdbmpmijmmbeaaGreatDoorRows
import Derived.Deep.Slices
import Derived.ChangeArms
namespace Go.Proofs.YtbdbmpmijmmbeaaGreatDoor
open Go.RowKit

section
variable {H : Type} {enc : TypeId × Value → H} {w : World}

/-- What reads at all places. -/
abbrev Rds (enc : TypeId × Value → H) (w : World) (fuel : Nat) (t : TypeId) (cs : List Value) (x : DataW H × List MemPlace) : Prop :=
  DataW.trod enc Tryz.prog w 0 (fun _ => true) true fuel t cs = some x

theorem bulk_len {l : List (DataW H)} (n : Nat) (f : Nat → Nat) (hl : l.length = n) (h : ∀ i d, l[i]? = some d → f i ≤ Rows.uptoBulk d) : ((List.range n).map f).sum ≤ Rows.uptoBulkAll l := by
  induction l generalizing n f with
  | nil => simp at hl; subst hl; simp [Rows.uptoBulkAll]
  | cons d r ih =>
    cases n with
    | zero => simp at hl
    | succ n =>
      have h0 := h 0 d rfl
      have hr := ih n (fun i => f (i + 1)) (by simpa using hl) fun i e he => h (i + 1) e (by simpa using he)
      rw [List.range_succ_eq_map, List.map_cons, List.sum_cons, List.map_map]
      simp only [Rows.uptoBulkAll]
      have e : (f ∘ Nat.succ) = fun i => f (i + 1) := rfl
      rw [e]; omega

theorem add_mul {a : Addr} {b off k : Nat} (h : a = ⟨b, off, none⟩) (i : Nat) : a.add (i * k) = ⟨b, off + i * k, none⟩ := by
  subst h
  unfold Addr.add
  split
  · rename_i h; rw [h]; rfl
  · rfl

/-- A slice: each element by what it is. -/
theorem arr_of {α : Type} [Inhabited α] {k : Nat} (hk : 0 < k) {t e : TypeId} (ht : Tryz.prog.underlying t = some (.slice e)) (hc : Tryz.prog.cellsOf e = k) {fuel : Nat} {cs : List Value} {x : DataW H × List MemPlace}
    (h : Rds enc w fuel t cs x) (R : Nat → Nat → α → Prop) (wt : α → Nat)
    (hel : ∀ n b off cs' y, n < fuel → cs'.length = k → (∀ i, i < k → w.cell? ⟨b, off + i, none⟩ = cs'[i]?) → Rds enc w n e cs' y → ∃ a, R b off a ∧ wt a ≤ Rows.uptoBulk y.1) :
    ∃ (xs : List α) (s : Sl), cs = [.slice s.a s.n s.c] ∧ ArrAt (· < w.heap.size) k R xs s ∧ (xs.map wt).sum ≤ Rows.uptoBulk x.1 := by
  rcases DataW.trod_slice ht h with ⟨rfl, rfl⟩ | ⟨a, len, cap, elems, rest, n, rfl, rfl, rfl, _, hlc, hcm, hlen, hes, hsp, _⟩
  · exact ⟨[], ⟨none, 0, 0⟩, rfl, .nil, by simp⟩
  obtain ⟨hrl, hrs⟩ := hsp rfl
  by_cases h0 : cap = 0
  · obtain rfl : len = 0 := by omega
    subst h0
    exact ⟨[], ⟨some a, 0, 0⟩, rfl, .nil, by simp⟩
  · -- the first cell is read
    have hfirst : ∃ cs', w.cells? 0 (a.add (0 * Tryz.prog.cellsOf e)) (Tryz.prog.cellsOf e) = some cs' := by
      by_cases hl0 : len = 0
      · have := hrs 0 (by omega)
        rw [hl0, List.getElem?_eq_getElem (by omega)] at this
        obtain ⟨cs', h1, _⟩ := Option.bind_eq_some_iff.1 this
        exact ⟨cs', by simpa using h1⟩
      · have := hes 0 (by omega)
        rw [List.getElem?_eq_getElem (by omega)] at this
        obtain ⟨cs', h1, _⟩ := Option.bind_eq_some_iff.1 this
        exact ⟨cs', h1⟩
    obtain ⟨cs0, hcs0⟩ := hfirst
    have hblk := World.cells?_block hcs0 (by omega)
    obtain ⟨_, hcl, hci⟩ := World.cells?_some hcs0
    have hc00 := hci 0 (by omega)
    rw [List.getElem?_eq_getElem (by omega)] at hc00
    have hspot : a.spot = none := by
      have := World.cell?_spot hc00
      simpa [Addr.add] using this
    obtain ⟨b, off, sp⟩ := a
    dsimp only at hspot
    subst hspot
    have hb : b < w.heap.size := by simpa [Addr.add] using hblk
    have hall : ∀ i, i < len → ∃ y, elems[i]? = some y ∧ ∃ a, R b (off + i * k) a ∧ wt a ≤ Rows.uptoBulk y.1 := by
      intro i hi
      have h1 := hes i hi
      rw [List.getElem?_eq_getElem (by omega)] at h1
      obtain ⟨cs', h2, h3⟩ := Option.bind_eq_some_iff.1 h1
      refine ⟨_, List.getElem?_eq_getElem (by omega), ?_⟩
      rw [hc, add_mul rfl] at h2
      obtain ⟨_, g1, g2⟩ := World.cells?_some h2
      refine hel n b (off + i * k) cs' _ (by omega) g1 (fun j hj => ?_) h3
      have := g2 j hj
      rw [← this]
      unfold Addr.add
      split
      · rename_i hj; rw [hj]; rfl
      · rfl
    have hch : ∃ f : Nat → α, ∀ i, i < len → ∃ y, elems[i]? = some y ∧ R b (off + i * k) (f i) ∧ wt (f i) ≤ Rows.uptoBulk y.1 := by
      refine ⟨fun i => if hi : i < len then (hall i hi).choose_spec.2.choose else default, fun i hi => ?_⟩
      simp only [dif_pos hi]
      exact ⟨(hall i hi).choose, (hall i hi).choose_spec.1, (hall i hi).choose_spec.2.choose_spec⟩
    obtain ⟨f, hf⟩ := hch
    have hlm : ((List.range len).map f).length = len := by simp
    refine ⟨(List.range len).map f, ⟨some ⟨b, off, none⟩, ((List.range len).map f).length, cap⟩, by rw [hlm], .row _ b off cap hb (by rw [hlm]; exact hlc) hcm fun i x hx => ?_, ?_⟩
    · obtain ⟨h1, h2⟩ := List.getElem?_eq_some_iff.1 hx
      have hi : i < len := by simpa using h1
      obtain ⟨y, _, hR, _⟩ := hf i hi
      rw [← h2]; simpa using hR
    · simp only [Rows.uptoBulk]
      rw [List.map_map]
      have := bulk_len (l := elems.map (·.1)) len (wt ∘ f) (by simpa using hlen) fun i d hd => by
        rw [List.getElem?_map] at hd
        obtain ⟨y, h1, h2⟩ := Option.map_eq_some_iff.1 hd
        have hi : i < len := by rw [← hlen]; exact (List.getElem?_eq_some_iff.1 h1).1
        obtain ⟨y', h3, _, h4⟩ := hf i hi
        rw [h1] at h3
        cases h3
        rw [← h2]; exact h4
      omega

theorem cells24 : Tryz.prog.cellsOf 24 = 6 := by kernel_rfl
theorem cells84 : Tryz.prog.cellsOf 84 = 8 := by kernel_rfl
theorem cells27 : Tryz.prog.cellsOf 27 = 8 := by kernel_rfl
theorem cells48 : Tryz.prog.cellsOf 48 = 2 := by kernel_rfl
theorem cells3 : Tryz.prog.cellsOf 3 = 1 := by kernel_rfl
theorem cells9 : Tryz.prog.cellsOf 9 = 1 := by kernel_rfl
theorem cells22 : Tryz.prog.cellsOf 22 = 1 := by kernel_rfl
theorem cells25 : Tryz.prog.cellsOf 25 = 1 := by kernel_rfl
theorem cells82 : Tryz.prog.cellsOf 82 = 1 := by kernel_rfl
instance inhCd_r : Inhabited Cd := ⟨.mk 0 0 0 0 ⟨#[]⟩ []⟩
instance inhSl_r : Inhabited Sl := ⟨⟨none, 0, 0⟩⟩
instance inhRw_r : Inhabited Rw := ⟨⟨⟨#[]⟩, 0, 0, 0, 0, 0, 0, []⟩⟩

theorem drop_one {l : List Value} {i : Nat} {v : Value} (h : (l.drop i).take 1 = [v]) : l[i]? = some v := by
  have : ((l.drop i).take 1)[0]? = some v := by rw [h]; rfl
  simpa using this
theorem int_of {n i : Nat} {cs : List Value} {y : DataW H × List MemPlace} (h : Rds enc w n 3 ((cs.drop i).take 1) y) : ∃ m : Int, cs[i]? = some (.int .i64 m) := by
  obtain ⟨m, h1, _⟩ := DataW.trod_int Tryz.underlying3 h
  exact ⟨m, drop_one h1⟩
theorem str_of {n i : Nat} {cs : List Value} {y : DataW H × List MemPlace} (h : Rds enc w n 9 ((cs.drop i).take 1) y) : ∃ s : ByteArray, cs[i]? = some (.string s) ∧ s.size ≤ maxLen := by
  obtain ⟨m, h1, _, h2⟩ := DataW.trod_string Tryz.underlying9 h
  exact ⟨m, drop_one h1, h2⟩
theorem list6 {l : List Value} (h : l.length = 6) {a b c d e f : Value} (h0 : l[0]? = some a) (h1 : l[1]? = some b) (h2 : l[2]? = some c) (h3 : l[3]? = some d) (h4 : l[4]? = some e) (h5 : l[5]? = some f) : l = [a, b, c, d, e, f] := by
  match l, h with
  | [_, _, _, _, _, _], _ => simp at h0 h1 h2 h3 h4 h5; simp [h0, h1, h2, h3, h4, h5]

theorem bulk_mem {l : List (DataW H)} {d : DataW H} (h : d ∈ l) : Rows.uptoBulk d ≤ Rows.uptoBulkAll l := by
  induction l with
  | nil => cases h
  | cons x r ih =>
    simp only [Rows.uptoBulkAll]
    rcases List.mem_cons.1 h with rfl | e
    · omega
    · have := ih e; omega
theorem partsL_sum (ks : List Cd) : Cd.partsL ks = (ks.map Cd.parts).sum := by
  induction ks with
  | nil => rfl
  | cons d r ih => simp [Cd.partsL, ih]

/-- The list of the first ones of pairs, and what CondAt wants of them. -/
theorem condAt_row {p : Nat → Prop} {k f l h : Int} {t : ByteArray} (ht : t.size ≤ maxLen) {xs : List (Cd × Sl)} {s : Sl}
    (hA : ArrAt p 6 (fun b o (x : Cd × Sl) => SixAt w b o x.1 x.2 ∧ CondAt p w x.1 x.2) xs s) : CondAt p w (.mk k f l h t (xs.map (·.1))) s := by
  cases hA with
  | nil => exact .nil k f l h t ht
  | row xs b off cap hp hn hc hR =>
    have hg : ∀ i d, (xs.map (·.1))[i]? = some d → ∃ x : Cd × Sl, xs[i]? = some x ∧ x.1 = d := fun i d hd => by
      rw [List.getElem?_map] at hd
      exact Option.map_eq_some_iff.1 hd
    have e : (⟨some ⟨b, off, none⟩, xs.length, cap⟩ : Sl) = ⟨some ⟨b, off, none⟩, (xs.map (·.1)).length, cap⟩ := by rw [List.length_map]
    rw [e]
    refine .row k f l h t (xs.map (·.1)) b off cap (fun i => (xs[i]?.getD default).2) ht hp (by simpa using hn) hc (fun i d hd => ?_) fun i d hd => ?_
    · obtain ⟨x, h1, rfl⟩ := hg i d hd
      rw [h1]; exact (hR i x h1).1
    · obtain ⟨x, h1, rfl⟩ := hg i d hd
      rw [h1]; exact (hR i x h1).2

theorem cond_of_trod : ∀ (N fuel : Nat) (cs : List Value) (x : DataW H × List MemPlace), fuel ≤ N → Rds enc w fuel 24 cs x →
    ∃ (c : Cd) (s : Sl), cs = [.int .i64 c.kind, .int .i64 c.field, .int .i64 c.low, .int .i64 c.high, .string c.text, .slice s.a s.n s.c] ∧ CondAt (· < w.heap.size) w c s ∧ c.parts ≤ Rows.uptoBulk x.1 := by
  intro N
  induction N with
  | zero => intro fuel cs x hf h; obtain rfl : fuel = 0 := by omega
            simp [Rds, DataW.trod] at h
  | succ N ih =>
    intro fuel cs x hfN h
    obtain ⟨ys, n, rfl, rfl, hl, hlen, hf⟩ := DataW.trod_struct Tryz.underlying24 h
    rw [cells24] at hl
    have f0 : DataW.trod enc Tryz.prog w 0 (fun _ => true) true n 3 ((cs.drop 0).take (Tryz.prog.cellsOf 3)) = ys[0]? := hf 0 _ rfl
    have f1 : DataW.trod enc Tryz.prog w 0 (fun _ => true) true n 3 ((cs.drop 1).take (Tryz.prog.cellsOf 3)) = ys[1]? := hf 1 _ rfl
    have f2 : DataW.trod enc Tryz.prog w 0 (fun _ => true) true n 3 ((cs.drop 2).take (Tryz.prog.cellsOf 3)) = ys[2]? := hf 2 _ rfl
    have f3 : DataW.trod enc Tryz.prog w 0 (fun _ => true) true n 3 ((cs.drop 3).take (Tryz.prog.cellsOf 3)) = ys[3]? := hf 3 _ rfl
    have f4 : DataW.trod enc Tryz.prog w 0 (fun _ => true) true n 9 ((cs.drop 4).take (Tryz.prog.cellsOf 9)) = ys[4]? := hf 4 _ rfl
    have f5 : DataW.trod enc Tryz.prog w 0 (fun _ => true) true n 22 ((cs.drop 5).take (Tryz.prog.cellsOf 22)) = ys[5]? := hf 5 _ rfl
    clear hf
    have hlen : ys.length = 6 := hlen
    rw [List.getElem?_eq_getElem (by omega)] at f0 f1 f2 f3 f4 f5
    rw [cells3] at f0 f1 f2 f3
    rw [cells9] at f4
    rw [cells22] at f5
    obtain ⟨k, e0⟩ := int_of f0
    obtain ⟨fd, e1⟩ := int_of f1
    obtain ⟨lo, e2⟩ := int_of f2
    obtain ⟨hi, e3⟩ := int_of f3
    obtain ⟨t, e4, ht⟩ := str_of f4
    obtain ⟨xs, s, h5, hA, hw⟩ := arr_of (α := Cd × Sl) (k := 6) (by decide) Tryz.underlying22 cells24 f5 (fun b o x => SixAt w b o x.1 x.2 ∧ CondAt (· < w.heap.size) w x.1 x.2) (fun x => x.1.parts)
      (fun m b off cs' y hm hcl hcells hy => by
        obtain ⟨c, s, rfl, h1, h2⟩ := ih m cs' y (by omega) hy
        exact ⟨(c, s), ⟨⟨hcells 0 (by omega), hcells 1 (by omega), hcells 2 (by omega), hcells 3 (by omega), hcells 4 (by omega), hcells 5 (by omega)⟩, h1⟩, h2⟩)
    refine ⟨.mk k fd lo hi t (xs.map (·.1)), s, list6 hl e0 e1 e2 e3 e4 (drop_one h5), condAt_row ht hA, ?_⟩
    have hb := bulk_mem (l := ys.map (·.1)) (List.mem_map_of_mem (f := (·.1)) (List.getElem_mem (by omega : 5 < ys.length)))
    simp only [Rows.uptoBulk]
    rw [Cd.parts_eq]
    show 1 + Cd.partsL (xs.map (·.1)) ≤ _
    rw [partsL_sum, List.map_map]
    have : ((Cd.parts ∘ fun x : Cd × Sl => x.1)) = fun x : Cd × Sl => x.1.parts := rfl
    rw [this]
    omega

theorem twos_of_trod {fuel : Nat} {cs : List Value} {x : DataW H × List MemPlace} (h : Rds enc w fuel 25 cs x) : ∃ (l : List (Int × Int)) (u : Sl), cs = [.slice u.a u.n u.c] ∧ TwosAt (· < w.heap.size) w l u := by
  obtain ⟨xs, s, h1, h2, _⟩ := arr_of (α := Int × Int) (k := 2) (by decide) Tryz.underlying25 cells48 h (fun b o t => w.cell? ⟨b, o, none⟩ = some (.int .i64 t.1) ∧ w.cell? ⟨b, o + 1, none⟩ = some (.int .i64 t.2)) (fun _ => 0)
    (fun m b off cs' y hm hcl hcells hy => by
      obtain ⟨ys, n, rfl, rfl, hl, hlen, hf⟩ := DataW.trod_struct Tryz.underlying48 hy
      have f0 : DataW.trod enc Tryz.prog w 0 (fun _ => true) true n 3 ((cs'.drop 0).take (Tryz.prog.cellsOf 3)) = ys[0]? := hf 0 _ rfl
      have f1 : DataW.trod enc Tryz.prog w 0 (fun _ => true) true n 3 ((cs'.drop 1).take (Tryz.prog.cellsOf 3)) = ys[1]? := hf 1 _ rfl
      have hlen : ys.length = 2 := hlen
      rw [List.getElem?_eq_getElem (by omega)] at f0 f1
      rw [cells3] at f0 f1
      obtain ⟨a, e0⟩ := int_of f0
      obtain ⟨b', e1⟩ := int_of f1
      exact ⟨(a, b'), ⟨(hcells 0 (by omega)).trans e0, (hcells 1 (by omega)).trans e1⟩, by omega⟩)
  exact ⟨xs, s, h1, h2⟩
theorem strs_of_trod {fuel : Nat} {cs : List Value} {x : DataW H × List MemPlace} (h : Rds enc w fuel 82 cs x) : ∃ (l : List ByteArray) (u : Sl), cs = [.slice u.a u.n u.c] ∧ StrsAt (· < w.heap.size) w l u := by
  obtain ⟨xs, s, h1, h2, _⟩ := arr_of (α := ByteArray) (k := 1) (by decide) Tryz.underlying82 cells9 h (fun b o t => w.cell? ⟨b, o, none⟩ = some (.string t) ∧ t.size ≤ maxLen) (fun _ => 0)
    (fun m b off cs' y hm hcl hcells hy => by
      obtain ⟨t, rfl, _, h2⟩ := DataW.trod_string Tryz.underlying9 hy
      exact ⟨t, ⟨hcells 0 (by omega), h2⟩, by omega⟩)
  exact ⟨xs, s, h1, h2⟩
theorem rows_of_trod {fuel : Nat} {cs : List Value} {x : DataW H × List MemPlace} (h : Rds enc w fuel 28 cs x) : ∃ (l : List Rw) (u : Sl), cs = [.slice u.a u.n u.c] ∧ RowsAt (· < w.heap.size) w l u := by
  obtain ⟨xs, s, h1, h2, _⟩ := arr_of (α := Rw) (k := 8) (by decide) Tryz.underlying28 cells84 h (fun b o r => ∃ s, EightAt w b o r s ∧ r.name.size ≤ maxLen ∧ StrsAt (· < w.heap.size) w r.tags s) (fun _ => 0)
    (fun m b off cs' y hm hcl hcells hy => by
      obtain ⟨ys, n, rfl, rfl, hl, hlen, hf⟩ := DataW.trod_struct Tryz.underlying84 hy
      have f0 : DataW.trod enc Tryz.prog w 0 (fun _ => true) true n 9 ((cs'.drop 0).take (Tryz.prog.cellsOf 9)) = ys[0]? := hf 0 _ rfl
      have f1 : DataW.trod enc Tryz.prog w 0 (fun _ => true) true n 3 ((cs'.drop 1).take (Tryz.prog.cellsOf 3)) = ys[1]? := hf 1 _ rfl
      have f2 : DataW.trod enc Tryz.prog w 0 (fun _ => true) true n 3 ((cs'.drop 2).take (Tryz.prog.cellsOf 3)) = ys[2]? := hf 2 _ rfl
      have f3 : DataW.trod enc Tryz.prog w 0 (fun _ => true) true n 3 ((cs'.drop 3).take (Tryz.prog.cellsOf 3)) = ys[3]? := hf 3 _ rfl
      have f4 : DataW.trod enc Tryz.prog w 0 (fun _ => true) true n 3 ((cs'.drop 4).take (Tryz.prog.cellsOf 3)) = ys[4]? := hf 4 _ rfl
      have f5 : DataW.trod enc Tryz.prog w 0 (fun _ => true) true n 3 ((cs'.drop 5).take (Tryz.prog.cellsOf 3)) = ys[5]? := hf 5 _ rfl
      have f6 : DataW.trod enc Tryz.prog w 0 (fun _ => true) true n 3 ((cs'.drop 6).take (Tryz.prog.cellsOf 3)) = ys[6]? := hf 6 _ rfl
      have f7 : DataW.trod enc Tryz.prog w 0 (fun _ => true) true n 82 ((cs'.drop 7).take (Tryz.prog.cellsOf 82)) = ys[7]? := hf 7 _ rfl
      have hlen : ys.length = 8 := hlen
      rw [List.getElem?_eq_getElem (by omega)] at f0 f1 f2 f3 f4 f5 f6 f7
      rw [cells3] at f1 f2 f3 f4 f5 f6
      rw [cells9] at f0
      rw [cells82] at f7
      obtain ⟨nm, e0, hn⟩ := str_of f0
      obtain ⟨a1, e1⟩ := int_of f1
      obtain ⟨a2, e2⟩ := int_of f2
      obtain ⟨a3, e3⟩ := int_of f3
      obtain ⟨a4, e4⟩ := int_of f4
      obtain ⟨a5, e5⟩ := int_of f5
      obtain ⟨a6, e6⟩ := int_of f6
      obtain ⟨tg, u, h7, ht⟩ := strs_of_trod f7
      exact ⟨⟨nm, a1, a2, a3, a4, a5, a6, tg⟩, ⟨u, ⟨(hcells 0 (by omega)).trans e0, (hcells 1 (by omega)).trans e1, (hcells 2 (by omega)).trans e2, (hcells 3 (by omega)).trans e3, (hcells 4 (by omega)).trans e4,
        (hcells 5 (by omega)).trans e5, (hcells 6 (by omega)).trans e6, (hcells 7 (by omega)).trans (drop_one h7)⟩, hn, ht⟩, by omega⟩)
  exact ⟨xs, s, h1, h2⟩
end
end Go.Proofs.YtbdbmpmijmmbeaaGreatDoor
