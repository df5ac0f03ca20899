/- Rows in groups: the plain lists, and the map that holds them. -/
import Derived.Test.YtbdbmpmijmmbeaaGreatDoorMapS
import Derived.Test.YtbdbmpmijmmbeaaGreatDoorWkM
import Derived.Test.YtbdbmpmijmmbeaaGreatDoorPush
import Derived.Maps.AppendAt
namespace Go.Proofs.YtbdbmpmijmmbeaaGreatDoor
open Go.RowKit

abbrev Ky := Int × ByteArray
abbrev RS := Rw × Sl

/-- append(s, x), and where it lies then. -/
theorem wpList_push_at {α : Type} {P : Program} {ops : Array Oper} {rest : List Oper} {o : Oper} {a : Act} {w : World} {Q : Exit → Act → World → Prop} (hgd : o.guard = none) (s x : Operand) (t : TypeId)
    (ho : o.op = .call { callee := .builtin .append, args := #[s, x], argTypes := #[t, t] })
    (base : Nat) (e : TypeId) (z : Value) (k bytes : Nat) (ht : P.underlying t = some (.slice e)) (hi : (P.info? e).map (fun i => (i.zero, i.size, i.bytes)) = some (some z, k, bytes))
    (hzs : z.cells.size = k) (hsz : 0 < k) (hby : bytes ≤ 1000) (v : Value) (xs : List α) (cells : α → List Value) (hk : ∀ y, (cells y).length = k) (y : α) (h1 : ∀ u ∈ cells y, u.oneCell' = true) (blk : Nat)
    (hs : a.eval s = v) (hx : a.eval x = .slice (some ⟨blk, 0, none⟩) 1 1) (hblk : w.heap[blk]? = some (.cells (cells y).toArray e (0, 0))) (hown : Owns w base e k cells v xs)
    (hmax : xs.length ≤ 10000000) (hbase : base ≤ w.heap.size)
    (h : ∀ v' w', Owns w' base e k cells v' (xs ++ [y]) → w.grownBy w' v.ownBlock → (v'.ownBlock = v.ownBlock ∨ v'.ownBlock = some w.heap.size) → wpList P ops Q rest (a.put o.dst v') w') : wpList P ops Q (o :: rest) a w := by
  obtain ⟨i0, hi0, hz0, hz1, hz2⟩ := info_parts hi
  refine wpList_append_own_at w hgd s x t ho base e i0 z k bytes ht hi0 hz0 hz1 hz2 hzs hsz v xs.length (xs.flatMap cells) hs hown ⟨blk, 0, none⟩ 1 1 (cells y) hx (by rw [hk]; omega) ?_ h1 ?_ ?_ hbase ?_
  · intro j u hu
    have hadd : (⟨blk, 0, none⟩ : Addr).add j = ⟨blk, j, none⟩ := by unfold Addr.add; split <;> simp_all
    rw [hadd]
    exact blk_cell hblk j (by simpa using hu)
  · unfold maxLen; omega
  · have : (xs.length + 1) * bytes ≤ 10000001 * 1000 := Nat.mul_le_mul (by omega) hby
    omega
  · intro v' w' h2 h3 _ h5
    refine h v' w' ?_ h3 h5
    unfold Owns
    rw [List.length_append, List.flatMap_append]
    simpa using h2

/-- The keys, in the order in which they first came. -/
def addK (ks : List Ky) (k : Ky) : List Ky := if k ∈ ks then ks else ks ++ [k]
def firsts (ps : List (Ky × RS)) : List Ky := ps.foldl (fun ks p => addK ks p.1) []
/-- The rows of a key. -/
def grp (ps : List (Ky × RS)) (k : Ky) : List RS := (ps.filter fun p => decide (p.1 = k)).map (·.2)

theorem firsts_push (ps : List (Ky × RS)) (p : Ky × RS) : firsts (ps ++ [p]) = addK (firsts ps) p.1 := by simp [firsts]
theorem grp_push (ps : List (Ky × RS)) (p : Ky × RS) (k : Ky) : grp (ps ++ [p]) k = if p.1 = k then grp ps k ++ [p.2] else grp ps k := by
  unfold grp; by_cases h : p.1 = k <;> simp [h]
theorem mem_addK {ks : List Ky} {k x : Ky} : x ∈ addK ks k ↔ x ∈ ks ∨ x = k := by
  unfold addK; split
  · rename_i h; exact ⟨.inl, fun h' => h'.elim id (fun e => e ▸ h)⟩
  · simp
theorem nodup_addK {ks : List Ky} (h : ks.Nodup) (k : Ky) : (addK ks k).Nodup := by
  unfold addK; split
  · exact h
  · rename_i hk; exact List.nodup_append.2 ⟨h, by simp, fun a ha b hb => by simp at hb; subst hb; exact fun e => hk (e ▸ ha)⟩
theorem addK_length (ks : List Ky) (k : Ky) : (addK ks k).length ≤ ks.length + 1 := by unfold addK; split <;> simp
theorem foldl_snoc {α : Type} {p : List α → Prop} (h0 : p []) (hs : ∀ l x, p l → p (l ++ [x])) (l : List α) : p l := by
  rw [← List.reverse_reverse l]
  induction l.reverse with
  | nil => exact h0
  | cons x r ih => rw [List.reverse_cons]; exact hs _ _ ih
theorem firsts_mem (ps : List (Ky × RS)) : ∀ k, k ∈ firsts ps ↔ ∃ p ∈ ps, p.1 = k := by
  refine foldl_snoc (p := fun ps => ∀ k, k ∈ firsts ps ↔ ∃ p ∈ ps, p.1 = k) (by simp [firsts]) (fun l x ih k => ?_) ps
  rw [firsts_push, mem_addK, ih]
  constructor
  · rintro (⟨p, hp, e⟩ | rfl)
    · exact ⟨p, by simp [hp], e⟩
    · exact ⟨x, by simp, rfl⟩
  · rintro ⟨p, hp, e⟩
    rcases List.mem_append.1 hp with hp | hp
    · exact .inl ⟨p, hp, e⟩
    · simp at hp; subst hp; exact .inr e.symm
theorem firsts_nodup (ps : List (Ky × RS)) : (firsts ps).Nodup :=
  foldl_snoc (p := fun ps => (firsts ps).Nodup) (by simp [firsts]) (fun l x ih => by rw [firsts_push]; exact nodup_addK ih _) ps
theorem firsts_length (ps : List (Ky × RS)) : (firsts ps).length ≤ ps.length :=
  foldl_snoc (p := fun ps => (firsts ps).length ≤ ps.length) (by simp [firsts]) (fun l x ih => by rw [firsts_push, List.length_append]; have := addK_length (firsts l) x.1; simp; omega) ps
theorem grp_none {ps : List (Ky × RS)} {k : Ky} (h : k ∉ firsts ps) : grp ps k = [] := by
  unfold grp
  rw [List.map_eq_nil_iff, List.filter_eq_nil_iff]
  intro p hp
  simp only [decide_eq_true_eq]
  exact fun e => h ((firsts_mem ps k).2 ⟨p, hp, e⟩)
theorem grp_length (ps : List (Ky × RS)) (k : Ky) : (grp ps k).length ≤ ps.length := by
  unfold grp; rw [List.length_map]; exact List.length_filter_le _ _
theorem grp_pos {ps : List (Ky × RS)} {k : Ky} (h : k ∈ firsts ps) : 0 < (grp ps k).length := by
  obtain ⟨p, hp, e⟩ := (firsts_mem ps k).1 h
  unfold grp
  rw [List.length_map]
  exact List.length_pos_of_mem (List.mem_filter.2 ⟨hp, by simp [e]⟩)
theorem grp_mem {ps : List (Ky × RS)} {k : Ky} {x : RS} (h : x ∈ grp ps k) : (k, x) ∈ ps := by
  unfold grp at h
  obtain ⟨p, hp, e⟩ := List.mem_map.1 h
  obtain ⟨h1, h2⟩ := List.mem_filter.1 hp
  simp only [decide_eq_true_eq] at h2
  obtain ⟨a, b⟩ := p
  dsimp only at e h2; subst e; subst h2; exact h1

/-- The cells of a row. -/
def rwCells (x : RS) : List Value := [.string x.1.name, .int .i64 x.1.sport, .int .i64 x.1.start, .int .i64 x.1.way, .int .i64 x.1.climb, .int .i64 x.1.seconds, .int .i64 x.1.load, .slice x.2.a x.2.n x.2.c]
theorem rwCells_len (x : RS) : (rwCells x).length = 8 := rfl
theorem eight_cells {w : World} {b o : Nat} {x : RS} (h : ∀ j u, (rwCells x)[j]? = some u → w.cell? ⟨b, o + j, none⟩ = some u) : EightAt w b o x.1 x.2 :=
  ⟨h 0 _ rfl, h 1 _ rfl, h 2 _ rfl, h 3 _ rfl, h 4 _ rfl, h 5 _ rfl, h 6 _ rfl, h 7 _ rfl⟩

/-- Block b is the map from keys to their rows; the rows lie in blocks of the call's own from base on, no two of which are one. -/
structure GIn (w : World) (base b : Nat) (ks : List Ky) (g : Ky → List RS) (vs : List Value) : Prop where
  len : vs.length = ks.length
  map : MapIs w encP b (ks.zip vs)
  nodup : ks.Nodup
  owns : ∀ (i : Nat) (k : Ky) (v : Value), ks[i]? = some k → vs[i]? = some v → Owns w base 84 8 rwCells v (g k)
  apart : ∀ (i j : Nat) (v u : Value) (c : Nat), vs[i]? = some v → vs[j]? = some u → v.ownBlock = some c → u.ownBlock = some c → i = j
  low : b < base

theorem GIn.keep {w w' : World} {base b : Nat} {ks : List Ky} {g : Ky → List RS} {vs : List Value} (h : GIn w base b ks g vs) (hB : Below w.heap.size w w') : GIn w' base b ks g vs where
  len := h.len
  map := h.map.move (hB.block b h.map.lt)
  nodup := h.nodup
  owns := fun i k v h1 h2 => (h.owns i k v h1 h2).below hB
  apart := h.apart
  low := h.low
theorem GIn.made (w : World) (g : Ky → List RS) : GIn (w.alloc (.map #[] 0)) (w.heap.size + 1) w.heap.size [] g [] where
  len := rfl
  map := MapIs.made w encP
  nodup := by simp
  owns := fun i k v h1 => by simp at h1
  apart := fun i j v u c h1 => by simp at h1
  low := by omega
theorem zip_keys {ks : List Ky} {vs : List Value} (h : vs.length = ks.length) : (ks.zip vs).map (·.1) = ks := List.map_fst_zip (by omega)
theorem zip_get {ks : List Ky} {vs : List Value} {j : Nat} {k : Ky} {v : Value} (h : (ks.zip vs)[j]? = some (k, v)) : ks[j]? = some k ∧ vs[j]? = some v := by
  rw [List.getElem?_zip_eq_some] at h; exact h
theorem look_mem {ks : List Ky} {vs : List Value} (h : vs.length = ks.length) (k : Ky) : (look (ks.zip vs) k).isSome = decide (k ∈ ks) := by
  rw [look_isSome]; exact decide_eq_decide.2 (by rw [zip_keys h])
theorem setObj_cell {w : World} {b c o : Nat} {x : Obj} (h : c ≠ b) : (setObj w b x).cell? ⟨c, o, none⟩ = w.cell? ⟨c, o, none⟩ := cell_same (setObj_other h) o
theorem owns_set {w : World} {base b : Nat} {v : Value} {l : List RS} {x : Obj} (h : Owns w base 84 8 rwCells v l) (hb : b < base) : Owns (setObj w b x) base 84 8 rwCells v l :=
  h.keep fun c hc => setObj_other (by have := (h.lt c hc).1; omega)

/-- The key's entry is fetched. -/
theorem GIn.entry {w : World} {base b : Nat} {ks : List Ky} {g : Ky → List RS} {vs : List Value} (h : GIn w base b ks g vs) (k : Ky) (hg : k ∉ ks → g k = []) :
    ∃ vs1, withK (ks.zip vs) k (.slice none 0 0) = (addK ks k).zip vs1 ∧ (addK ks k)[posK (ks.zip vs) k]? = some k ∧ vs1[posK (ks.zip vs) k]? = some (lookV (ks.zip vs) k (.slice none 0 0)) ∧
      (∀ v ∈ vs1, v ∈ vs ∨ v = .slice none 0 0) ∧ GIn (setObj w b (.map (ents encP (withK (ks.zip vs) k (.slice none 0 0))) (withK (ks.zip vs) k (.slice none 0 0)).length)) base b (addK ks k) g vs1 := by
  have hl := look_mem h.len k
  cases hx : look (ks.zip vs) k with
  | some x =>
    obtain ⟨j, u⟩ := x
    have hk : k ∈ ks := by rw [hx] at hl; simpa using hl.symm
    have h1 : addK ks k = ks := by unfold addK; rw [if_pos hk]
    have h2 : withK (ks.zip vs) k (.slice none 0 0) = ks.zip vs := by unfold withK; rw [hx]
    have h3 : posK (ks.zip vs) k = j := by unfold posK; rw [hx]
    have h4 : lookV (ks.zip vs) k (.slice none 0 0) = u := by unfold lookV; rw [hx]
    obtain ⟨g1, g2⟩ := zip_get (look_some hx)
    rw [h1, h2, h3, h4]
    refine ⟨vs, rfl, g1, g2, fun v hv => .inl hv, h.len, mapIs_set h.map.lt, h.nodup, fun i k v h1 h2 => owns_set (h.owns i k v h1 h2) h.low, h.apart, h.low⟩
  | none =>
    have hk : k ∉ ks := by rw [hx] at hl; simpa using hl.symm
    have h1 : addK ks k = ks ++ [k] := by unfold addK; rw [if_neg hk]
    have h2 : withK (ks.zip vs) k (.slice none 0 0) = (ks ++ [k]).zip (vs ++ [.slice none 0 0]) := by
      unfold withK; rw [hx, List.zip_append h.len.symm]; rfl
    have h3 : posK (ks.zip vs) k = ks.length := by unfold posK; rw [hx, List.length_zip, h.len]; simp
    have h4 : lookV (ks.zip vs) k (.slice none 0 0) = .slice none 0 0 := by unfold lookV; rw [hx]
    rw [h1, h2, h3, h4]
    refine ⟨vs ++ [.slice none 0 0], rfl, by simp, by rw [← h.len]; simp, fun v hv => ?_, by simp [h.len], mapIs_set h.map.lt, ?_, fun i k' v h1' h2' => ?_, fun i j v u c h1' h2' h3' h4' => ?_, h.low⟩
    · simpa using hv
    · rw [← h1]; exact nodup_addK h.nodup k
    · by_cases hi : i < ks.length
      · rw [List.getElem?_append_left hi] at h1'; rw [List.getElem?_append_left (by rw [h.len]; exact hi)] at h2'
        exact owns_set (h.owns i k' v h1' h2') h.low
      · have : i = ks.length := by have := (List.getElem?_eq_some_iff.1 h1').1; simp at this; omega
        subst this
        rw [← h.len] at h2'
        simp at h1' h2'; subst h1'; subst h2'
        rw [hg hk]; exact owns_nil _ _ _ _ _
    · have side : ∀ (i : Nat) (v : Value) (c : Nat), (vs ++ [Value.slice none 0 0])[i]? = some v → v.ownBlock = some c → vs[i]? = some v := fun i v c h1 h2 => by
        by_cases hi : i < vs.length
        · rwa [List.getElem?_append_left hi] at h1
        · have : i = vs.length := by have := (List.getElem?_eq_some_iff.1 h1).1; simp at this; omega
          subst this; simp at h1; subst h1; simp [Value.ownBlock] at h2
      exact h.apart i j v u c (side i v c h1' h3') (side j u c h2' h4') h3' h4'

/-- A row is put behind the key's rows. -/
theorem GIn.store {w w' : World} {base b : Nat} {ks : List Ky} {g g' : Ky → List RS} {vs : List Value} (h : GIn w base b ks g vs) {j : Nat} {k : Ky} {v v' : Value} (hk : ks[j]? = some k) (hv : vs[j]? = some v)
    (hgr : w.grownBy w' v.ownBlock) (hown : Owns w' base 84 8 rwCells v' (g' k)) (hat : v'.ownBlock = v.ownBlock ∨ v'.ownBlock = some w.heap.size) (ho : ∀ k', k' ≠ k → g' k' = g k') :
    MapIs w' encP b (ks.zip vs) ∧ GIn (setObj w' b (.map (ents encP ((ks.zip vs).modify j fun x => (x.1, v'))) (ks.zip vs).length)) base b ks g' (vs.set j v') := by
  have hown0 := h.owns j k v hk hv
  have hmap : MapIs w' encP b (ks.zip vs) := h.map.move (hgr.block b h.map.lt fun e => by have := (hown0.lt b e.symm).1; have := h.low; omega)
  have hz : (ks.zip vs).modify j (fun x => (x.1, v')) = ks.zip (vs.set j v') := by
    apply List.ext_getElem?
    intro i
    simp only [List.zip_eq_zipWith]
    rw [List.getElem?_modify, List.getElem?_zipWith, List.getElem?_zipWith, List.getElem?_set]
    by_cases hi : j = i
    · subst hi
      have := (List.getElem?_eq_some_iff.1 hv).1
      simp [hk, hv, this]
    · simp [hi]
  have hl : (ks.zip vs).length = (ks.zip (vs.set j v')).length := by simp
  refine ⟨hmap, ?_⟩
  rw [hz, hl]
  refine ⟨by simp [h.len], mapIs_set hmap.lt, h.nodup, fun i k' u h1 h2 => ?_, fun i i' u u' c h1 h2 h3 h4 => ?_, h.low⟩
  · by_cases hi : j = i
    · subst hi
      rw [hk] at h1; simp at h1; subst h1
      rw [List.getElem?_set_self (List.getElem?_eq_some_iff.1 hv).1] at h2; simp at h2; subst h2
      exact owns_set hown h.low
    · rw [List.getElem?_set_ne hi] at h2
      have hne : k' ≠ k := fun e => hi (by
        subst e
        exact (List.getElem?_inj (List.getElem?_eq_some_iff.1 hk).1 h.nodup).1 (hk.trans h1.symm))
      rw [ho k' hne]
      have h5 := h.owns i k' u h1 h2
      refine owns_set (h5.keep fun c hc => hgr.block c (h5.lt c hc).2 fun e => hi ?_) h.low
      exact h.apart j i v u c hv h2 e.symm hc
  · have side : ∀ (i : Nat) (u : Value) (c : Nat), j ≠ i → (vs.set j v')[i]? = some u → u.ownBlock = some c → v'.ownBlock = some c → False := fun i u c hi h1 h2 h3 => by
      rw [List.getElem?_set_ne hi] at h1
      rcases hat with e | e
      · exact hi (h.apart j i v u c hv h1 (e ▸ h3) h2)
      · rw [e] at h3
        simp at h3
        have hki : i < ks.length := by rw [← h.len]; exact (List.getElem?_eq_some_iff.1 h1).1
        have := ((h.owns i _ u (List.getElem?_eq_getElem hki) h1).lt c h2).2
        omega
    have same : ∀ u, (vs.set j v')[j]? = some u → u = v' := fun u h1 => by
      rw [List.getElem?_set_self (List.getElem?_eq_some_iff.1 hv).1] at h1; simpa using h1.symm
    by_cases hi : j = i
    · by_cases hi' : j = i'
      · omega
      · subst hi; exact absurd (side i' u' c hi' h2 h4 (same u h1 ▸ h3)) id
    · by_cases hi' : j = i'
      · subst hi'; exact absurd (side i u c hi h1 h3 (same u' h2 ▸ h4)) id
      · rw [List.getElem?_set_ne hi] at h1; rw [List.getElem?_set_ne hi'] at h2
        exact h.apart i i' u u' c h1 h2 h3 h4
end Go.Proofs.YtbdbmpmijmmbeaaGreatDoor
