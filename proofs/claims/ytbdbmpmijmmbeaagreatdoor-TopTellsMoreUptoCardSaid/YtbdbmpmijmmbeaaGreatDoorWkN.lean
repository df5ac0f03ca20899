/- What is answered. -/
import Derived.Test.YtbdbmpmijmmbeaaGreatDoorPln
import Derived.Test.YtbdbmpmijmmbeaaGreatDoorSrt
import Derived.Maps.AppendAt
namespace Go.Proofs.YtbdbmpmijmmbeaaGreatDoor
open Go.RowKit

theorem list_choose {α β : Type} : ∀ {l : List α} {R : Nat → α → β → Prop}, (∀ i a, l[i]? = some a → ∃ s, R i a s) → ∃ xs : List (α × β), xs.map (·.1) = l ∧ ∀ i x, xs[i]? = some x → R i x.1 x.2
  | [], _, _ => ⟨[], rfl, fun i x h => by simp at h⟩
  | a :: l, R, h => by
    obtain ⟨s, hs⟩ := h 0 a rfl
    obtain ⟨xs, h1, h2⟩ := list_choose (l := l) (R := fun i => R (i + 1)) fun i a ha => h (i + 1) a (by simpa using ha)
    refine ⟨(a, s) :: xs, by simp [h1], fun i x hx => ?_⟩
    cases i with
    | zero => simp at hx; subst hx; exact hs
    | succ i => exact h2 i x (by simpa using hx)

/-- A row where it lies. -/
structure RAt (p : Nat → Prop) (w : World) (b o : Nat) (x : RS) : Prop where
  bp : p b
  eight : EightAt w b o x.1 x.2
  name : x.1.name.size ≤ maxLen
  tags : StrsAt p w x.1.tags x.2
theorem rows_choose {p : Nat → Prop} {w : World} {rows : List Rw} {t : Sl} (h : RowsAt p w rows t) : ∃ xs : List RS, xs.map (·.1) = rows ∧ t.n = xs.length ∧ t.n ≤ t.c ∧ t.c ≤ maxLen ∧
    ∀ i x, xs[i]? = some x → ∃ b off, t.a = some ⟨b, off, none⟩ ∧ RAt p w b (off + i * 8) x := by
  cases h with
  | nil => exact ⟨[], rfl, rfl, Nat.le_refl _, Nat.zero_le _, fun i x h => by simp at h⟩
  | row xs b off cap hp hn hc hR =>
    obtain ⟨ys, h1, h2⟩ := list_choose (R := fun i (a : Rw) (s : Sl) => RAt p w b (off + i * 8) (a, s)) fun i a ha => by
      obtain ⟨s, e1, e2, e3⟩ := hR i a ha
      exact ⟨s, hp, e1, e2, e3⟩
    refine ⟨ys, h1, ?_, hn, hc, fun i x hx => ⟨b, off, rfl, h2 i x hx⟩⟩
    rw [← h1, List.length_map]

theorem keys_choose {p : Nat → Prop} {w : World} {l : List Ky} {t : Sl} (h : KeysAt p w l t) : t.n = l.length ∧ t.n ≤ t.c ∧ t.c ≤ maxLen ∧
    ∀ i k, l[i]? = some k → ∃ b off, t.a = some ⟨b, off, none⟩ ∧ p b ∧ w.cell? ⟨b, off + i * 2, none⟩ = some (.int .i64 k.1) ∧ w.cell? ⟨b, off + i * 2 + 1, none⟩ = some (.string k.2) := by
  cases h with
  | nil => exact ⟨rfl, Nat.le_refl _, Nat.zero_le _, fun i x h => by simp at h⟩
  | row xs b off cap hp hn hc hR => exact ⟨rfl, hn, hc, fun i k hk => ⟨b, off, rfl, hp, (hR i k hk).1, (hR i k hk).2⟩⟩
theorem GIn.lt {w : World} {base b : Nat} {ks : List Ky} {g : Ky → List RS} {vs : List Value} (h : GIn w base b ks g vs) {v : Value} (hv : v ∈ vs) {c : Nat} (hc : v.ownBlock = some c) : base ≤ c ∧ c < w.heap.size := by
  obtain ⟨i, hi⟩ := List.getElem?_of_mem hv
  have hk : i < ks.length := by rw [← h.len]; exact (List.getElem?_eq_some_iff.1 hi).1
  exact (h.owns i _ v (List.getElem?_eq_getElem hk) hi).lt c hc
def zeroRow : Value := .agg #[.string ⟨#[]⟩, .int .i64 0, .int .i64 0, .int .i64 0, .int .i64 0, .int .i64 0, .int .i64 0, .slice none 0 0]
theorem Tryz.info84 : (Tryz.prog.info? 84).map (fun i => (i.zero, i.size, i.bytes)) = some (some zeroRow, 8, 88) := by kernel_rfl
theorem rw_ones (x : RS) : ∀ u ∈ rwCells x, u.oneCell' = true := by
  intro u hu; simp [rwCells] at hu; rcases hu with rfl | rfl | rfl | rfl | rfl | rfl | rfl | rfl <;> rfl
def gpF (q : Qy) (xs : List RS) (k : Ky) : Gp := ⟨k.1, k.2, q.tells.map fun t => toldF t ((grp (prs q.group q.whr xs) k).map (·.1))⟩

/-- append in a region that draws its order. -/
theorem wp_push_at {α : Type} {P : Program} {o : Oper} {a : Act} {w : World} {K : Act → World → Prop} {Q : Exit → Act → World → Prop} (s x : Operand) (t : TypeId)
    (ho : o.op = .call { callee := .builtin .append, args := #[s, x], argTypes := #[t, t] })
    (base : Nat) (e : TypeId) (z : Value) (k bytes : Nat) (ht : P.underlying t = some (.slice e)) (hi : (P.info? e).map (fun i => (i.zero, i.size, i.bytes)) = some (some z, k, bytes))
    (hzs : z.cells.size = k) (hsz : 0 < k) (hby : bytes ≤ 1000) (v : Value) (xs : List α) (cells : α → List Value) (hk : ∀ y, (cells y).length = k) (y : α) (h1 : ∀ u ∈ cells y, u.oneCell' = true) (blk : Nat)
    (hs : a.eval s = v) (hx : a.eval x = .slice (some ⟨blk, 0, none⟩) 1 1) (hblk : w.heap[blk]? = some (.cells (cells y).toArray e (0, 0))) (hown : Owns w base e k cells v xs)
    (hmax : xs.length ≤ 10000000) (hbase : base ≤ w.heap.size)
    (h : ∀ v' w', Owns w' base e k cells v' (xs ++ [y]) → w.grownBy w' v.ownBlock → (v'.ownBlock = v.ownBlock ∨ v'.ownBlock = some w.heap.size) → K (a.put o.dst v') w') : o.wp P a w K Q := by
  obtain ⟨i0, hi0, hz0, hz1, hz2⟩ := info_parts hi
  have hb : (xs.length + 1) * bytes ≤ 140737488355328 := by
    have : (xs.length + 1) * bytes ≤ 10000001 * 1000 := Nat.mul_le_mul (by omega) hby
    omega
  obtain ⟨v', w', hr, h2, h3, _, h5⟩ := run_append_own_at (P := P) w base t o.type e i0 z k bytes ht hi0 hz0 hz1 hz2 hzs hsz v xs.length (xs.flatMap cells) hown ⟨blk, 0, none⟩ 1 1 (cells y) (by rw [hk]; omega)
    (fun j u hu => by
      have hadd : (⟨blk, 0, none⟩ : Addr).add j = ⟨blk, j, none⟩ := by unfold Addr.add; split <;> simp_all
      rw [hadd]
      exact blk_cell hblk j (by simpa using hu)) h1 (by unfold maxLen; omega) hb hbase
  unfold Oper.wp execOp
  simp only [ho, resolve, invoke, builtin, Sem.run_bind, Sem.run_pure, Result.andThen_ok, List.map_toArray, List.map_cons, List.map_nil, hs, hx, hr]
  refine h v' w' ?_ h3 h5
  unfold Owns
  rw [List.length_append, List.flatMap_append]
  simpa using h2

theorem setCell_obj {w : World} {b o : Nat} {cs : Array Value} {T : TypeId} {fr : Nat × Nat} {v : Value} (h : w.heap[b]? = some (.cells cs T fr)) : w.setCell ⟨b, o, none⟩ v = setObj w b (.cells (cs.setIfInBounds o v) T fr) := by
  simp only [World.setCell, setObj]
  congr 1
  apply Array.ext_getElem?
  intro i
  rw [Array.getElem?_modify, Array.getElem?_setIfInBounds]
  by_cases hi : b = i
  · subst hi
    have := (Array.getElem?_eq_some_iff.1 h).1
    rw [if_pos rfl, if_pos rfl, if_pos this, h]; rfl
  · rw [if_neg hi, if_neg hi]
theorem seen_len {seen : List Nat} {n : Nat} (h : seen.Nodup) (hl : ∀ i ∈ seen, i < n) : seen.length ≤ n := by
  have := h.length_le_of_subset (l₂ := List.range n) fun i hi => List.mem_range.2 (hl i hi)
  rwa [List.length_range] at this
/-- Some blocks stay. -/
def Keeps (K : Nat → Prop) (w w' : World) : Prop := w.heap.size ≤ w'.heap.size ∧ ∀ c, K c → w'.heap[c]? = w.heap[c]?
theorem keeps_chains (K : Nat → Prop) : Chains (Keeps K) := ⟨fun _ => ⟨Nat.le_refl _, fun _ _ => rfl⟩, fun _ _ _ h k => ⟨Nat.le_trans h.1 k.1, fun c hc => (k.2 c hc).trans (h.2 c hc)⟩⟩
theorem keeps_cell {K : Nat → Prop} {w w' : World} {b o : Nat} {v : Value} (h : w.cell? ⟨b, o, none⟩ = some v) (hK : K b) (hR : Keeps K w w') : w'.cell? ⟨b, o, none⟩ = some v := (cell_same (hR.2 b hK) o).trans h
theorem keeps_below {K : Nat → Prop} {w w' : World} (h : Below w.heap.size w w') (hK : ∀ c, K c → c < w.heap.size) : Keeps K w w' := ⟨h.size, fun c hc => h.block c (hK c hc)⟩

def twoCells (t : Int × Int) : List Value := [.int .i64 t.1, .int .i64 t.2]
theorem two_len (t : Int × Int) : (twoCells t).length = 2 := rfl
theorem two_ones (t : Int × Int) : ∀ u ∈ twoCells t, u.oneCell' = true := by
  intro u hu; simp [twoCells] at hu; rcases hu with rfl | rfl <;> rfl
theorem Tryz.info44 : (Tryz.prog.info? 44).map (fun i => (i.zero, i.size, i.bytes)) = some (some (.agg #[.int .i64 0, .int .i64 0]), 2, 16) := by kernel_rfl
theorem Tryz.info37 : (Tryz.prog.info? 37).map (fun i => (i.zero, i.size, i.bytes)) = some (some (.agg #[.int .i64 0, .string ⟨#[]⟩, .slice none 0 0]), 3, 48) := by kernel_rfl
theorem twos_choose {p : Nat → Prop} {w : World} {l : List (Int × Int)} {t : Sl} (h : TwosAt p w l t) : t.n = l.length ∧ t.n ≤ t.c ∧ t.c ≤ maxLen ∧
    ∀ i k, l[i]? = some k → ∃ b off, t.a = some ⟨b, off, none⟩ ∧ p b ∧ w.cell? ⟨b, off + i * 2, none⟩ = some (.int .i64 k.1) ∧ w.cell? ⟨b, off + i * 2 + 1, none⟩ = some (.int .i64 k.2) := by
  cases h with
  | nil => exact ⟨rfl, Nat.le_refl _, Nat.zero_le _, fun i x h => by simp at h⟩
  | row xs b off cap hp hn hc hR => exact ⟨rfl, hn, hc, fun i k hk => ⟨b, off, rfl, hp, (hR i k hk).1, (hR i k hk).2⟩⟩
theorem rows_of_owns {V : World} {base : Nat} {v : Value} {l : List RS} (h : Owns V base 84 8 rwCells v l) (hl : ∀ x ∈ l, x.1.name.size ≤ maxLen ∧ StrsAt (· < V.heap.size) V x.1.tags x.2) :
    ∃ s : Sl, v = .slice s.a s.n s.c ∧ RowsAt (· < V.heap.size) V (l.map (·.1)) s := by
  obtain ⟨s, hs, ha⟩ := h.arr rwCells_len
  refine ⟨s, hs, ?_⟩
  clear hs
  cases ha with
  | nil => exact .nil
  | row xs b off cap hp hn hc hR =>
    have e : l.length = (l.map (·.1)).length := by simp
    rw [e] at hn ⊢
    refine .row _ b off cap hp.2.1 hn hc fun i r hr => ?_
    rw [List.getElem?_map] at hr
    cases hx : l[i]? with
    | none => simp [hx] at hr
    | some x =>
      simp [hx] at hr; subst hr
      exact ⟨x.2, eight_cells (hR i x hx), (hl x (List.mem_of_getElem? hx)).1, (hl x (List.mem_of_getElem? hx)).2⟩

def sliceLen : Value → Nat | .slice _ n _ => n | _ => 0
theorem owns_len {α : Type} {w : World} {base : Nat} {e : TypeId} {k : Nat} {cells : α → List Value} {v : Value} {xs : List α} (h : Owns w base e k cells v xs) : sliceLen v = xs.length := by
  rcases h.2 with ⟨rfl, hn⟩ | ⟨g, cap, cur, rfl, _⟩
  · exact hn.symm
  · rfl

theorem owns_free {α : Type} {w : World} {base : Nat} {e : TypeId} {k : Nat} {cells : α → List Value} {v : Value} {xs : List α} (h : Owns w base e k cells v xs) {c : Nat} (hc : v.ownBlock = some c) :
    base ≤ c ∧ c < w.heap.size ∧ ∀ o, w.frozen? ⟨c, o, none⟩ = false := by
  obtain ⟨h1, h2⟩ := h.lt c hc
  refine ⟨h1, h2, fun o => ?_⟩
  rcases h.2 with ⟨rfl, _⟩ | ⟨g, cap, cur, rfl, _, hg, _⟩
  · cases hc
  · obtain rfl : g = c := by simpa [Value.ownBlock] using hc
    exact blk_free hg o
/-- What has been put out. -/
structure Outs (V : World) (q : Qy) (xs : List RS) (ks : List Ky) (n : Nat) (b : Nat) (W : World) (vo : Value) (seen : List Nat) (gl : List (Gp × Sl)) : Prop where
  keep : ∀ c, c < V.heap.size → W.heap[c]? = V.heap[c]?
  size : V.heap.size < W.heap.size
  iter : IterIs W V.heap.size b n seen
  nodup : seen.Nodup
  lt : ∀ i ∈ seen, i < ks.length
  owns : Owns W (V.heap.size + 1) 37 3 gpCells vo gl
  gps : gl.map (·.1) = seen.map fun i => gpF q xs (ks.getD i (0, ⟨#[]⟩))
  told : ∀ x ∈ gl, TwosAt (fun c => V.heap.size < c ∧ c < W.heap.size ∧ vo.ownBlock ≠ some c) W x.1.told x.2
  free : ∀ x ∈ gl, ∀ c, x.2.v.ownBlock = some c → (V.heap.size < c ∧ c < W.heap.size ∧ vo.ownBlock ≠ some c) ∧ ∀ o, W.frozen? ⟨c, o, none⟩ = false
  apart : gl.Pairwise fun x y => ∀ c, x.2.v.ownBlock = some c → y.2.v.ownBlock ≠ some c

/-- The order of keys. -/
def kyLe (a b : Ky) : Bool := !decide (gpCmp b a < 0)
/-- What is answered. -/
def answerF (q : Qy) (xs : List RS) : List Gp := ((firsts (prs q.group q.whr xs)).mergeSort kyLe).map (gpF q xs)
theorem kyLe_trans (a b c : Ky) (h1 : kyLe a b = true) (h2 : kyLe b c = true) : kyLe a c = true := by
  simp only [kyLe, Bool.not_eq_true', decide_eq_false_iff_not] at *
  have := gpCmp_swo.ntrans c b a (by simpa [Go.Proofs.ltOf] using h2) (by simpa [Go.Proofs.ltOf] using h1)
  simpa [Go.Proofs.ltOf] using this
theorem kyLe_total (a b : Ky) : (kyLe a b || kyLe b a) = true := by
  simp only [kyLe, Bool.or_eq_true, Bool.not_eq_true', decide_eq_false_iff_not]
  by_cases h : gpCmp b a < 0
  · right
    intro h'
    have := gpCmp_swo.trans a b a (by simpa [Go.Proofs.ltOf] using h') (by simpa [Go.Proofs.ltOf] using h)
    rw [gpCmp_swo.irrefl] at this; cases this
  · left; exact h
def keyG (g : Gp) : Ky := (g.number, g.text)
theorem answer_eq {ks : List Ky} {f : Ky → Gp} (hf : ∀ k, keyG (f k) = k) {gs : List Gp} (hp : gs.Perm (ks.map f)) (hs : gs.Pairwise fun a b => ¬ gpCmp (keyG b) (keyG a) < 0) : gs = (ks.mergeSort kyLe).map f := by
  have hp2 : gs.Perm ((ks.mergeSort kyLe).map f) := hp.trans ((List.mergeSort_perm ks kyLe).map f).symm
  refine List.Perm.eq_of_pairwise (le := fun a b => ¬ gpCmp (keyG b) (keyG a) < 0) (fun a b ha hb h1 h2 => ?_) hs ?_ hp2
  · have ha' := hp2.mem_iff.1 ha
    obtain ⟨x, _, rfl⟩ := List.mem_map.1 ha'
    obtain ⟨y, _, rfl⟩ := List.mem_map.1 hb
    rw [hf, hf] at h1 h2
    rw [gpCmp_tri h2 h1]
  · rw [List.pairwise_map]
    refine (List.pairwise_mergeSort kyLe_trans kyLe_total ks).imp fun {a b} h => ?_
    rw [hf, hf]
    simpa [kyLe] using h
theorem seen_perm {seen : List Nat} {ks : List Ky} (h : seen.Nodup) (hl : ∀ i ∈ seen, i < ks.length) (ha : ∀ i, i < ks.length → i ∈ seen) (d : Ky) : (seen.map fun i => ks.getD i d).Perm ks := by
  have h1 : seen.Perm (List.range ks.length) := (List.perm_ext_iff_of_nodup h List.nodup_range).2 fun i => ⟨fun hi => List.mem_range.2 (hl i hi), fun hi => ha i (List.mem_range.1 hi)⟩
  have h2 := h1.map fun i => ks.getD i d
  have h3 : (List.range ks.length).map (fun i => ks.getD i d) = ks := by
    apply List.ext_getElem?
    intro i
    rw [List.getElem?_map]
    by_cases hi : i < ks.length
    · simp [List.getElem?_range hi, List.getD_eq_getElem?_getD, List.getElem?_eq_getElem hi]
    · rw [List.getElem?_eq_none (by simp; omega), List.getElem?_eq_none (by omega)]; rfl
  rwa [h3] at h2

/-- The groups of an answer, each with its slice of what is told; no two of these share memory, and none is shared with the groups' own. -/
def AnsOwn (w : World) (gs : List Gp) (e : Ending) (w' : World) : Prop :=
  ∃ (v : Sl) (gl : List (Gp × Sl)), e = .returned (.slice v.a v.n v.c) ∧ gl.map (·.1) = gs ∧ ArrAt (fun b => w.heap.size ≤ b ∧ b < w'.heap.size) 3 (fun b o x => ThreeAt w' b o x.1 x.2) gl v ∧
    (∀ x ∈ gl, TwosAt (fun b => w.heap.size ≤ b ∧ b < w'.heap.size) w' x.1.told x.2) ∧
    (∀ x ∈ gl, ∀ c, x.2.v.ownBlock = some c → (w.heap.size ≤ c ∧ c < w'.heap.size ∧ v.v.ownBlock ≠ some c) ∧ ∀ o, w'.frozen? ⟨c, o, none⟩ = false) ∧
    (gl.Pairwise fun x y => ∀ c, x.2.v.ownBlock = some c → y.2.v.ownBlock ≠ some c) ∧ Below w.heap.size w w'
def AnsPost (w : World) (gs : List Gp) (e : Ending) (w' : World) : Prop :=
  ∃ v : Sl, e = .returned (.slice v.a v.n v.c) ∧ GroupsAt (fun b => w.heap.size ≤ b ∧ b < w'.heap.size) w' gs v ∧ Below w.heap.size w w'

set_option maxRecDepth 100000 in
set_option maxHeartbeats 8000000 in
theorem answer_own (q : Qy) (xs : List RS) (s u t : Sl) (w : World) (p : Nat → Prop) (lv : Nat) (m : Int) (hc : CondAt p w q.whr s) (ht : TwosAt p w q.tells u)
    (hx : t.n = xs.length) (hxc : t.n ≤ t.c) (hcm : t.c ≤ maxLen) (hr : ∀ i x, xs[i]? = some x → ∃ b off, t.a = some ⟨b, off, none⟩ ∧ RAt p w b (off + i * 8) x)
    (hp : ∀ b, p b → b < w.heap.size) (hm : w.cell? ⟨0, 0, none⟩ = some (.int .i64 m)) (hz : chkPart lv q.whr = 0) (hg : inB q.group 0 4 = true) (htl : q.tells.all tellB = true) (hn : q.tells.length ≤ 10)
    (hrl : xs.length ≤ 5000) (hrk : ∀ x ∈ xs, chkRow x.1 = 0) : Calls Tryz.prog 51 #[q.val s u, .slice t.a t.n t.c] w (AnsOwn w (answerF q xs)) := by
  obtain ⟨ta, tn, tc⟩ := t
  obtain ⟨hu1, hu2, hu3, hu4⟩ := twos_choose ht
  obtain ⟨ua, un, uc⟩ := u
  dsimp only at hu1 hu2 hu3 hu4
  subst hu1
  dsimp only at hx hxc hcm hr
  subst hx
  have hmm := @run_makeMap Tryz.prog
  go_enter Tryz.func51, Tryz.ntmps51
  go_wp2_with fail
  have hlen : xs.length ≤ 9223372036854775807 := by omega
  go_loopw [7, 9, 19] (fun _ _ i W => ∃ (j : Nat) (vs : List Value), j ≤ xs.length ∧ i = .int .i64 j ∧ Below w.heap.size w W ∧ W.heap[w.heap.size]? = some (.cells #[.int .i64 q.whr.kind, .int .i64 q.whr.field, .int .i64 q.whr.low, .int .i64 q.whr.high, .string q.whr.text, .slice s.a s.n s.c, .int .i64 q.group, .slice ua q.tells.length uc] 27) ∧
      GIn W (w.heap.size + 2) (w.heap.size + 1) (firsts (prs q.group q.whr (xs.take j))) (grp (prs q.group q.whr (xs.take j))) vs) (fun _ _ i _ => xs.length - (intOf i).toNat)
  case atStart =>
    refine ⟨0, [], by omega, rfl, below_alloc (below_alloc (below_refl w) _) _, blk_alloc (blk_new w _) _, ?_⟩
    have := GIn.made (w.alloc (.cells #[.int .i64 q.whr.kind, .int .i64 q.whr.field, .int .i64 q.whr.low, .int .i64 q.whr.high, .string q.whr.text, .slice s.a s.n s.c, .int .i64 q.group, .slice ua q.tells.length uc] 27)) (grp [])
    rw [World.size_alloc] at this
    exact this
  case round =>
    obtain ⟨j, vs, hj, rfl, hB, hQ, hG⟩ := hrel
    by_cases hlt : j < xs.length
    · obtain ⟨x, hxj⟩ : ∃ x, xs[j]? = some x := ⟨_, List.getElem?_eq_getElem hlt⟩
      obtain ⟨b, off, rfl, hA⟩ := hr j x hxj
      obtain ⟨c0, c1, c2, c3, c4, c5, c6, c7⟩ := hA.eight.move (hB.block b (hp b hA.bp))
      have HR := Lib.hid hr
      have HX := Lib.hid hxj
      have HRK := Lib.hid hrk
      have hqs := blk_lt hQ
      have q0 := blk_cell hQ 0 rfl
      have q1 := blk_cell hQ 1 rfl
      have q2 := blk_cell hQ 2 rfl
      have q3 := blk_cell hQ 3 rfl
      have q4 := blk_cell hQ 4 rfl
      have q5 := blk_cell hQ 5 rfl
      have q6 := blk_cell hQ 6 rfl
      have HQ := Lib.hid hQ
      have HG := Lib.hid hG
      clear hr hxj hrk hQ hG
      go_wp2_with fail
      have hB1 := below_alloc hB (.cells #[.string x.1.name, .int .i64 x.1.sport, .int .i64 x.1.start, .int .i64 x.1.way, .int .i64 x.1.climb, .int .i64 x.1.seconds, .int .i64 x.1.load, .slice x.2.a x.2.n x.2.c] 84)
      refine (holds_n x.1 x.2 m (row_name (HRK.out x (List.mem_of_getElem? HX.out))) (rowOk_of (HRK.out x (List.mem_of_getElem? HX.out))).s0 (rowOk_of (HRK.out x (List.mem_of_getElem? HX.out))).s1 _ q.whr s _ p lv (Nat.le_refl _) (hc.to hp hB1) (hA.tags.to hp hB1) (below_size hB1 hp) (bel_cell hm hB1) hz).mono ?_
      rintro e W1 ⟨rfl, hb1⟩
      cases hh : holdsF x.1 q.whr
      · have HH := Lib.hid hh
        clear hh
        go_wp2_with fail
        go_roundw
        case rel =>
          refine ⟨j + 1, vs, by omega, by go_num, below_trans hB1 hb1, blk_keep (blk_alloc HQ.out _) hb1, ?_⟩
          rw [prs_take HX.out, HH.out]
          simpa using (HG.out.keep (below_trans (below_alloc (below_refl wr) _) hb1))
        case measure => simp [intOf]; omega
      · have HH := Lib.hid hh
        clear hh q0 q1 q2 q3 q4 q5 q6 c0 c1 c2 c3 c4 c5 c6 c7
        have q6 := blk_cell (blk_keep (blk_alloc HQ.out _) hb1) 6 rfl
        have hrb := blk_keep (blk_new wr _) hb1
        have hB2 := below_trans hB1 hb1
        have hw1 : wr.heap.size < W1.heap.size := blk_lt hrb
        have c0 := blk_cell hrb 0 rfl
        have c1 := blk_cell hrb 1 rfl
        have c2 := blk_cell hrb 2 rfl
        have c3 := blk_cell hrb 3 rfl
        have c4 := blk_cell hrb 4 rfl
        have c5 := blk_cell hrb 5 rfl
        have c6 := blk_cell hrb 6 rfl
        have c7 := blk_cell hrb 7 rfl
        have HQ1 := Lib.hid (blk_keep (blk_alloc HQ.out _) hb1)
        have HRB := Lib.hid hrb
        have HG1 := Lib.hid (HG.out.keep (below_trans (below_alloc (below_refl wr) _) hb1))
        clear hrb
        go_wp2_with fail
        refine (keys_any q.group x.1 x.2 W1 p hg (rowOk_of (HRK.out x (List.mem_of_getElem? HX.out))).s0 (rowOk_of (HRK.out x (List.mem_of_getElem? HX.out))).s1 (hA.tags.to hp hB2) (below_size hB2 hp) (row_tags (HRK.out x (List.mem_of_getElem? HX.out))).1).mono ?_
        rintro e W2 ⟨ks, rfl, hK, hb2⟩
        obtain ⟨hk1, hk2, hk3, hk4⟩ := keys_choose hK
        obtain ⟨ka, kn, kc⟩ := ks
        dsimp only at hk1 hk2 hk3 hk4
        subst hk1
        have hkn : (keysF q.group x.1).length ≤ 9223372036854775807 := by unfold maxLen at hk3; omega
        clear c0 c1 c2 c3 c4 c5 c6 c7 q6 hK
        go_wp2_with fail
        have HK4 := Lib.hid hk4
        clear hk4
        go_loopw [9, 33] (fun _ k W => ∃ (i : Nat) (vs : List Value), i ≤ (keysF q.group x.1).length ∧ k = .int .i64 i ∧ Below w.heap.size w W ∧ W2.heap.size ≤ W.heap.size ∧
          W.heap[w.heap.size]? = W2.heap[w.heap.size]? ∧ (∀ c, wr.heap.size ≤ c → c < W2.heap.size → W.heap[c]? = W2.heap[c]?) ∧ (∀ v ∈ vs, ∀ c, v.ownBlock = some c → c < wr.heap.size ∨ W2.heap.size ≤ c) ∧
          GIn W (w.heap.size + 2) (w.heap.size + 1) (firsts (prs q.group q.whr (xs.take j) ++ ((keysF q.group x.1).take i).map fun k => (k, x))) (grp (prs q.group q.whr (xs.take j) ++ ((keysF q.group x.1).take i).map fun k => (k, x))) vs) (fun _ k _ => (keysF q.group x.1).length - (intOf k).toNat)
        case atStart =>
          refine ⟨0, vs, by omega, rfl, below_trans hB2 hb2, Nat.le_refl _, rfl, fun _ _ _ => rfl, fun v hv c hc => .inl (HG.out.lt hv hc).2, ?_⟩
          simpa using HG1.out.keep hb2
        case round =>
          rename World => W3
          obtain ⟨i, vs2, hi, rfl, hB3, hs3, e1, e2, hav, hG3⟩ := hrel
          have hwb := HG.out.map.lt
          by_cases hil : i < (keysF q.group x.1).length
          · obtain ⟨k, hki⟩ : ∃ k, (keysF q.group x.1)[i]? = some k := ⟨_, List.getElem?_eq_getElem hil⟩
            obtain ⟨kb, ko, rfl, hkb, hkc0, hkc1⟩ := HK4.out i k hki
            have ck0 : W3.cell? ⟨kb, ko + i * 2, none⟩ = some (.int .i64 k.1) := (cell_same (e2 kb (by omega) hkb.2) _).trans hkc0
            have ck1 : W3.cell? ⟨kb, ko + i * 2 + 1, none⟩ = some (.string k.2) := (cell_same (e2 kb (by omega) hkb.2) _).trans hkc1
            have hkb3 : kb < W3.heap.size := by omega
            have hrb3 := (e2 wr.heap.size (Nat.le_refl _) (by have := hb2.size; omega)).trans (blk_keep HRB.out hb2)
            have hr3 := blk_lt hrb3
            have c0 := blk_cell hrb3 0 rfl
            have c1 := blk_cell hrb3 1 rfl
            have c2 := blk_cell hrb3 2 rfl
            have c3 := blk_cell hrb3 3 rfl
            have c4 := blk_cell hrb3 4 rfl
            have c5 := blk_cell hrb3 5 rfl
            have c6 := blk_cell hrb3 6 rfl
            have c7 := blk_cell hrb3 7 rfl
            have HE1 := Lib.hid e1
            have HE2 := Lib.hid e2
            have HAV := Lib.hid hav
            have HG3 := Lib.hid hG3
            have HKI := Lib.hid hki
            clear e1 e2 hav hG3 hrb3 hkc0 hkc1 hki
            have hgl : (grp (prs q.group q.whr (xs.take j) ++ ((keysF q.group x.1).take i).map fun k => (k, x)) k).length ≤ 10000000 := by
              have h1 := grp_length (prs q.group q.whr (xs.take j) ++ ((keysF q.group x.1).take i).map fun k => (k, x)) k
              have h2 := prs_length q.group q.whr (xs.take j) fun y hy => (row_tags (HRK.out y (List.mem_of_mem_take hy))).1
              have h3 := keysF_length q.group x.1 (row_tags (HRK.out x (List.mem_of_getElem? HX.out))).1
              simp only [List.length_append, List.length_map, List.length_take] at h1 h2
              omega
            have hg0 : k ∉ firsts (prs q.group q.whr (xs.take j) ++ ((keysF q.group x.1).take i).map fun k => (k, x)) → grp (prs q.group q.whr (xs.take j) ++ ((keysF q.group x.1).take i).map fun k => (k, x)) k = [] := fun h => grp_none h
            have hks : addK (firsts (prs q.group q.whr (xs.take j) ++ ((keysF q.group x.1).take i).map fun k => (k, x))) k = firsts (prs q.group q.whr (xs.take j) ++ ((keysF q.group x.1).take (i + 1)).map fun k => (k, x)) := by
              rw [List.take_add_one, HKI.out]; simp only [Option.toList_some, List.map_append, List.map_cons, List.map_nil]; rw [← List.append_assoc, firsts_push]
            have hgk : ∀ k', grp (prs q.group q.whr (xs.take j) ++ ((keysF q.group x.1).take (i + 1)).map fun k => (k, x)) k' = if k = k' then grp (prs q.group q.whr (xs.take j) ++ ((keysF q.group x.1).take i).map fun k => (k, x)) k' ++ [x] else grp (prs q.group q.whr (xs.take j) ++ ((keysF q.group x.1).take i).map fun k => (k, x)) k' := fun k' => by
              rw [List.take_add_one, HKI.out]; simp only [Option.toList_some, List.map_append, List.map_cons, List.map_nil]; rw [← List.append_assoc, grp_push]
            have hG3 := HG3.out
            clear HG3
            generalize firsts (prs q.group q.whr (xs.take j) ++ ((keysF q.group x.1).take i).map fun k => (k, x)) = KS at hg0 hks hG3
            generalize grp (prs q.group q.whr (xs.take j) ++ ((keysF q.group x.1).take i).map fun k => (k, x)) = GS at hg0 hgk hG3 hgl
            have hBk := below_alloc (below_alloc (below_refl W3) (.cells #[.int .i64 k.1, .string k.2] 114)) (.cells #[.string x.1.name, .int .i64 x.1.sport, .int .i64 x.1.start, .int .i64 x.1.way, .int .i64 x.1.climb, .int .i64 x.1.seconds, .int .i64 x.1.load, .slice x.2.a x.2.n x.2.c] 84)
            have hB4 := setObj_below (below_trans hB3 hBk) (by omega : w.heap.size ≤ w.heap.size + 1) (.map (ents encP (withK (KS.zip vs2) k (.slice none 0 0))) (withK (KS.zip vs2) k (.slice none 0 0)).length)
            have hGa := hG3.keep hBk
            obtain ⟨vs4, f1, f2, f3, f4, hGb⟩ := hGa.entry k hg0
            obtain ⟨f5, f6, f7⟩ := put_with (KS.zip vs2) k (.slice none 0 0) (.slice none 0 0)
            have hkeep : ∀ c, c < W3.heap.size → c ≠ w.heap.size + 1 → (setObj ((W3.alloc (.cells #[.int .i64 k.1, .string k.2] 114)).alloc (.cells #[.string x.1.name, .int .i64 x.1.sport, .int .i64 x.1.start, .int .i64 x.1.way, .int .i64 x.1.climb, .int .i64 x.1.seconds, .int .i64 x.1.load, .slice x.2.a x.2.n x.2.c] 84)) (w.heap.size + 1) (.map (ents encP (withK (KS.zip vs2) k (.slice none 0 0))) (withK (KS.zip vs2) k (.slice none 0 0)).length)).heap[c]? = W3.heap[c]? := fun c h1 h2 => (setObj_other h2).trans (hBk.block c h1)
            have hblk : (setObj ((W3.alloc (.cells #[.int .i64 k.1, .string k.2] 114)).alloc (.cells #[.string x.1.name, .int .i64 x.1.sport, .int .i64 x.1.start, .int .i64 x.1.way, .int .i64 x.1.climb, .int .i64 x.1.seconds, .int .i64 x.1.load, .slice x.2.a x.2.n x.2.c] 84)) (w.heap.size + 1) (.map (ents encP (withK (KS.zip vs2) k (.slice none 0 0))) (withK (KS.zip vs2) k (.slice none 0 0)).length)).heap[(W3.alloc (.cells #[.int .i64 k.1, .string k.2] 114)).heap.size]? = some (.cells #[.string x.1.name, .int .i64 x.1.sport, .int .i64 x.1.start, .int .i64 x.1.way, .int .i64 x.1.climb, .int .i64 x.1.seconds, .int .i64 x.1.load, .slice x.2.a x.2.n x.2.c] 84) := by
              rw [setObj_other (by rw [World.size_alloc]; omega)]; exact blk_new _ _
            have hsz4 : (setObj ((W3.alloc (.cells #[.int .i64 k.1, .string k.2] 114)).alloc (.cells #[.string x.1.name, .int .i64 x.1.sport, .int .i64 x.1.start, .int .i64 x.1.way, .int .i64 x.1.climb, .int .i64 x.1.seconds, .int .i64 x.1.load, .slice x.2.a x.2.n x.2.c] 84)) (w.heap.size + 1) (.map (ents encP (withK (KS.zip vs2) k (.slice none 0 0))) (withK (KS.zip vs2) k (.slice none 0 0)).length)).heap.size = W3.heap.size + 2 := by
              rw [setObj_size, World.size_alloc, World.size_alloc]
            have ALL := Lib.hid (And.intro hB4 (And.intro hGb (And.intro hkeep (And.intro hblk hsz4))))
            have FS := Lib.hid (And.intro f1 (And.intro f2 (And.intro f3 (And.intro f4 f6))))
            have HKS := Lib.hid hks
            have HGK := Lib.hid hgk
            clear hB4 hGb hkeep hblk hsz4 f1 f2 f3 f4 f5 f6 f7 hks hgk hg0 hG3 hBk
            have hgo : True := trivial
            go_wp2_with (first
              | (refine wpList_entry_k rfl (.tmp 37) (.tmp 38) rfl pair_kind Tryz.underlying109 (Tryz.zeroValue28 _) hGa.map k trivial (fun _ _ => trivial) (by rfl) (by rfl) ?_
                 clear hGa
                 generalize lookV (KS.zip vs2) k (.slice none 0 0) = v0 at FS ⊢
                 generalize posK (KS.zip vs2) k = pk at FS ⊢
                 generalize setObj ((W3.alloc (.cells #[.int .i64 k.1, .string k.2] 114)).alloc (.cells #[.string x.1.name, .int .i64 x.1.sport, .int .i64 x.1.start, .int .i64 x.1.way, .int .i64 x.1.climb, .int .i64 x.1.seconds, .int .i64 x.1.load, .slice x.2.a x.2.n x.2.c] 84)) _ _ = W4 at ALL ⊢
                 clear hkb3)
              | (refine wpList_push_at rfl (.tmp 39) (.tmp 41) 28 rfl (w.heap.size + 2) 84 zeroRow 8 88 Tryz.underlying28 Tryz.info84 rfl (by decide) (by decide) v0 (GS k) rwCells rwCells_len x (rw_ones x) (W3.heap.size + 1) (by rfl) (by first | rfl | (simp only [World.size_alloc]; rfl)) (by have := ALL.out.2.2.2.1; rw [World.size_alloc] at this; exact this) (ALL.out.2.1.owns pk k v0 FS.out.2.1 FS.out.2.2.1) hgl (by rw [ALL.out.2.2.2.2]; omega) ?_
                 intro v' W5 hv' hgr hat
                 have hgs := ALL.out.2.1.store (g' := grp (prs q.group q.whr (xs.take j) ++ ((keysF q.group x.1).take (i + 1)).map fun k => (k, x))) FS.out.2.1 FS.out.2.2.1 hgr (by rw [HGK.out, if_pos rfl]; exact hv') hat (fun k' hk' => by rw [HGK.out, if_neg (fun e => hk' e.symm)])
                 have hm5 := hgs.1
                 have hlp : pk < (KS.zip vs2 |> fun _ => (addK KS k).zip vs4).length := by have := FS.out.2.2.2.2; rwa [FS.out.1] at this
                 have HGS := Lib.hid hgs.2
                 have HGR := Lib.hid hgr
                 have HAT := Lib.hid hat
                 have HHV := Lib.hid (ALL.out.2.1.owns pk k v0 FS.out.2.1 FS.out.2.2.1)
                 clear hgs hgr hat hv')
              | (refine wpList_store_k rfl (.tmp 37) (.tmp 44) (.tmp 43) rfl hm5 pk hlp v' (by rfl) (by rfl) (by rfl) ?_
                 clear hgo hm5))
            go_roundw
            case rel =>
              obtain ⟨hB4, _, hkeep, _, hsz4⟩ := ALL.out
              obtain ⟨_, _, f3, f4, _⟩ := FS.out
              have hown := HHV.out
              have hgr := HGR.out
              have hB5 := below_grown hB4 hgr fun c hc => by have := (hown.lt c hc).1; omega
              have hsz5 := hgr.size
              have av : ∀ u ∈ vs4, ∀ c, u.ownBlock = some c → c < wr.heap.size ∨ W2.heap.size ≤ c := fun u hu c hc => by
                rcases f4 u hu with h | rfl
                · exact HAV.out u h c hc
                · simp [Value.ownBlock] at hc
              refine ⟨i + 1, vs4.set pk v', by omega, by go_num, setObj_below hB5 (by omega) _, by rw [setObj_size]; omega, ?_, fun c h1 h2 => ?_, fun u hu c hc => ?_, ?_⟩
              · refine (setObj_other (by omega)).trans ((hgr.block _ (by omega) fun e => ?_).trans ((hkeep _ (by omega) (by omega)).trans HE1.out))
                have := (hown.lt _ e.symm).1; omega
              · refine (setObj_other (by omega)).trans ((hgr.block _ (by omega) fun e => ?_).trans ((hkeep _ (by omega) (by omega)).trans (HE2.out c h1 h2)))
                have := av v0 (List.mem_of_getElem? f3) c e.symm; omega
              · rcases List.mem_or_eq_of_mem_set hu with h | rfl
                · exact av u h c hc
                · rcases HAT.out with e | e
                  · exact av v0 (List.mem_of_getElem? f3) c (e ▸ hc)
                  · rw [e] at hc; simp at hc; right; omega
              · rw [← HKS.out]; have := HGS.out; rwa [List.length_zip] at this
            case measure => simp [intOf]; omega
          · obtain rfl : i = (keysF q.group x.1).length := by omega
            have HE1 := Lib.hid e1
            have HG3 := Lib.hid hG3
            clear e1 e2 hav hG3
            go_wp2_with fail
            go_roundw
            case rel =>
              refine ⟨j + 1, vs2, by omega, by go_num, hB3, HE1.out.trans (blk_keep HQ1.out hb2), ?_⟩
              rw [prs_take HX.out, HH.out]
              have := HG3.out
              rwa [List.take_length] at this
            case measure => simp [intOf]; omega
    · obtain rfl : j = xs.length := by omega
      rw [List.take_length] at hG
      rename World => V
      have hqs := blk_lt hQ
      have q7 := blk_cell hQ 7 rfl
      have HQ := Lib.hid hQ
      have hvb := hG.map.lt
      have hKL := hG.len
      have HOK : ∀ k, ∀ x ∈ grp (prs q.group q.whr xs) k, x ∈ xs := fun k x hx => (prs_mem (grp_mem hx)).1
      have hxs : ∀ x ∈ xs, x.1.name.size ≤ maxLen ∧ StrsAt p V x.1.tags x.2 := fun x hx => by
        obtain ⟨n, hn⟩ := List.getElem?_of_mem hx
        obtain ⟨b, off, _, hA⟩ := hr n x hn
        exact ⟨hA.name, hA.tags.to hp hB⟩
      have HRK := Lib.hid hrk
      clear hr hrk hQ
      have hmem := firsts_mem (prs q.group q.whr xs)
      have HP := Lib.hid (fun k => grp_prs (g := q.group) (c := q.whr) (xs := xs) (fun x hx => keysF_nodup q.group (HRK.out x hx)) k)
      have hpos : ∀ k ∈ firsts (prs q.group q.whr xs), 0 < (grp (prs q.group q.whr xs) k).length := fun k hk => grp_pos hk
      have hM := hG.map
      go_wp2_with (refine wpList_range_k rfl (.tmp 47) rfl Tryz.underlying109 hM (by rfl) ?_)
      simp only [Act.put, List.setIfInBounds_toArray, List.set_cons_zero, List.set_cons_succ]
      go_loopw [10, 11, 12, 13, 15] (fun vo _ _ _ _ W => ∃ (seen : List Nat) (gl : List (Gp × Sl)), Below w.heap.size w W ∧ Outs V q xs (firsts (prs q.group q.whr xs)) ((firsts (prs q.group q.whr xs)).zip vs).length (w.heap.size + 1) W vo seen gl)
        (fun vo _ _ _ _ _ => (firsts (prs q.group q.whr xs)).length - sliceLen vo)
      case atStart =>
        refine ⟨[], [], below_alloc hB _, ?_⟩
        exact ⟨fun c hc => heap_alloc_old V _ hc, by simp, blk_new V _, by simp, fun i hi => (by cases hi), owns_nil _ _ _ _ _, rfl, fun x hx => (by cases hx), fun x hx => (by cases hx), .nil⟩
      case round =>
        rename World => W3
        obtain ⟨seen, gl, hB3, hO⟩ := hrel
        have hM3 : MapIs W3 encP (w.heap.size + 1) ((firsts (prs q.group q.whr xs)).zip vs) := hM.move (hO.keep _ hvb)
        rcases next_cases Tryz.prog 0 hM3 hO.iter with ⟨hall, hrun⟩ | ⟨i, k, v, w1, hi, hns, hw1, hrun⟩
        · have HO := Lib.hid hO
          have HALL := Lib.hid hall
          clear hO hall
          go_wp2_with (refine wpList_next_run rfl (.tmp 48) rfl (by rfl) hrun ?_)
          have hgm : gl.length ≤ 10000000 := by
            have h0 : gl.length = seen.length := by have := congrArg List.length HO.out.gps; simpa using this
            have h1 := firsts_length (prs q.group q.whr xs)
            have h2 := prs_length q.group q.whr xs fun y hy => (row_tags (HRK.out y hy)).1
            have h3 := seen_len HO.out.nodup HO.out.lt
            omega
          refine (sortGp_any HO.out.owns hgm).mono ?_
          rintro e W5 ⟨rfl, hgr, s5, gl', rfl, hpm, hpw, hat⟩
          have HAT := Lib.hid hat
          have HPM := Lib.hid hpm
          have HPW := Lib.hid hpw
          clear hat hpm hpw hgm
          go_wp2_with fail
          go_ret
          have hall : ∀ i, i < (firsts (prs q.group q.whr xs)).length → i ∈ seen := fun i hi => HALL.out i (by rw [List.length_zip, hKL]; simpa using hi)
          have heq : gl'.map (·.1) = answerF q xs := by
            refine answer_eq (fun k => rfl) ?_ ?_
            · refine (HPM.out.map _).trans ?_
              rw [HO.out.gps]
              have := (seen_perm HO.out.nodup HO.out.lt hall (0, ⟨#[]⟩)).map (gpF q xs)
              rwa [List.map_map] at this
            · rw [List.pairwise_map]; exact HPW.out.imp fun h => Int.not_lt.2 h
          have hB5 : Below w.heap.size w W5 := below_grown hB3 hgr fun c hc => by have := (HO.out.owns.lt c hc).1; omega
          have hsz := hgr.size
          refine ⟨s5, gl', rfl, heq, ?_, fun x hx => ?_, fun x hx c hc => ?_, ?_, hB5⟩
          · have hA := HAT.out
            cases hA with
            | nil => exact .nil
            | row ys b off cap hb hcap hmax hR => exact .row _ b off cap ⟨by omega, by omega⟩ hcap hmax fun i x hx => ⟨hR i x hx 0 _ rfl, hR i x hx 1 _ rfl, hR i x hx 2 _ rfl⟩
          · have h1 := HO.out.told x (HPM.out.mem_iff.1 hx)
            exact (h1.move fun c hc => hgr.block c hc.2.1 fun e => hc.2.2 e.symm).imp fun c hc => ⟨by omega, by omega⟩
          · obtain ⟨⟨h1, h2, h3⟩, h4⟩ := HO.out.free x (HPM.out.mem_iff.1 hx) c hc
            refine ⟨⟨by omega, by omega, h3⟩, fun o => ?_⟩
            rw [World.frozen?_of_block (a := ⟨c, o, none⟩) (hgr.block c h2 fun e => h3 e.symm)]; exact h4 o
          · exact (HPM.out.pairwise_iff (fun {x y} h c hc hc2 => h c hc2 hc)).2 HO.out.apart
        · obtain ⟨hk, hv⟩ := zip_get hi
          have k4 : ∀ c, c ≠ V.heap.size → (setObj w1 V.heap.size (.mapIter (some (w.heap.size + 1)) ((firsts (prs q.group q.whr xs)).zip vs).length (seen ++ [i]).toArray ((firsts (prs q.group q.whr xs)).zip vs).length)).heap[c]? = W3.heap[c]? := fun c hc => (setObj_other hc).trans (by rcases hw1 with rfl | rfl <;> rfl)
          have s4 : (setObj w1 V.heap.size (.mapIter (some (w.heap.size + 1)) ((firsts (prs q.group q.whr xs)).zip vs).length (seen ++ [i]).toArray ((firsts (prs q.group q.whr xs)).zip vs).length)).heap.size = W3.heap.size := by rw [setObj_size]; rcases hw1 with rfl | rfl <;> rfl
          have it4 : IterIs (setObj w1 V.heap.size (.mapIter (some (w.heap.size + 1)) ((firsts (prs q.group q.whr xs)).zip vs).length (seen ++ [i]).toArray ((firsts (prs q.group q.whr xs)).zip vs).length)) V.heap.size (w.heap.size + 1) ((firsts (prs q.group q.whr xs)).zip vs).length (seen ++ [i]) := setObj_same (by have := hO.size; rcases hw1 with rfl | rfl <;> exact this)
          have B4 : Below w.heap.size w (setObj w1 V.heap.size (.mapIter (some (w.heap.size + 1)) ((firsts (prs q.group q.whr xs)).zip vs).length (seen ++ [i]).toArray ((firsts (prs q.group q.whr xs)).zip vs).length)) := setObj_below (by rcases hw1 with rfl | rfl; exact hB3; exact hB3.drew) (by omega) _
          generalize setObj w1 V.heap.size _ = W4 at k4 s4 it4 B4 hrun
          have hM4 := hM3.move (k4 _ (by omega))
          clear hw1 w1
          have hsz := hO.size
          have KL : ∀ c, c < V.heap.size → W4.heap[c]? = V.heap[c]? := fun c hc => (k4 c (by omega)).trans (hO.keep c hc)
          have p7 : W4.cell? ⟨w.heap.size, 7, none⟩ = some (.slice ua q.tells.length uc) := (cell_same (KL _ hqs) 7).trans q7
          have hbq : w.heap.size < W4.heap.size := by omega
          have HO := Lib.hid hO
          have HKL := Lib.hid KL
          have HK4 := Lib.hid k4
          have HS4 := Lib.hid s4
          obtain ⟨sr, rfl, hRA⟩ := rows_of_owns (hG.owns i k v hk hv) fun x hx => ⟨((hxs x (HOK k x hx))).1, ((hxs x (HOK k x hx))).2.imp fun c hc => (by have := hp c hc; have := hB.size; omega)⟩
          clear hO KL k4 s4
          go_wp2_with (first
            | (refine wpList_next_run rfl (.tmp 48) rfl (by rfl) hrun ?_)
            | (refine wpList_iter_k rfl (.tmp 48) rfl hM4 it4 (by rfl) hi ?_; simp only [encP]))
          go_loopw [15, 62] (fun _ n W => ∃ (t : Nat) (tv : Value), t ≤ q.tells.length ∧ n = .int .i64 t ∧ Below w.heap.size w W ∧ W4.heap.size + 1 < W.heap.size ∧ (∀ c, c < W4.heap.size + 1 → W.heap[c]? = (W4.alloc (.cells #[.int .i64 k.1, .string k.2] 114)).heap[c]?) ∧
              W.heap[W4.heap.size + 1]? = some (.cells #[.int .i64 k.1, .string k.2, tv] 37) ∧ Owns W (W4.heap.size + 2) 44 2 twoCells tv ((q.tells.take t).map fun a => toldF a ((grp (prs q.group q.whr xs) k).map (·.1))))
            (fun _ n _ => q.tells.length - (intOf n).toNat)
          case atStart =>
            refine ⟨0, .slice none 0 0, by omega, rfl, below_alloc (below_alloc B4 _) _, by simp, fun c hc => heap_alloc_old _ _ (by simpa using hc), ?_, owns_nil _ _ _ _ _⟩
            rw [← World.size_alloc W4 (.cells #[.int .i64 k.1, .string k.2] 114)]; exact blk_new _ _
          case round =>
            rename World => W5
            obtain ⟨t, tv, ht5, rfl, hB5, hz5, hk5, hg5, hT5⟩ := hrel
            have g0 := blk_cell hg5 0 rfl
            have g1 := blk_cell hg5 1 rfl
            have g2 := blk_cell hg5 2 rfl
            by_cases hlt5 : t < q.tells.length
            · obtain ⟨a, hta0⟩ : ∃ a, q.tells[t]? = some a := ⟨_, List.getElem?_eq_getElem hlt5⟩
              obtain ⟨ub, uo, rfl, hub, hu0, hu1⟩ := hu4 t a hta0
              have hub2 := hp ub hub
              have a0 := (cell_same (hB5.block ub hub2) _).trans hu0
              have a1 := (cell_same (hB5.block ub hub2) _).trans hu1
              have HTA := Lib.hid hta0
              have HU4 := Lib.hid hu4
              have HG5 := Lib.hid hg5
              have HK5 := Lib.hid hk5
              clear hta0 hu4 hg5 hk5 hu0 hu1
              have htellB : tellB a = true := List.all_eq_true.1 htl a (List.mem_of_getElem? HTA.out)
              have hKm : k ∈ firsts (prs q.group q.whr xs) := List.mem_of_getElem? hk
              have hl0 : 0 < ((grp (prs q.group q.whr xs) k).map (·.1)).length := by rw [List.length_map]; exact hpos k hKm
              have hl5 : ((grp (prs q.group q.whr xs) k).map (·.1)).length ≤ 5000 := by
                rw [List.length_map, HP.out k]; exact Nat.le_trans (List.length_filter_le _ _) hrl
              have hok : ∀ r ∈ (grp (prs q.group q.whr xs) k).map (·.1), RowOk r := fun r hr => by
                obtain ⟨x, hx, rfl⟩ := List.mem_map.1 hr
                exact rowOk_of (HRK.out x (HOK k x hx))
              have hl9 : ((q.tells.take t).map fun a => toldF a ((grp (prs q.group q.whr xs) k).map (·.1))).length ≤ 10000000 := by
                rw [List.length_map, List.length_take]; omega
              go_wp2_with fail
              refine wp_region_RS (Keeps fun c => c < W5.heap.size + 1 ∧ tv.ownBlock ≠ some c) 8 (fun W => Below w.heap.size w W ∧ W.heap.size = W5.heap.size + 1 ∧ (∀ c, c < W5.heap.size → W.heap[c]? = W5.heap[c]?) ∧ W.heap[W5.heap.size]? = some (.cells #[.int .i64 a.1, .int .i64 a.2] 48)) (by kernel_rfl)
                ⟨(below_alloc hB5 _).drew, by simp, fun c hc => heap_alloc_old _ _ hc, blk_new W5 _⟩ ?_
              rintro W6 ⟨hB6, hz6, hk65, hb6⟩
              have hk6 : ∀ c, c < V.heap.size → W6.heap[c]? = V.heap[c]? := fun c hc => (hk65 c (by have := HS4.out; omega)).trans ((HK5.out c (by have := HS4.out; omega)).trans ((heap_alloc_old _ _ (by have := HS4.out; omega)).trans (HKL.out c hc)))
              have hV6 : V.heap.size < W6.heap.size := by have := HS4.out; omega
              have hg6 : W6.heap[W4.heap.size + 1]? = some (.cells #[.int .i64 k.1, .string k.2, tv] 37) := (hk65 _ (by omega)).trans HG5.out
              have k2 := blk_cell hg6 2 rfl
              have k3 := blk_cell hb6 0 rfl
              have k4 := blk_cell hb6 1 rfl
              have hk2 : (fun c => c < W5.heap.size + 1 ∧ tv.ownBlock ≠ some c) (W4.heap.size + 1) := ⟨by omega, fun e => by have := (hT5.lt _ e).1; omega⟩
              have hk3 : (fun c => c < W5.heap.size + 1 ∧ tv.ownBlock ≠ some c) W5.heap.size := ⟨by omega, fun e => by have := (hT5.lt _ e).2; omega⟩
              have hk4 := hk3
              have hK6 : ∀ c, (fun c => c < W5.heap.size + 1 ∧ tv.ownBlock ≠ some c) c → c < W6.heap.size := fun c hc => by have := hc.1; omega
              have hT6 : Owns W6 (W4.heap.size + 2) 44 2 twoCells tv ((q.tells.take t).map fun a => toldF a ((grp (prs q.group q.whr xs) k).map (·.1))) := hT5.keep fun c hc => hk65 c (hT5.lt c hc).2
              -- region 20 of function 51: 9 operations, sink 8
              refine takeR (keeps_chains _) 0 (by simp only [List.getElem?_toArray, List.getElem?_cons_succ, List.getElem?_cons_zero]; rfl) (by kernel_rfl) (by exact fun _ _ _ h => h) (by rfl) (v := ?_) ?_ ?_; rotate_left; (intro w2 hR; go_simp; first | done | rfl | rw [if_pos (by omega)]) -- Op.fieldAddr 37 (Operand.tmp 13) 2
              try simp only [Act.put, List.setIfInBounds_toArray, List.set_cons_zero, List.set_cons_succ]
              refine takeR (keeps_chains _) 1 (by simp only [List.getElem?_toArray, List.getElem?_cons_succ, List.getElem?_cons_zero]; rfl) (by kernel_rfl) (by exact fun _ _ _ h => h) (by rfl) (v := ?_) ?_ ?_; rotate_left; (intro w2 hR; have d0 := keeps_cell k2 hk2 hR; have d1 := keeps_cell k3 hk3 hR; have d2 := keeps_cell k4 hk4 hR; go_simp; first | done | rfl | rw [if_pos (by omega)]) -- Op.load 35 (Operand.tmp 66)
              try simp only [Act.put, List.setIfInBounds_toArray, List.set_cons_zero, List.set_cons_succ]
              refine takeR (keeps_chains _) 2 (by simp only [List.getElem?_toArray, List.getElem?_cons_succ, List.getElem?_cons_zero]; rfl) (by kernel_rfl) (by exact fun _ _ _ h => h) (by rfl) (v := ?_) ?_ ?_; rotate_left; (intro w2 hR; have d0 := keeps_cell k2 hk2 hR; have d1 := keeps_cell k3 hk3 hR; have d2 := keeps_cell k4 hk4 hR; go_simp; first | done | rfl | rw [if_pos (by omega)]) -- Op.load 48 (Operand.tmp 15)
              try simp only [Act.put, List.setIfInBounds_toArray, List.set_cons_zero, List.set_cons_succ]
              refine takeR (keeps_chains _) 3 (by simp only [List.getElem?_toArray, List.getElem?_cons_succ, List.getElem?_cons_zero]; rfl) (by kernel_rfl) (by exact fun _ _ _ h => h) (by rfl) (v := ?_) ?_ ?_; rotate_left; (intro w2 hR; go_simp; first | done | rfl | rw [if_pos (by omega)]) -- Op.move (Operand.tmp 12)
              try simp only [Act.put, List.setIfInBounds_toArray, List.set_cons_zero, List.set_cons_succ]
              -- 4: ask.go:398 Op.call { callee := Callee.value (Operand.func 76), args := #[Operand.tmp 68, Operand.tmp 69], argTypes := #[48, 28] } -> 70  guard none   READY [4]
              refine onlyR 4 (by simp only [List.getElem?_toArray, List.getElem?_cons_succ, List.getElem?_cons_zero]; rfl) (by kernel_rfl) rfl ?_
              intro K hK
              go_wp2_with fail
              refine (told_any a ((grp (prs q.group q.whr xs) k).map (·.1)) sr W6 (· < V.heap.size) htellB (hRA.move fun c hc => hk6 c hc) (fun c hc => Nat.lt_trans hc hV6) hl0 hl5 hok).mono ?_; rintro e W7 ⟨rfl, hb7⟩
              go_wp2_with fail
              refine hK.out _ _ (.inr (keeps_below hb7 hK6)) ?_
              clear hK K
              try simp only [Act.put, List.setIfInBounds_toArray, List.set_cons_zero, List.set_cons_succ]
              have hT7 : Owns (W7.alloc (.cells (twoCells (toldF a ((grp (prs q.group q.whr xs) k).map (·.1)))).toArray 44)) (W4.heap.size + 2) 44 2 twoCells tv ((q.tells.take t).map fun a => toldF a ((grp (prs q.group q.whr xs) k).map (·.1))) := (hT6.below hb7).alloc _
              have hs7 := hb7.size
              -- 5: ask.go:398 Op.buildSlice 35 1 #[(0, Operand.tmp 70)] -> 71  guard none   READY [5]
              refine onlyR 5 (by simp only [List.getElem?_toArray, List.getElem?_cons_succ, List.getElem?_cons_zero]; rfl) (by kernel_rfl) rfl ?_
              intro K hK
              go_wp2_with fail
              refine hK.out _ _ (.inr (keeps_below (below_alloc (below_refl W7) _) fun c hc => Nat.lt_of_lt_of_le (hK6 c hc) hb7.size)) ?_
              clear hK K
              try simp only [Act.put, List.setIfInBounds_toArray, List.set_cons_zero, List.set_cons_succ]
              -- 6: ask.go:398 Op.call { callee := Callee.builtin Builtin.append, args := #[Operand.tmp 67, Operand.tmp 71], argTypes := #[35, 35] } -> 72  guard none   READY [6]
              refine onlyR 6 (by simp only [List.getElem?_toArray, List.getElem?_cons_succ, List.getElem?_cons_zero]; rfl) (by kernel_rfl) rfl ?_
              intro K hK
              refine wp_push_at (.tmp 67) (.tmp 71) 35 rfl (W4.heap.size + 2) 44 (.agg #[.int .i64 0, .int .i64 0]) 2 16 Tryz.underlying35 Tryz.info44 rfl (by decide) (by decide) tv _ twoCells two_len (toldF a ((grp (prs q.group q.whr xs) k).map (·.1))) (two_ones _) W7.heap.size (by rfl) (by rfl) (blk_new W7 _) hT7 hl9 (by rw [World.size_alloc]; omega) ?_
              intro tv' W9 hT9 hgr9 hat9
              obtain ⟨s9, hv9, hA9⟩ := hT9.arr two_len
              subst hv9
              have hs9 := hgr9.size
              refine hK.out _ _ (.inr ⟨hgr9.size, fun c hc => hgr9.block c (by have := hK6 c hc; have := hb7.size; rw [World.size_alloc]; omega) fun e => hc.2 e.symm⟩) ?_
              clear hK K
              try simp only [Act.put, List.setIfInBounds_toArray, List.set_cons_zero, List.set_cons_succ]
              refine takeR (keeps_chains _) 7 (by simp only [List.getElem?_toArray, List.getElem?_cons_succ, List.getElem?_cons_zero]; rfl) (by kernel_rfl) (by exact fun _ _ _ h => h) (by rfl) (v := ?_) ?_ ?_; rotate_left; (intro w2 hR; go_simp; first | done | rfl | rw [if_pos (by omega)]) -- Op.fieldAddr 37 (Operand.tmp 13) 2
              try simp only [Act.put, List.setIfInBounds_toArray, List.set_cons_zero, List.set_cons_succ]
              have hg9 : W9.heap[W4.heap.size + 1]? = some (.cells #[.int .i64 k.1, .string k.2, tv] 37) := (hgr9.block _ (by rw [World.size_alloc]; omega) fun e => hk2.2 e.symm).trans ((heap_alloc_old _ _ (by omega)).trans ((hb7.block _ (by omega)).trans hg6))
              have f9 := blk_cell hg9 2 rfl
              have fr9 := blk_free hg9 2
              have hz9 := blk_lt hg9
              -- 8: ask.go:398 Op.store 35 (Operand.tmp 73) (Operand.tmp 72) -> None  guard none   READY [8]
              refine onlyR 8 (by simp only [List.getElem?_toArray, List.getElem?_cons_succ, List.getElem?_cons_zero]; rfl) (by kernel_rfl) rfl ?_
              intro K hK
              go_wp2_with fail
              refine hK.out _ _ (.inl (by simp)) ?_
              clear hK K
              try simp only [Act.put, List.setIfInBounds_toArray, List.set_cons_zero, List.set_cons_succ]
              refine wpR_done (by kernel_rfl) ?_ _
              go_wp2_with fail
              go_roundw
              case rel =>
                rw [setCell_obj hg9]
                have hB9 := below_grown (below_alloc (below_trans hB6 hb7) _) hgr9 fun c hc => by have := (hT5.lt c hc).1; omega
                refine ⟨t + 1, .slice s9.a s9.n s9.c, by omega, by go_num, setObj_below hB9 (by omega) _, by rw [setObj_size]; omega, fun c hc => ?_, setObj_same hz9, ?_⟩
                · refine (setObj_other (by omega)).trans ((hgr9.block c (by rw [World.size_alloc]; omega) fun e => ?_).trans ((heap_alloc_old _ _ (by omega)).trans ((hb7.block c (by omega)).trans ((hk65 c (by omega)).trans (HK5.out c hc)))))
                  have := (hT5.lt c e.symm).1; omega
                · rw [List.take_add_one, HTA.out, List.map_append]
                  exact hT9.keep fun c hc => setObj_other (by have := (hT9.lt c hc).1; omega)
              case measure => simp [intOf]; omega
            · obtain rfl : t = q.tells.length := by omega
              rw [List.take_length] at hT5
              obtain ⟨st, hst, hTA⟩ := hT5.arr two_len
              subst hst
              have HFR5 := Lib.hid (fun c (hc : st.v.ownBlock = some c) => owns_free hT5 hc)
              have hS4 := HS4.out
              have hOw : Owns W5 (V.heap.size + 1) 37 3 gpCells u10 gl := HO.out.owns.keep fun c hc => by
                have := HO.out.owns.lt c hc
                exact (hk5 c (by omega)).trans ((heap_alloc_old _ _ (by omega)).trans (HK4.out c (by omega)))
              have hgl : gl.length = seen.length := by have := congrArg List.length HO.out.gps; simpa using this
              have hsl : seen.length + 1 ≤ (firsts (prs q.group q.whr xs)).length := by
                have := seen_len (List.nodup_cons.2 ⟨hns, HO.out.nodup⟩) (fun j hj => by
                  rcases List.mem_cons.1 hj with rfl | hj
                  · exact (List.getElem?_eq_some_iff.1 hk).1
                  · exact HO.out.lt j hj : ∀ j ∈ i :: seen, j < (firsts (prs q.group q.whr xs)).length)
                simpa using this
              have hgm : gl.length ≤ 10000000 := by
                have h1 := firsts_length (prs q.group q.whr xs)
                have h2 := prs_length q.group q.whr xs fun y hy => (row_tags (HRK.out y hy)).1
                omega
              have hoB := fun c hc => HO.out.owns.lt c hc
              have HS4 := Lib.hid hS4
              have HK5 := Lib.hid hk5
              have HGL := Lib.hid hgl
              have HG5 := Lib.hid hg5
              clear hS4 hgl hk5 hg5
              go_wp2_with (refine wpList_push_at rfl (.tmp 75) (.tmp 77) 32 rfl (V.heap.size + 1) 37 (.agg #[.int .i64 0, .string ⟨#[]⟩, .slice none 0 0]) 3 48 Tryz.underlying32 Tryz.info37 rfl (by decide) (by decide) u10 gl gpCells gp_len (gpF q xs k, st) (gp_ones _) W5.heap.size (by rfl) (by rfl) (blk_new W5 _) (hOw.alloc _) hgm (by rw [World.size_alloc]; have := HS4.out; omega) ?_
                           intro vo' W7 hvo hgr hat
                           have HHAT := Lib.hid hat
                           clear hat)
              go_roundw
              case rel =>
                have hS4 := HS4.out
                have hs7 := hgr.size
                rw [World.size_alloc] at hs7
                have hW5 : ∀ c, c < W4.heap.size + 1 → u10.ownBlock ≠ some c → W7.heap[c]? = (W4.alloc (.cells #[.int .i64 k.1, .string k.2] 114)).heap[c]? := fun c h1 h2 =>
                  (hgr.block c (by rw [World.size_alloc]; omega) fun e => h2 e.symm).trans ((heap_alloc_old _ _ (by omega)).trans (HK5.out c h1))
                have hW4 : ∀ c, c < W4.heap.size → u10.ownBlock ≠ some c → W7.heap[c]? = W4.heap[c]? := fun c h1 h2 => (hW5 c (by omega) h2).trans (heap_alloc_old _ _ h1)
                have hne : ∀ c, c ≤ V.heap.size → u10.ownBlock ≠ some c := fun c h1 h2 => by have := (hoB c h2).1; omega
                refine ⟨seen ++ [i], gl ++ [(gpF q xs k, st)], below_grown (below_alloc hB5 _) hgr fun c hc => by have := (hoB c hc).1; omega, ?_⟩
                have hfr5 := HFR5.out
                refine ⟨fun c hc => (hW4 c (by omega) (hne c (by omega))).trans (HKL.out c hc), by omega, (hW4 _ (by omega) (hne _ (by omega))).trans it4, ?_, ?_, hvo, ?_, ?_, ?_, ?_⟩
                · exact List.nodup_append.2 ⟨HO.out.nodup, by simp, fun a ha b hb => by simp at hb; subst hb; exact fun e => hns (e ▸ ha)⟩
                · intro j hj
                  rcases List.mem_append.1 hj with hj | hj
                  · exact HO.out.lt j hj
                  · simp at hj; subst hj; exact (List.getElem?_eq_some_iff.1 hk).1
                · rw [List.map_append, List.map_append, HO.out.gps]
                  simp [List.getD_eq_getElem?_getD, hk]
                · intro x hx
                  rcases List.mem_append.1 hx with hx | hx
                  · have h1 := HO.out.told x hx
                    refine (h1.move fun c hc => ?_).imp fun c hc => ⟨hc.1, by omega, ?_⟩
                    · exact (hW4 c (by omega) hc.2.2).trans (HK4.out c (by omega))
                    · rcases HHAT.out with e | e
                      · rw [e]; exact hc.2.2
                      · rw [e, World.size_alloc]; simp; omega
                  · simp at hx; subst hx
                    refine ArrAt.imp hTA (fun c hc => ⟨by omega, by omega, ?_⟩) fun c hc o a _ h => ?_
                    · rcases HHAT.out with e | e
                      · rw [e]; intro e2; have := (hoB c e2).2; omega
                      · rw [e, World.size_alloc]; simp; omega
                    · have hkp : W7.heap[c]? = W5.heap[c]? := (hgr.block c (by rw [World.size_alloc]; omega) fun e => by have := (hoB c e.symm).2; omega).trans (heap_alloc_old _ _ (by omega))
                      exact ⟨(cell_same hkp _).trans (h 0 _ rfl), (cell_same hkp _).trans (h 1 _ rfl)⟩
                · intro x hx c hc
                  rcases List.mem_append.1 hx with hx | hx
                  · obtain ⟨⟨h1, h2, h3⟩, h4⟩ := HO.out.free x hx c hc
                    refine ⟨⟨h1, by omega, ?_⟩, fun o => ?_⟩
                    · rcases HHAT.out with e | e
                      · rw [e]; exact h3
                      · rw [e, World.size_alloc]; simp; omega
                    · rw [World.frozen?_of_block (a := ⟨c, o, none⟩) ((hW4 c (by omega) h3).trans (HK4.out c (by omega)))]; exact h4 o
                  · simp at hx; subst hx
                    obtain ⟨h1, h2, h4⟩ := hfr5 c hc
                    refine ⟨⟨by omega, by omega, ?_⟩, fun o => ?_⟩
                    · rcases HHAT.out with e | e
                      · rw [e]; intro e2; have := (hoB c e2).2; omega
                      · rw [e, World.size_alloc]; simp; omega
                    · have hkp : W7.heap[c]? = W5.heap[c]? := (hgr.block c (by rw [World.size_alloc]; omega) fun e => by have := (hoB c e.symm).2; omega).trans (heap_alloc_old _ _ (by omega))
                      rw [World.frozen?_of_block (a := ⟨c, o, none⟩) hkp]; exact h4 o
                · rw [List.pairwise_append]
                  refine ⟨HO.out.apart, List.pairwise_singleton _ _, fun x hx y hy c hc hc2 => ?_⟩
                  simp at hy; subst hy
                  have h1 := (HO.out.free x hx c hc).1.2.1
                  have h2 := (hfr5 c hc2).1
                  omega
              case measure =>
                show _ - sliceLen vo' < _ - sliceLen u10
                rw [owns_len hvo, owns_len HO.out.owns]
                have := HGL.out
                simp
                omega
theorem ansPost_of {w : World} {gs : List Gp} {e : Ending} {w' : World} (h : AnsOwn w gs e w') : AnsPost w gs e w' := by
  obtain ⟨v, gl, rfl, rfl, hA, ht, _, _, hB⟩ := h
  refine ⟨v, rfl, ?_, hB⟩
  cases hA with
  | nil => exact .nil
  | row ys b off cap hb hcap hmax hR =>
    have e : gl.length = (gl.map (·.1)).length := by simp
    rw [e] at hcap ⊢
    refine .row _ b off cap hb hcap hmax fun i g hg => ?_
    rw [List.getElem?_map] at hg
    cases hx : gl[i]? with
    | none => simp [hx] at hg
    | some x =>
      simp [hx] at hg; subst hg
      exact ⟨x.2, hR i x hx, ht x (List.mem_of_getElem? hx)⟩
theorem answer_xs (q : Qy) (xs : List RS) (s u t : Sl) (w : World) (p : Nat → Prop) (lv : Nat) (m : Int) (hc : CondAt p w q.whr s) (ht : TwosAt p w q.tells u)
    (hx : t.n = xs.length) (hxc : t.n ≤ t.c) (hcm : t.c ≤ maxLen) (hr : ∀ i x, xs[i]? = some x → ∃ b off, t.a = some ⟨b, off, none⟩ ∧ RAt p w b (off + i * 8) x)
    (hp : ∀ b, p b → b < w.heap.size) (hm : w.cell? ⟨0, 0, none⟩ = some (.int .i64 m)) (hz : chkPart lv q.whr = 0) (hg : inB q.group 0 4 = true) (htl : q.tells.all tellB = true) (hn : q.tells.length ≤ 10)
    (hrl : xs.length ≤ 5000) (hrk : ∀ x ∈ xs, chkRow x.1 = 0) :
    Calls Tryz.prog 51 #[q.val s u, .slice t.a t.n t.c] w (AnsPost w (answerF q xs)) :=
  (answer_own q xs s u t w p lv m hc ht hx hxc hcm hr hp hm hz hg htl hn hrl hrk).mono fun _ _ h => ansPost_of h
end Go.Proofs.YtbdbmpmijmmbeaaGreatDoor
