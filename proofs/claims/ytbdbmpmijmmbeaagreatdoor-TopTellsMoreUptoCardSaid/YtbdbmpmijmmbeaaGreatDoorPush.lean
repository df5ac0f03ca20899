/- Lists of elements in rows of cells; append of one element. -/
import Derived.Test.YtbdbmpmijmmbeaaGreatDoorMem
namespace Go.Proofs.YtbdbmpmijmmbeaaGreatDoor
open Go.RowKit

/-- Rows of cells, one behind the other. -/
theorem flat_get {α : Type} {k : Nat} {cells : α → List Value} (hk : ∀ x, (cells x).length = k) {xs : List α} : ∀ {i : Nat} {x : α}, xs[i]? = some x → ∀ {j : Nat} {u : Value}, (cells x)[j]? = some u → (xs.flatMap cells)[i * k + j]? = some u := by
  induction xs with
  | nil => intro i x h; simp at h
  | cons y r ih =>
    intro i x h j u hu
    have hj : j < k := by rw [← hk x]; exact (List.getElem?_eq_some_iff.1 hu).1
    cases i with
    | zero =>
      simp at h; subst h
      rw [List.flatMap_cons, List.getElem?_append_left (by rw [hk]; omega), Nat.zero_mul, Nat.zero_add]; exact hu
    | succ i =>
      rw [List.flatMap_cons, List.getElem?_append_right (by rw [hk]; rw [Nat.succ_mul]; omega), hk, show (i + 1) * k + j - k = i * k + j from by rw [Nat.succ_mul]; omega]
      exact ih (by simpa using h) hu
theorem flat_length {α : Type} {k : Nat} {cells : α → List Value} (hk : ∀ x, (cells x).length = k) (xs : List α) : (xs.flatMap cells).length = xs.length * k := by
  induction xs with
  | nil => simp
  | cons y r ih => simp only [List.flatMap_cons, List.length_append, List.length_cons, hk, ih, Nat.succ_mul]; omega

theorem ownsRow_arr {α : Type} {w : World} {base : Nat} {e : TypeId} {k : Nat} {v : Value} (cells : α → List Value) (hk : ∀ x, (cells x).length = k) {xs : List α} (h : w.ownsRow base e k v xs.length (xs.flatMap cells)) :
    ∃ s : Sl, v = .slice s.a s.n s.c ∧ ArrAt (fun b => base ≤ b ∧ b < w.heap.size) k (fun b o x => ∀ j u, (cells x)[j]? = some u → w.cell? ⟨b, o + j, none⟩ = some u) xs s := by
  have hlt := h.lt
  have hcells := fun g (hg : v.ownBlock = some g) => h.cells (g := g) hg
  rcases h.2 with ⟨rfl, hn⟩ | ⟨g, cap, cur, rfl, hb, hgg, hnc, hcm, hcs, _⟩
  · obtain rfl : xs = [] := List.eq_nil_of_length_eq_zero hn
    exact ⟨⟨none, 0, 0⟩, rfl, .nil⟩
  · refine ⟨⟨some ⟨g, 0, none⟩, xs.length, cap⟩, rfl, .row xs g 0 cap (hlt g rfl) hnc hcm fun i x hx j u hu => ?_⟩
    have h1 := hcells g rfl (i * k + j) u (flat_get hk hx hu)
    have hadd : (⟨g, 0, none⟩ : Addr).add (i * k + j) = ⟨g, 0 + i * k + j, none⟩ := by unfold Addr.add; split <;> simp_all
    rwa [hadd] at h1


/-- What the call owns: the elements xs, each in its cells. -/
def Owns {α : Type} (w : World) (base : Nat) (e : TypeId) (k : Nat) (cells : α → List Value) (v : Value) (xs : List α) : Prop := w.ownsRow base e k v xs.length (xs.flatMap cells)
theorem owns_nil {α : Type} (w : World) (base : Nat) (e : TypeId) (k : Nat) (cells : α → List Value) : Owns w base e k cells (.slice none 0 0) [] := World.ownsRow_nil w base e k
theorem Owns.alloc {α : Type} {w : World} {base : Nat} {e : TypeId} {k : Nat} {cells : α → List Value} {v : Value} {xs : List α} (h : Owns w base e k cells v xs) (o : Obj) : Owns (w.alloc o) base e k cells v xs := World.ownsRow.alloc h o
theorem Owns.lt {α : Type} {w : World} {base : Nat} {e : TypeId} {k : Nat} {cells : α → List Value} {v : Value} {xs : List α} (h : Owns w base e k cells v xs) : ∀ b, v.ownBlock = some b → base ≤ b ∧ b < w.heap.size := World.ownsRow.lt h
theorem Owns.keep {α : Type} {w w' : World} {base : Nat} {e : TypeId} {k : Nat} {cells : α → List Value} {v : Value} {xs : List α} (h : Owns w base e k cells v xs) (hw : ∀ b, v.ownBlock = some b → w'.heap[b]? = w.heap[b]?) : Owns w' base e k cells v xs := by
  refine ⟨h.1, ?_⟩
  rcases h.2 with hn | ⟨g, cap, cur, rfl, hb, hgg, rest⟩
  · exact .inl hn
  · exact .inr ⟨g, cap, cur, rfl, hb, (hw g rfl).trans hgg, rest⟩
theorem Owns.below {α : Type} {w w' : World} {base : Nat} {e : TypeId} {k : Nat} {cells : α → List Value} {v : Value} {xs : List α} (h : Owns w base e k cells v xs) (hB : Below w.heap.size w w') : Owns w' base e k cells v xs :=
  h.keep fun b hb => hB.block b (h.lt b hb).2
theorem below_grown {w a a' : World} {v : Value} (hB : Below w.heap.size w a) (hg : a.grownBy a' v.ownBlock) (hl : ∀ b, v.ownBlock = some b → w.heap.size ≤ b) : Below w.heap.size w a' := hB.grown hg hB.size hl
theorem Owns.arr {α : Type} {w : World} {base : Nat} {e : TypeId} {k : Nat} {cells : α → List Value} {v : Value} {xs : List α} (h : Owns w base e k cells v xs) (hk : ∀ x, (cells x).length = k) :
    ∃ s : Sl, v = .slice s.a s.n s.c ∧ ArrAt (fun b => base ≤ b ∧ b < w.heap.size ∧ v.ownBlock = some b) k (fun b o x => ∀ j u, (cells x)[j]? = some u → w.cell? ⟨b, o + j, none⟩ = some u) xs s := by
  obtain ⟨s, hs, ha⟩ := ownsRow_arr cells hk h
  refine ⟨s, hs, ?_⟩
  subst hs
  cases ha with
  | nil => exact .nil
  | row xs b off cap hp hn hc hR => exact .row xs b off cap ⟨hp.1, hp.2, rfl⟩ hn hc hR

/-- append(s, x): x lies in a new block of its own. -/
theorem wpList_push {α : Type} {P : Program} {ops : Array Oper} {rest : List Oper} {o : Oper} {a : Act} {w : World} {Q : Exit → Act → World → Prop} (hgd : o.guard = none) (s x : Operand) (t : TypeId)
    (ho : o.op = .call { callee := .builtin .append, args := #[s, x], argTypes := #[t, t] })
    (base : Nat) (e : TypeId) (z : Value) (k bytes : Nat) (ht : P.underlying t = some (.slice e)) (hi : (P.info? e).map (fun i => (i.zero, i.size, i.bytes)) = some (some z, k, bytes))
    (hzs : z.cells.size = k) (hsz : 0 < k) (hby : bytes ≤ 1000) (v : Value) (xs : List α) (cells : α → List Value) (hk : ∀ y, (cells y).length = k) (y : α) (h1 : ∀ u ∈ cells y, u.oneCell' = true) (blk : Nat)
    (hs : a.eval s = v) (hx : a.eval x = .slice (some ⟨blk, 0, none⟩) 1 1) (hblk : w.heap[blk]? = some (.cells (cells y).toArray e (0, 0))) (hown : Owns w base e k cells v xs)
    (hmax : xs.length ≤ 10000000) (hbase : base ≤ w.heap.size)
    (h : ∀ v' w', Owns w' base e k cells v' (xs ++ [y]) → w.grownBy w' v.ownBlock → wpList P ops Q rest (a.put o.dst v') w') : wpList P ops Q (o :: rest) a w := by
  obtain ⟨i0, hi0, hz0, hz1, hz2⟩ := info_parts hi
  refine wpList_append_own w hgd s x t ho base e i0 z k bytes ht hi0 hz0 hz1 hz2 hzs hsz v xs.length (xs.flatMap cells) hs hown ⟨blk, 0, none⟩ 1 1 (cells y) hx (by rw [hk]; omega) ?_ h1 ?_ ?_ hbase ?_
  · intro j u hu
    have hadd : (⟨blk, 0, none⟩ : Addr).add j = ⟨blk, j, none⟩ := by unfold Addr.add; split <;> simp_all
    rw [hadd]
    exact blk_cell hblk j (by simpa using hu)
  · unfold maxLen; omega
  · have : (xs.length + 1) * bytes ≤ 10000001 * 1000 := Nat.mul_le_mul (by omega) hby
    omega
  · intro v' w' h2 h3 _
    refine h v' w' ?_ h3
    unfold Owns
    rw [List.length_append, List.flatMap_append]
    simpa using h2
end Go.Proofs.YtbdbmpmijmmbeaaGreatDoor
