/- Maps that a call makes and never deletes from: the block is the list of its pairs, in the order in which their keys came. -/
import Derived.Test.YtbdbmpmijmmbeaaGreatDoorMem
import Derived.Maps.Own
namespace Go.Proofs.YtbdbmpmijmmbeaaGreatDoor
open Go.RowKit

section
variable {κ : Type}

/-- The entries of a map's block. -/
def entsFrom (enc : κ → Value) : Nat → List (κ × Value) → List MapEntry
  | _, [] => []
  | i, x :: r => { key := enc x.1, val := x.2, born := i } :: entsFrom enc (i + 1) r
def ents (enc : κ → Value) (es : List (κ × Value)) : Array MapEntry := (entsFrom enc 0 es).toArray

/-- The first place of a key, and its value. -/
def lookFrom [DecidableEq κ] (k : κ) : Nat → List (κ × Value) → Option (Nat × Value)
  | _, [] => none
  | i, x :: r => if k = x.1 then some (i, x.2) else lookFrom k (i + 1) r
def look [DecidableEq κ] (es : List (κ × Value)) (k : κ) : Option (Nat × Value) := lookFrom k 0 es

/-- Keys of a type, as the machine handles them. -/
structure KeyKind [DecidableEq κ] (P : Program) (kt : TypeId) (enc : κ → Value) (ok : κ → Prop) : Prop where
  check : ∀ (e : Bool) (k : κ) (w : World), ok k → (Instr.checkKey e 10000 kt (enc k)).run P w = .ok () w
  find : ∀ (k : κ) (es : List (κ × Value)) (w : World), ok k → (∀ x ∈ es, ok x.1) → (Instr.findKey kt (enc k) (entsFrom enc 0 es)).run P w = .ok (look es k) w
  same : ∀ k : κ, ok k → Instr.sameBits 10000 (enc k) (enc k) = true

/-- Block b is a map with these pairs. -/
def MapIs (w : World) (enc : κ → Value) (b : Nat) (es : List (κ × Value)) : Prop := w.heap[b]? = some (.map (ents enc es) es.length)

theorem MapIs.lt {w : World} {enc : κ → Value} {b : Nat} {es : List (κ × Value)} (h : MapIs w enc b es) : b < w.heap.size := (Array.getElem?_eq_some_iff.1 h).1
theorem MapIs.move {w w' : World} {enc : κ → Value} {b : Nat} {es : List (κ × Value)} (h : MapIs w enc b es) (e : w'.heap[b]? = w.heap[b]?) : MapIs w' enc b es := e.trans h
theorem MapIs.alloc {w : World} {enc : κ → Value} {b : Nat} {es : List (κ × Value)} (h : MapIs w enc b es) (o : Obj) : MapIs (w.alloc o) enc b es := h.move (heap_alloc_old w o h.lt)
theorem MapIs.made (w : World) (enc : κ → Value) : MapIs (w.alloc (.map #[] 0)) enc w.heap.size [] := blk_new w _

/-- The world in which block b is turned into another object. -/
def setObj (w : World) (b : Nat) (o : Obj) : World := { w with heap := w.heap.setIfInBounds b o }
theorem setObj_size (w : World) (b : Nat) (o : Obj) : (setObj w b o).heap.size = w.heap.size := by simp [setObj]
theorem setObj_other {w : World} {b : Nat} {o : Obj} {c : Nat} (h : c ≠ b) : (setObj w b o).heap[c]? = w.heap[c]? := by
  simp only [setObj, Array.getElem?_setIfInBounds]; rw [if_neg (fun e => h e.symm)]
theorem setObj_same {w : World} {b : Nat} {o : Obj} (h : b < w.heap.size) : (setObj w b o).heap[b]? = some o := by
  simp [setObj, h]
theorem setObj_below {B : Nat} {a w : World} (h : Below B a w) {b : Nat} (hb : B ≤ b) (o : Obj) : Below B a (setObj w b o) :=
  h.trans ⟨rfl, rfl, rfl, by simp [setObj], fun k hk => setObj_other (by omega)⟩

theorem entsFrom_length (enc : κ → Value) (es : List (κ × Value)) : ∀ i, (entsFrom enc i es).length = es.length := by
  induction es with
  | nil => intro i; rfl
  | cons x r ih => intro i; simp [entsFrom, ih]
theorem entsFrom_get (enc : κ → Value) (es : List (κ × Value)) : ∀ i j, (entsFrom enc i es)[j]? = (es[j]?).map fun x => (⟨enc x.1, x.2, i + j⟩ : MapEntry) := by
  induction es with
  | nil => intro i j; simp [entsFrom]
  | cons x r ih =>
    intro i j
    cases j with
    | zero => simp [entsFrom]
    | succ j => simp only [entsFrom, List.getElem?_cons_succ, ih]; congr 1; funext y; congr 1; omega
theorem entsFrom_append (enc : κ → Value) (es fs : List (κ × Value)) : ∀ i, entsFrom enc i (es ++ fs) = entsFrom enc i es ++ entsFrom enc (i + es.length) fs := by
  induction es with
  | nil => intro i; simp [entsFrom]
  | cons x r ih => intro i; simp only [List.cons_append, entsFrom, ih, List.length_cons]; congr 3; omega
theorem entsFrom_modify (enc : κ → Value) (v : Value) (es : List (κ × Value)) : ∀ i j, (entsFrom enc i es).modify j (fun e : MapEntry => { e with val := v }) = entsFrom enc i (es.modify j fun x => (x.1, v)) := by
  induction es with
  | nil => intro i j; simp [entsFrom]
  | cons x r ih =>
    intro i j
    cases j with
    | zero => simp [entsFrom]
    | succ j => simp [entsFrom, ih]
theorem modify_congr {α : Type} {l : List α} {j : Nat} {x : α} {f g : α → α} (h : l[j]? = some x) (e : f x = g x) : l.modify j f = l.modify j g := by
  apply List.ext_getElem?
  intro i
  rw [List.getElem?_modify, List.getElem?_modify]
  by_cases hi : j = i
  · subst hi; simp [h, e]
  · simp [hi]
theorem lookFrom_some [DecidableEq κ] {k : κ} {es : List (κ × Value)} : ∀ {i j : Nat} {v : Value}, lookFrom k i es = some (j, v) → i ≤ j ∧ es[j - i]? = some (k, v) := by
  induction es with
  | nil => intro i j v h; simp [lookFrom] at h
  | cons x r ih =>
    intro i j v h
    simp only [lookFrom] at h
    split at h
    · rename_i e; simp only [Option.some.injEq, Prod.mk.injEq] at h; obtain ⟨rfl, rfl⟩ := h; subst e; simp
    · obtain ⟨h1, h2⟩ := ih h
      refine ⟨by omega, ?_⟩
      rw [show j - i = (j - (i + 1)) + 1 from by omega]; simpa using h2
theorem look_some [DecidableEq κ] {k : κ} {es : List (κ × Value)} {j : Nat} {v : Value} (h : look es k = some (j, v)) : es[j]? = some (k, v) := (lookFrom_some h).2
theorem lookFrom_none [DecidableEq κ] {k : κ} {es : List (κ × Value)} : ∀ {i : Nat}, lookFrom k i es = none → ∀ x ∈ es, x.1 ≠ k := by
  induction es with
  | nil => intro i _ x hx; cases hx
  | cons y r ih =>
    intro i h x hx
    simp only [lookFrom] at h
    split at h
    · cases h
    · rename_i e
      cases hx with
      | head => exact fun he => e he.symm
      | tail _ hm => exact ih h x hm
theorem look_none [DecidableEq κ] {k : κ} {es : List (κ × Value)} (h : look es k = none) : ∀ x ∈ es, x.1 ≠ k := lookFrom_none h

variable [DecidableEq κ] {P : Program} {kt et t : TypeId} {enc : κ → Value} {ok : κ → Prop} {w : World} {b : Nat} {es : List (κ × Value)}

/-- The value of a key, or else. -/
def lookV (es : List (κ × Value)) (k : κ) (z : Value) : Value := match look es k with | some (_, v) => v | none => z
/-- A pair put in. -/
def putK (es : List (κ × Value)) (k : κ) (v : Value) : List (κ × Value) := match look es k with | some (j, _) => es.modify j fun x => (x.1, v) | none => es ++ [(k, v)]

theorem run_lookup_k (hK : KeyKind P kt enc ok) (ht : P.underlying t = some (.map kt et)) {z : Value} (hz : (zeroValue et).run P w = .ok z w) (h : MapIs w enc b es) (k : κ) (hk : ok k) (hes : ∀ x ∈ es, ok x.1) (c : Bool) :
    (Instr.lookup t (.map (some b)) (enc k) c).run P w = .ok (if c then .tuple #[lookV es k z, .bool (look es k).isSome] else lookV es k z) w := by
  have hf := hK.find k es w hk hes
  have hc := fun e => hK.check e k w hk
  unfold MapIs at h
  unfold Instr.lookup
  cases hl : look es k with
  | none => rw [hl] at hf; cases c <;> simp [run_underlying ht, getObj, Sem.run, h, hc, ents, hf, hz, lookV, hl]
  | some x => rw [hl] at hf; cases c <;> simp [run_underlying ht, getObj, Sem.run, h, hc, ents, hf, lookV, hl]

theorem run_update_k (hK : KeyKind P kt enc ok) (ht : P.underlying t = some (.map kt et)) (h : MapIs w enc b es) (k : κ) (hk : ok k) (hes : ∀ x ∈ es, ok x.1) (v : Value) :
    (Instr.mapUpdate t (.map (some b)) (enc k) v).run P w = .ok () (setObj w b (.map (ents enc (putK es k v)) (putK es k v).length)) := by
  have hf := hK.find k es w hk hes
  have hc := fun e => hK.check e k w hk
  unfold MapIs at h
  unfold Instr.mapUpdate
  cases hl : look es k with
  | none =>
    rw [hl] at hf
    simp [run_underlying ht, getObj, Sem.run, h, hc, ents, hf, putK, hl, setObj, Go.setObj, entsFrom_append, entsFrom]
  | some x =>
    obtain ⟨j, u⟩ := x
    rw [hl] at hf
    have hj := look_some hl
    have hg := entsFrom_get enc es 0 j
    rw [hj] at hg
    have hm := entsFrom_modify enc v es 0 j
    have he : ((entsFrom enc 0 es).modify j fun e => (⟨enc k, v, e.born⟩ : MapEntry)) = entsFrom enc 0 (es.modify j fun x => (x.1, v)) := by
      rw [← hm]; exact modify_congr hg rfl
    simp [run_underlying ht, getObj, Sem.run, h, hc, ents, hf, putK, hl, setObj, Go.setObj, Instr.keyThatStays, hg, hK.same k hk, he]

theorem wpList_lookup_k {ops : Array Oper} {rest : List Oper} {o : Oper} {a : Act} {Q : Exit → Act → World → Prop} (hg : o.guard = none) (m x : Operand) (c : Bool) (hop : o.op = Op.lookup t m x c)
    (hK : KeyKind P kt enc ok) (ht : P.underlying t = some (.map kt et)) {z : Value} (hz : (zeroValue et).run P w = .ok z w) (h : MapIs w enc b es) (k : κ) (hk : ok k) (hes : ∀ x ∈ es, ok x.1)
    (hm : a.eval m = .map (some b)) (hx : a.eval x = enc k)
    (hn : wpList P ops Q rest (a.put o.dst (if c then .tuple #[lookV es k z, .bool (look es k).isSome] else lookV es k z)) w) : wpList P ops Q (o :: rest) a w := by
  refine wpList_plain hg fun K' hK' => ?_
  have hrun := run_lookup_k hK ht hz h k hk hes c
  unfold Oper.wp
  simp only [execOp, hop, hm, hx, Sem.run_bind, hrun, Result.andThen_ok, Sem.run_pure]
  exact hK' _ _ hn

theorem wpList_update_k {ops : Array Oper} {rest : List Oper} {o : Oper} {a : Act} {Q : Exit → Act → World → Prop} (hg : o.guard = none) (m x v : Operand) (hop : o.op = Op.mapUpdate t m x v)
    (hK : KeyKind P kt enc ok) (ht : P.underlying t = some (.map kt et)) (h : MapIs w enc b es) (k : κ) (hk : ok k) (hes : ∀ x ∈ es, ok x.1) (val : Value)
    (hm : a.eval m = .map (some b)) (hx : a.eval x = enc k) (hv : a.eval v = val)
    (hn : wpList P ops Q rest (a.put o.dst undef) (setObj w b (.map (ents enc (putK es k val)) (putK es k val).length))) : wpList P ops Q (o :: rest) a w := by
  refine wpList_plain hg fun K' hK' => ?_
  have hrun := run_update_k hK ht h k hk hes val
  unfold Oper.wp
  simp only [execOp, hop, hm, hx, hv, Sem.run_bind, hrun, Result.andThen_ok, Sem.run_pure]
  exact hK' _ _ hn
end

theorem lookFrom_isSome {κ : Type} [DecidableEq κ] (k : κ) (es : List (κ × Value)) : ∀ i, (lookFrom k i es).isSome = decide (k ∈ es.map (·.1)) := by
  induction es with
  | nil => intro i; rfl
  | cons x r ih =>
    intro i
    simp only [lookFrom, List.map_cons, List.mem_cons]
    by_cases h : k = x.1
    · simp [h]
    · rw [if_neg h, ih]; simp [h]
theorem look_isSome {κ : Type} [DecidableEq κ] (k : κ) (es : List (κ × Value)) : (look es k).isSome = decide (k ∈ es.map (·.1)) := lookFrom_isSome k es 0
theorem putK_keys {κ : Type} [DecidableEq κ] (es : List (κ × Value)) (k : κ) (v : Value) : (putK es k v).map (·.1) = if (look es k).isSome then es.map (·.1) else es.map (·.1) ++ [k] := by
  unfold putK
  cases h : look es k with
  | none => simp
  | some x =>
    obtain ⟨j, u⟩ := x
    simp only [Option.isSome_some, if_true]
    apply List.ext_getElem?
    intro i
    simp only [List.getElem?_map, List.getElem?_modify]
    by_cases hi : j = i
    · subst hi; cases es[j]? <;> simp
    · simp [hi]
theorem putK_all {κ : Type} [DecidableEq κ] {es : List (κ × Value)} {k : κ} {v : Value} {p : Value → Prop} (h : ∀ x ∈ es, p x.2) (hv : p v) : ∀ x ∈ putK es k v, p x.2 := by
  unfold putK
  cases hl : look es k with
  | none =>
    intro x hx
    rcases List.mem_append.1 hx with hx | hx
    · exact h x hx
    · simp at hx; subst hx; exact hv
  | some y =>
    intro x hx
    obtain ⟨i, hi⟩ := List.getElem?_of_mem hx
    simp only [List.getElem?_modify] at hi
    by_cases hj : y.1 = i
    · subst hj
      cases he : es[y.1]? with
      | none => simp [he] at hi
      | some z => simp [he] at hi; subst hi; exact hv
    · simp [hj] at hi; exact h x (List.mem_of_getElem? hi)
theorem lookV_mem {κ : Type} [DecidableEq κ] {es : List (κ × Value)} {k : κ} {z : Value} (h : (look es k).isSome = true) : ∃ x ∈ es, x.1 = k ∧ lookV es k z = x.2 := by
  unfold lookV
  cases hl : look es k with
  | none => simp [hl] at h
  | some y => obtain ⟨j, u⟩ := y; exact ⟨(k, u), List.mem_of_getElem? (look_some hl), rfl, rfl⟩
theorem lookV_none {κ : Type} [DecidableEq κ] {es : List (κ × Value)} {k : κ} {z : Value} (h : (look es k).isSome = false) : lookV es k z = z := by
  unfold lookV; rw [Option.isSome_eq_false_iff, Option.isNone_iff_eq_none] at h; rw [h]
theorem mapIs_set {κ : Type} {w : World} {enc : κ → Value} {b : Nat} {es : List (κ × Value)} (hb : b < w.heap.size) : MapIs (setObj w b (.map (ents enc es) es.length)) enc b es := setObj_same hb

/-! keys that are strings -/
theorem ba_beq (a b : ByteArray) : (a == b) = decide (a = b) := by
  rw [beq_toListBytes, ByteArray.toList_eq, ByteArray.toList_eq]
  by_cases h : a = b
  · subst h; simp
  · have : a.data.toList ≠ b.data.toList := fun e => h (Go.WideShapes.bytes_inj e)
    rw [decide_eq_false h, beq_eq_false_iff_ne]; exact this
def encS (s : ByteArray) : Value := .string s
instance : LawfulBEq ByteArray where
  eq_of_beq := fun h => by rw [ba_beq] at h; exact of_decide_eq_true h
  rfl := by intro a; rw [ba_beq]; simp
theorem findNow_str (k : ByteArray) (es : List (ByteArray × Value)) : ∀ i n, Instr.findNow .string (encS k) (entsFrom encS i es) n = some (lookFrom k n es) := by
  induction es with
  | nil => intro i n; rfl
  | cons x r ih =>
    intro i n
    simp only [entsFrom, Instr.findNow, encS, Instr.sameNow, lookFrom]
    by_cases h : k = x.1
    · subst h; simp [ba_beq]
    · have : (k == x.1) = false := by rw [ba_beq]; simpa using h
      rw [this, if_neg h]
      exact ih _ _
theorem string_kind {P : Program} {kt : TypeId} (h : P.underlying kt = some .string) : KeyKind P kt encS (fun _ => True) where
  check := fun e k w _ => by
    change (Instr.checkKey e (9999 + 1) kt _).run P w = _
    rw [Instr.checkKey]; simp [encS, run_underlying h]
  find := fun k es w _ _ => by simp [Instr.findKey, run_underlying h, findNow_str, look]
  same := fun k _ => by simp [Instr.sameBits, encS, ba_beq]
/-! keys that are whole numbers -/
def encI (n : Int) : Value := .int .i64 n
theorem findNow_int (k : Int) (es : List (Int × Value)) : ∀ i n, Instr.findNow (.int .i64) (encI k) (entsFrom encI i es) n = some (lookFrom k n es) := by
  induction es with
  | nil => intro i n; rfl
  | cons x r ih =>
    intro i n
    simp only [entsFrom, Instr.findNow, encI, Instr.sameNow, lookFrom]
    by_cases h : k = x.1
    · subst h; simp
    · have : (k == x.1) = false := by simpa using h
      rw [if_neg h]; simp only [this, if_true]
      exact ih _ _
theorem int_kind {P : Program} {kt : TypeId} (h : P.underlying kt = some (.int .i64)) : KeyKind P kt encI (fun _ => True) where
  check := fun e k w _ => by
    change (Instr.checkKey e (9999 + 1) kt _).run P w = _
    rw [Instr.checkKey]; simp [encI, run_underlying h]
  find := fun k es w _ _ => by simp [Instr.findKey, run_underlying h, findNow_int, look]
  same := fun k _ => by simp [Instr.sameBits, encI]
end Go.Proofs.YtbdbmpmijmmbeaaGreatDoor
