/- Maps whose keys are a number and a text; ranging over a map; an entry that is fetched and stored. -/
import Derived.Test.YtbdbmpmijmmbeaaGreatDoorMapK
import Derived.Maps.RangeRun
import Derived.Laws.StructEq
namespace Go.Proofs.YtbdbmpmijmmbeaaGreatDoor
open Go.RowKit

def encP (k : Int × ByteArray) : Value := .agg #[.int .i64 k.1, .string k.2]

theorem eq_pair (k x : Int × ByteArray) (w : World) : (Op.equal 114 (encP k) (encP x)).run Tryz.prog w = .ok (decide (k = x)) w := by
  have h2 : Tryz.prog.stoodInHeld 114 = false := by kernel_rfl
  have hf : Tryz.prog.fieldsOf 114 = #[⟨"number", 3, 0, false, "", "harrier/ask", 0⟩, ⟨"text", 9, 1, false, "", "harrier/ask", 8⟩] := by
    unfold Program.fieldsOf; rw [Tryz.underlying114]
  have h1 : Tryz.prog.underlying 114 = some (.struct (Tryz.prog.fieldsOf 114)) := by rw [hf, Tryz.underlying114]
  show (Op.equalIn (9998 + 1 + 1) 114 (encP k) (encP x)).run Tryz.prog w = _
  unfold encP
  rw [run_equalIn_struct w _ 114 _ _ h1 h2, hf]
  have e1 : (k.1 == x.1 && k.2 == x.2) = decide (k = x) := by
    obtain ⟨a, s⟩ := k; obtain ⟨b, t⟩ := x
    by_cases h : a = b <;> by_cases h' : s = t <;> simp [h, h', ba_beq]
  rw [← e1]
  simp only [Op.eqFields, part, Sem.run_bind, Tryz.isAgg3, Tryz.isAgg9, Result.andThen_ok]
  cases hk : (k.1 == x.1)
  · simp [run_equalIn_int (P := Tryz.prog) w _ 3 _ _ _ _ Tryz.underlying3, hk]
  · simp [run_equalIn_int (P := Tryz.prog) w _ 3 _ _ _ _ Tryz.underlying3, run_equalIn_string (P := Tryz.prog) w _ 9 _ _ Tryz.underlying9, hk, beq_toListBytes]
    cases h5 : (k.2.toList == x.2.toList) <;> simp at h5 ⊢ <;> exact h5
theorem check_pair (e : Bool) (k : Int × ByteArray) (w : World) : (Instr.checkKey e 10000 114 (encP k)).run Tryz.prog w = .ok () w := by
  show (Instr.checkKey e (9998 + 1 + 1) 114 (encP k)).run Tryz.prog w = _
  have a (n : Nat) (v : Int) : (Instr.checkKey e (n + 1) 3 (.int .i64 v)).run Tryz.prog w = .ok () w := by rw [Instr.checkKey]; simp [run_underlying Tryz.underlying3]
  have b (n : Nat) (v : ByteArray) : (Instr.checkKey e (n + 1) 9 (.string v)).run Tryz.prog w = .ok () w := by rw [Instr.checkKey]; simp [run_underlying Tryz.underlying9]
  rw [Instr.checkKey]
  simp [encP, run_underlying Tryz.underlying114, part, Tryz.isAgg3, Tryz.isAgg9, a, b]
theorem find_pair (k : Int × ByteArray) (es : List ((Int × ByteArray) × Value)) (w : World) : ∀ i n, (Instr.findAsking 114 (encP k) (entsFrom encP i es) n).run Tryz.prog w = .ok (lookFrom k n es) w := by
  induction es with
  | nil => intro i n; simp [entsFrom, Instr.findAsking, lookFrom]
  | cons x r ih =>
    intro i n
    simp only [entsFrom, Instr.findAsking, Sem.run_bind, eq_pair, Result.andThen_ok, lookFrom]
    by_cases h : k = x.1
    · simp [h]
    · rw [if_neg h]; simp only [decide_eq_true_eq, h, if_false]
      exact ih _ _
theorem pair_kind : KeyKind Tryz.prog 114 encP (fun _ => True) where
  check := fun e k w _ => check_pair e k w
  find := fun k es w _ _ => by
    cases es with
    | nil => simp [Instr.findKey, run_underlying Tryz.underlying114, entsFrom, Instr.findNow, look, lookFrom]
    | cons x r =>
      have h : Instr.findNow (.struct #[⟨"number", 3, 0, false, "", "harrier/ask", 0⟩, ⟨"text", 9, 1, false, "", "harrier/ask", 8⟩]) (encP k) (entsFrom encP 0 (x :: r)) 0 = none := rfl
      simp only [Instr.findKey, Sem.run_bind, run_underlying Tryz.underlying114, Result.andThen_ok, h]
      exact find_pair k (x :: r) w 0 0
  same := fun k _ => by
    show Instr.sameBits (9999 + 1) _ _ = true
    simp [Instr.sameBits, encP]

section
variable {κ : Type} {P : Program} {kt et t : TypeId} {enc : κ → Value} {ok : κ → Prop} {w : World} {b : Nat} {es : List (κ × Value)}

/-- The place of a key: where it is, or will be. -/
def posK [DecidableEq κ] (es : List (κ × Value)) (k : κ) : Nat := match look es k with | some (j, _) => j | none => es.length
/-- With the key in it. -/
def withK [DecidableEq κ] (es : List (κ × Value)) (k : κ) (z : Value) : List (κ × Value) := match look es k with | some _ => es | none => es ++ [(k, z)]

theorem modify_self {α : Type} {l : List α} {j : Nat} {x : α} {f : α → α} (h : l[j]? = some x) (e : f x = x) : l.modify j f = l := by
  apply List.ext_getElem?
  intro i
  rw [List.getElem?_modify]
  by_cases hi : j = i
  · subst hi; simp [h, e]
  · simp [hi]
theorem run_entry_k [DecidableEq κ] (hK : KeyKind P kt enc ok) (ht : P.underlying t = some (.map kt et)) {z : Value} (hz : (zeroValue et).run P w = .ok z w) (h : MapIs w enc b es) (k : κ) (hk : ok k) (hes : ∀ x ∈ es, ok x.1) :
    (Instr.mapEntry t (.map (some b)) (enc k)).run P w = .ok (.tuple #[lookV es k z, goInt (posK es k)]) (setObj w b (.map (ents enc (withK es k z)) (withK es k z).length)) := by
  have hf := hK.find k es w hk hes
  have hc := fun e => hK.check e k w hk
  unfold MapIs at h
  unfold Instr.mapEntry
  cases hl : look es k with
  | none =>
    rw [hl] at hf
    simp [run_underlying ht, getObj, Sem.run, h, hc, ents, hf, hz, lookV, posK, withK, hl, setObj, Go.setObj, entsFrom_append, entsFrom]
  | some x =>
    obtain ⟨j, u⟩ := x
    rw [hl] at hf
    have hj := look_some hl
    have hg := entsFrom_get enc es 0 j
    rw [hj] at hg
    have he : ((entsFrom enc 0 es).modify j fun e => ({ e with key := enc k } : MapEntry)) = entsFrom enc 0 es := modify_self hg rfl
    simp [run_underlying ht, getObj, Sem.run, h, hc, ents, hf, lookV, posK, withK, hl, setObj, Go.setObj, Instr.keyThatStays, hg, hK.same k hk, he]

theorem born_find {σ : Type} (enc : σ → Value) (es : List (σ × Value)) : ∀ (i j : Nat), j < es.length → (entsFrom enc i es).findIdx? (fun e => ((e.born : Nat) : Int) == ((i + j : Nat) : Int)) = some j := by
  induction es with
  | nil => intro i j h; simp at h
  | cons x r ih =>
    intro i j h
    rw [entsFrom, List.findIdx?_cons]
    cases j with
    | zero => simp
    | succ j =>
      have : (((i : Nat) : Int) == ((i + (j + 1) : Nat) : Int)) = false := by rw [beq_eq_false_iff_ne]; omega
      have h2 := ih (i + 1) j (by simpa using h)
      rw [show i + 1 + j = i + (j + 1) from by omega] at h2
      show (if (((i : Nat) : Int) == ((i + (j + 1) : Nat) : Int)) = true then _ else _) = _
      rw [this, if_neg (by simp), h2]
      rfl
theorem run_store_k (h : MapIs w enc b es) (j : Nat) (hj : j < es.length) (v : Value) :
    (Instr.entryStore t (.map (some b)) (goInt j) v).run P w = .ok () (setObj w b (.map (ents enc (es.modify j fun x => (x.1, v))) es.length)) := by
  unfold MapIs at h
  have hf := born_find enc es 0 j hj
  have hm := entsFrom_modify enc v es 0 j
  simp only [Nat.zero_add] at hf
  simp [Instr.entryStore, getObj, Sem.run, h, asInt, asIntOf, goInt, ents, hf, hm, setObj, Go.setObj]
theorem put_with [DecidableEq κ] (es : List (κ × Value)) (k : κ) (z v : Value) : (withK es k z).modify (posK es k) (fun x => (x.1, v)) = putK es k v ∧ posK es k < (withK es k z).length ∧ (withK es k z).length = (putK es k v).length := by
  unfold withK posK putK
  cases hl : look es k with
  | none =>
    dsimp only
    refine ⟨?_, by simp, by simp⟩
    apply List.ext_getElem?
    intro i
    rw [List.getElem?_modify]
    by_cases hi : es.length = i
    · subst hi; simp
    · simp only [hi, if_false]
      by_cases h' : i < es.length
      · simp [List.getElem?_append_left h']
      · simp [List.getElem?_eq_none (by simp; omega : (es ++ [(k, z)]).length ≤ i), List.getElem?_eq_none (by simp; omega : (es ++ [(k, v)]).length ≤ i)]
  | some x =>
    obtain ⟨j, u⟩ := x
    exact ⟨rfl, (List.getElem?_eq_some_iff.1 (look_some hl)).1, by simp⟩

theorem wpList_entry_k [DecidableEq κ] {ops : Array Oper} {rest : List Oper} {o : Oper} {a : Act} {Q : Exit → Act → World → Prop} (hg : o.guard = none) (m x : Operand) (hop : o.op = Op.mapEntry t m x)
    (hK : KeyKind P kt enc ok) (ht : P.underlying t = some (.map kt et)) {z : Value} (hz : (zeroValue et).run P w = .ok z w) (h : MapIs w enc b es) (k : κ) (hk : ok k) (hes : ∀ x ∈ es, ok x.1)
    (hm : a.eval m = .map (some b)) (hx : a.eval x = enc k)
    (hn : wpList P ops Q rest (a.put o.dst (.tuple #[lookV es k z, goInt (posK es k)])) (setObj w b (.map (ents enc (withK es k z)) (withK es k z).length))) : wpList P ops Q (o :: rest) a w := by
  refine wpList_plain hg fun K' hK' => ?_
  have hrun := run_entry_k hK ht hz h k hk hes
  unfold Oper.wp
  simp only [execOp, hop, hm, hx, Sem.run_bind, hrun, Result.andThen_ok, Sem.run_pure]
  exact hK' _ _ hn
theorem wpList_store_k {ops : Array Oper} {rest : List Oper} {o : Oper} {a : Act} {Q : Exit → Act → World → Prop} (hg : o.guard = none) (m s v : Operand) (hop : o.op = Op.entryStore t m s v)
    (h : MapIs w enc b es) (j : Nat) (hj : j < es.length) (val : Value)
    (hm : a.eval m = .map (some b)) (hs : a.eval s = goInt j) (hv : a.eval v = val)
    (hn : wpList P ops Q rest (a.put o.dst undef) (setObj w b (.map (ents enc (es.modify j fun x => (x.1, val))) es.length))) : wpList P ops Q (o :: rest) a w := by
  refine wpList_plain hg fun K' hK' => ?_
  have hrun := run_store_k (P := P) (t := t) h j hj val
  unfold Oper.wp
  simp only [execOp, hop, hm, hs, hv, Sem.run_bind, hrun, Result.andThen_ok, Sem.run_pure]
  exact hK' _ _ hn

/-- Block r is an iterator over the map; the places that it has handed out. -/
def IterIs (w : World) (r b : Nat) (n : Nat) (seen : List Nat) : Prop := w.heap[r]? = some (.mapIter (some b) n seen.toArray n)

theorem wpList_range_k {σ : Type} {enc : σ → Value} {es : List (σ × Value)} {ops : Array Oper} {rest : List Oper} {o : Oper} {a : Act} {Q : Exit → Act → World → Prop} (hg : o.guard = none) (m : Operand) (hop : o.op = Op.range t m)
    (ht : P.underlying t = some (.map kt et)) (h : MapIs w enc b es) (hm : a.eval m = .map (some b))
    (hn : wpList P ops Q rest (a.put o.dst (.pointer (some ⟨w.heap.size, 0, none⟩))) (w.alloc (.mapIter (some b) es.length #[] es.length))) : wpList P ops Q (o :: rest) a w := by
  refine wpList_plain hg fun K' hK' => ?_
  have hrun := run_range_map (P := P) w t kt et b (ents enc es) es.length ht h
  unfold Oper.wp
  simp only [execOp, hop, hm, Sem.run_bind, hrun, Result.andThen_ok, Sem.run_pure]
  exact hK' _ _ hn

theorem ents_nodup {σ : Type} (enc : σ → Value) (es : List (σ × Value)) : ∀ i, ((entsFrom enc i es).map (·.born)).Nodup ∧ ∀ x ∈ entsFrom enc i es, i ≤ x.born ∧ x.born < i + es.length := by
  induction es with
  | nil => intro i; simp [entsFrom]
  | cons x r ih =>
    intro i
    obtain ⟨h1, h2⟩ := ih (i + 1)
    refine ⟨?_, ?_⟩
    · simp only [entsFrom, List.map_cons, List.nodup_cons]
      refine ⟨fun hm => ?_, h1⟩
      obtain ⟨y, hy, he⟩ := List.mem_map.1 hm
      have := h2 y hy
      omega
    · intro y hy
      simp only [entsFrom, List.mem_cons] at hy
      rcases hy with rfl | hy
      · simp
      · have := h2 y hy; simp; omega
theorem wpList_next_k {ops : Array Oper} {rest : List Oper} {o : Oper} {a : Act} {Q : Exit → Act → World → Prop} (hg : o.guard = none) (it : Operand) (hop : o.op = Op.next it false)
    {r : Nat} {seen : List Nat} (h : MapIs w enc b es) (hi : IterIs w r b es.length seen) (hit : a.eval it = .pointer (some ⟨r, 0, none⟩))
    (hDone : (∀ i, i < es.length → i ∈ seen) → wpList P ops Q rest (a.put o.dst (.tuple #[.bool false])) w)
    (hMore : ∀ (i : Nat) (k : κ) (v : Value) (w1 : World), es[i]? = some (k, v) → i ∉ seen → (w1 = w ∨ w1 = w.drew) → wpList P ops Q rest (a.put o.dst (.tuple #[.bool true, enc k, v])) (setObj w1 r (.mapIter (some b) es.length (seen ++ [i]).toArray es.length))) : wpList P ops Q (o :: rest) a w := by
  refine wpList_plain hg fun K' hK' => ?_
  unfold Oper.wp
  obtain ⟨n1, n2⟩ := ents_nodup enc es 0
  rcases run_next_at (P := P) w o.type r b es.length es.length seen.toArray (ents enc es) es.length hi h (fun x hx => by have := (n2 x (by simpa [ents] using hx)).2; omega) (Nat.le_refl _) with ⟨h0, hrun⟩ | ⟨e, he, w1, hal, hrun⟩
  · simp only [execOp, hop, hit, Sem.run_bind, hrun, Result.andThen_ok, Sem.run_pure]
    refine hK' _ _ (hDone fun i hi => ?_)
    have := all_seen _ _ h0
    have hget := entsFrom_get enc es 0 i
    rw [List.getElem?_eq_getElem hi] at hget
    have := this _ (by simpa [ents] using List.mem_of_getElem? hget)
    simpa using this
  · simp only [execOp, hop, hit, Sem.run_bind, hrun, Result.andThen_ok, Sem.run_pure]
    obtain ⟨hm, hs⟩ := mem_left he
    obtain ⟨i, hi'⟩ := List.getElem?_of_mem (by simpa [ents] using hm : e ∈ entsFrom enc 0 es)
    rw [entsFrom_get] at hi'
    cases hx : es[i]? with
    | none => simp [hx] at hi'
    | some x =>
      rw [hx] at hi'
      simp at hi'
      subst hi'
      have := hMore i x.1 x.2 w1 hx (by simpa using hs) hal
      refine hK' _ _ ?_
      simpa [setObj, Go.ChangeMaps.setBlock] using this
/-- The next entry: none is left, or one that has not been handed out. -/
theorem next_cases (P : Program) (ty : TypeId) {r : Nat} {seen : List Nat} (h : MapIs w enc b es) (hi : IterIs w r b es.length seen) :
    ((∀ i, i < es.length → i ∈ seen) ∧ (Instr.next (.pointer (some ⟨r, 0, none⟩)) false ty).run P w = .ok (.tuple #[.bool false]) w) ∨
    ∃ (i : Nat) (k : κ) (v : Value) (w1 : World), es[i]? = some (k, v) ∧ i ∉ seen ∧ (w1 = w ∨ w1 = w.drew) ∧ (Instr.next (.pointer (some ⟨r, 0, none⟩)) false ty).run P w = .ok (.tuple #[.bool true, enc k, v]) (setObj w1 r (.mapIter (some b) es.length (seen ++ [i]).toArray es.length)) := by
  obtain ⟨n1, n2⟩ := ents_nodup enc es 0
  rcases run_next_at (P := P) w ty r b es.length es.length seen.toArray (ents enc es) es.length hi h (fun x hx => by have := (n2 x (by simpa [ents] using hx)).2; omega) (Nat.le_refl _) with ⟨h0, hrun⟩ | ⟨e, he, w1, hal, hrun⟩
  · refine .inl ⟨fun i hi => ?_, hrun⟩
    have := all_seen _ _ h0
    have hget := entsFrom_get enc es 0 i
    rw [List.getElem?_eq_getElem hi] at hget
    have := this _ (by simpa [ents] using List.mem_of_getElem? hget)
    simpa using this
  · obtain ⟨hm, hs⟩ := mem_left he
    obtain ⟨i, hi'⟩ := List.getElem?_of_mem (by simpa [ents] using hm : e ∈ entsFrom enc 0 es)
    rw [entsFrom_get] at hi'
    cases hx : es[i]? with
    | none => simp [hx] at hi'
    | some x =>
      rw [hx] at hi'
      simp at hi'
      subst hi'
      exact .inr ⟨i, x.1, x.2, w1, hx, by simpa using hs, hal, by simpa [setObj, Go.ChangeMaps.setBlock] using hrun⟩
theorem wpList_next_run {ops : Array Oper} {rest : List Oper} {o : Oper} {a : Act} {w' : World} {Q : Exit → Act → World → Prop} (hg : o.guard = none) (it : Operand) (hop : o.op = Op.next it false) {pv v : Value}
    (hit : a.eval it = pv) (hrun : (Instr.next pv false o.type).run P w = .ok v w') (hn : wpList P ops Q rest (a.put o.dst v) w') : wpList P ops Q (o :: rest) a w := by
  refine wpList_plain hg fun K' hK' => ?_
  unfold Oper.wp
  simp only [execOp, hop, hit, Sem.run_bind, hrun, Result.andThen_ok, Sem.run_pure]
  exact hK' _ _ hn
theorem wpList_iter_k {ops : Array Oper} {rest : List Oper} {o : Oper} {a : Act} {Q : Exit → Act → World → Prop} (hg : o.guard = none) (it : Operand) (hop : o.op = Op.entry it)
    {r i : Nat} {seen : List Nat} {k : κ} {v : Value} (h : MapIs w enc b es) (hi : IterIs w r b es.length (seen ++ [i])) (hit : a.eval it = .pointer (some ⟨r, 0, none⟩)) (hx : es[i]? = some (k, v))
    (hn : wpList P ops Q rest (a.put o.dst (.tuple #[enc k, v])) w) : wpList P ops Q (o :: rest) a w := by
  refine wpList_plain hg fun K' hK' => ?_
  unfold Oper.wp
  obtain ⟨n1, n2⟩ := ents_nodup enc es 0
  have hget := entsFrom_get enc es 0 i
  rw [hx] at hget
  have hrun := run_entry_at (P := P) w r b es.length seen.toArray (ents enc es) es.length ⟨enc k, v, i⟩ (by simpa [IterIs] using hi) h (by simpa [ents] using List.mem_of_getElem? hget) (by simpa [ents] using n1)
  simp only [execOp, hop, hit, Sem.run_bind, hrun, Result.andThen_ok, Sem.run_pure]
  exact hK' _ _ hn
end
end Go.Proofs.YtbdbmpmijmmbeaaGreatDoor
