/- The data of the package ask as plain Lean (conditions, rows, tells, groups), and how they lie in memory. -/
import Derived.Test.YtbdbmpmijmmbeaaGreatDoorProg
import Derived.WalkKit
import Derived.WalkSpells
import Derived.WalkLawsBesides
import Derived.Lib.Hide
namespace Go.Proofs.YtbdbmpmijmmbeaaGreatDoor
open Go.RowKit

/-- A condition: kind, field, low, high, text, and those within it. -/
inductive Cd where
  | mk (kind field low high : Int) (text : ByteArray) (kids : List Cd)

namespace Cd
def kind : Cd → Int | mk k _ _ _ _ _ => k
def field : Cd → Int | mk _ f _ _ _ _ => f
def low : Cd → Int | mk _ _ l _ _ _ => l
def high : Cd → Int | mk _ _ _ h _ _ => h
def text : Cd → ByteArray | mk _ _ _ _ t _ => t
def kids : Cd → List Cd | mk _ _ _ _ _ k => k
mutual
def parts : Cd → Nat | mk _ _ _ _ _ ks => 1 + partsL ks
def partsL : List Cd → Nat | [] => 0 | d :: r => parts d + partsL r
end
theorem parts_eq (d : Cd) : d.parts = 1 + partsL d.kids := by cases d; rfl
theorem partsL_mem {ks : List Cd} {i : Nat} {d : Cd} (h : ks[i]? = some d) : parts d ≤ partsL ks := by
  induction ks generalizing i with
  | nil => simp at h
  | cons e r ih =>
    cases i with
    | zero => simp at h; subst h; simp [partsL]
    | succ i => simp only [partsL]; have := ih (i := i) (by simpa using h); omega
theorem partsL_take {ks : List Cd} {i : Nat} {d : Cd} (h : ks[i]? = some d) : partsL (ks.take (i + 1)) = partsL (ks.take i) + parts d := by
  induction ks generalizing i with
  | nil => simp at h
  | cons e r ih =>
    cases i with
    | zero => simp at h; subst h; simp [partsL]
    | succ i => simp only [List.take_succ_cons, partsL]; rw [ih (i := i) (by simpa using h)]; omega
theorem partsL_take_le (ks : List Cd) (i : Nat) : partsL (ks.take i) ≤ partsL ks := by
  induction ks generalizing i with
  | nil => simp
  | cons e r ih =>
    cases i with
    | zero => simp [partsL]
    | succ i => simp only [List.take_succ_cons, partsL]; have := ih i; omega
theorem partsL_length (ks : List Cd) : ks.length ≤ partsL ks := by
  induction ks with
  | nil => simp
  | cons e r ih => simp only [List.length_cons, partsL]; have := parts_eq e; omega
theorem parts_kid {c d : Cd} {i : Nat} (h : c.kids[i]? = some d) : d.parts < c.parts := by
  have := partsL_mem h; rw [parts_eq c]; omega
end Cd

/-- A slice's three numbers. -/
structure Sl where
  a : Option Addr
  n : Nat
  c : Nat
abbrev Sl.v (s : Sl) : Value := .slice s.a s.n s.c

/-- A condition as a value; `s` is the slice of those within it. -/
abbrev Cd.val (d : Cd) (s : Sl) : Value := .agg #[.int .i64 d.kind, .int .i64 d.field, .int .i64 d.low, .int .i64 d.high, .string d.text, .slice s.a s.n s.c]

/-- The slice `s` holds the elements `xs` of k cells each, in a block that `p` allows. -/
inductive ArrAt {α : Type} (p : Nat → Prop) (k : Nat) (R : Nat → Nat → α → Prop) : List α → Sl → Prop
  | nil {a : Option Addr} : ArrAt p k R [] ⟨a, 0, 0⟩
  | row (xs : List α) (b off cap : Nat) (hp : p b) (hn : xs.length ≤ cap) (hc : cap ≤ maxLen) (hR : ∀ i x, xs[i]? = some x → R b (off + i * k) x) :
      ArrAt p k R xs ⟨some ⟨b, off, none⟩, xs.length, cap⟩

theorem ArrAt.len {α : Type} {p : Nat → Prop} {k : Nat} {R : Nat → Nat → α → Prop} {xs : List α} {s : Sl} (h : ArrAt p k R xs s) : s.n = xs.length := by cases h <;> rfl

theorem ArrAt.imp {α : Type} {p q : Nat → Prop} {k : Nat} {R S : Nat → Nat → α → Prop} {xs : List α} {s : Sl} (h : ArrAt p k R xs s) (hpq : ∀ b, p b → q b) (hRS : ∀ b, p b → ∀ o x, x ∈ xs → R b o x → S b o x) : ArrAt q k S xs s := by
  cases h with
  | nil => exact .nil
  | row xs b off cap hp hn hc hR => exact .row xs b off cap (hpq b hp) hn hc fun i x hx => hRS b hp _ x (List.mem_of_getElem? hx) (hR i x hx)

theorem cell_same {w w' : World} {b : Nat} (h : w'.heap[b]? = w.heap[b]?) (o : Nat) : w'.cell? ⟨b, o, none⟩ = w.cell? ⟨b, o, none⟩ := by simp [World.cell?, h]

/-- The six cells of a condition. -/
structure SixAt (w : World) (b off : Nat) (d : Cd) (s : Sl) : Prop where
  c0 : w.cell? ⟨b, off, none⟩ = some (.int .i64 d.kind)
  c1 : w.cell? ⟨b, off + 1, none⟩ = some (.int .i64 d.field)
  c2 : w.cell? ⟨b, off + 2, none⟩ = some (.int .i64 d.low)
  c3 : w.cell? ⟨b, off + 3, none⟩ = some (.int .i64 d.high)
  c4 : w.cell? ⟨b, off + 4, none⟩ = some (.string d.text)
  c5 : w.cell? ⟨b, off + 5, none⟩ = some (.slice s.a s.n s.c)

theorem SixAt.move {w w' : World} {b off : Nat} {d : Cd} {s : Sl} (h : SixAt w b off d s) (e : w'.heap[b]? = w.heap[b]?) : SixAt w' b off d s :=
  ⟨(cell_same e _).trans h.c0, (cell_same e _).trans h.c1, (cell_same e _).trans h.c2, (cell_same e _).trans h.c3, (cell_same e _).trans h.c4, (cell_same e _).trans h.c5⟩

/-- The slice holds the conditions within d. -/
inductive CondAt (p : Nat → Prop) (w : World) : Cd → Sl → Prop
  | nil {a : Option Addr} (k f l h : Int) (t : ByteArray) (ht : t.size ≤ maxLen) : CondAt p w (.mk k f l h t []) ⟨a, 0, 0⟩
  | row (k f l h : Int) (t : ByteArray) (ks : List Cd) (b off cap : Nat) (kv : Nat → Sl) (ht : t.size ≤ maxLen) (hp : p b) (hn : ks.length ≤ cap) (hc : cap ≤ maxLen)
      (h6 : ∀ i d, ks[i]? = some d → SixAt w b (off + i * 6) d (kv i)) (hk : ∀ i d, ks[i]? = some d → CondAt p w d (kv i)) :
      CondAt p w (.mk k f l h t ks) ⟨some ⟨b, off, none⟩, ks.length, cap⟩

theorem CondAt.move {p : Nat → Prop} {w w' : World} (hw : ∀ b, p b → w'.heap[b]? = w.heap[b]?) {d : Cd} {s : Sl} (h : CondAt p w d s) : CondAt p w' d s := by
  induction h with
  | nil k f l h t ht => exact .nil k f l h t ht
  | row k f l h t ks b off cap kv ht hp hn hc h6 hk ih => exact .row k f l h t ks b off cap kv ht hp hn hc (fun i d hd => (h6 i d hd).move (hw b hp)) ih

theorem CondAt.imp {p q : Nat → Prop} (hpq : ∀ b, p b → q b) {w : World} {d : Cd} {s : Sl} (h : CondAt p w d s) : CondAt q w d s := by
  induction h with
  | nil k f l h t ht => exact .nil k f l h t ht
  | row k f l h t ks b off cap kv ht hp hn hc h6 hk ih => exact .row k f l h t ks b off cap kv ht (hpq b hp) hn hc h6 ih

theorem CondAt.keep {B : Nat} {w w' : World} (hw : Below B w w') {d : Cd} {s : Sl} (h : CondAt (· < B) w d s) : CondAt (· < B) w' d s := h.move fun b hb => hw.block b hb

/-- Seen from a caller: the kids' cells, and each kid. -/
theorem CondAt.textLe {p : Nat → Prop} {w : World} {d : Cd} {s : Sl} (h : CondAt p w d s) : d.text.size ≤ maxLen := by cases h <;> assumption
theorem CondAt.len {p : Nat → Prop} {w : World} {d : Cd} {s : Sl} (h : CondAt p w d s) : s.n = d.kids.length := by cases h <;> rfl

/-- A row of the log. -/
structure Rw where
  name : ByteArray
  sport : Int
  start : Int
  way : Int
  climb : Int
  seconds : Int
  load : Int
  tags : List ByteArray

abbrev Rw.val (r : Rw) (s : Sl) : Value := .agg #[.string r.name, .int .i64 r.sport, .int .i64 r.start, .int .i64 r.way, .int .i64 r.climb, .int .i64 r.seconds, .int .i64 r.load, .slice s.a s.n s.c]

structure EightAt (w : World) (b off : Nat) (r : Rw) (s : Sl) : Prop where
  c0 : w.cell? ⟨b, off, none⟩ = some (.string r.name)
  c1 : w.cell? ⟨b, off + 1, none⟩ = some (.int .i64 r.sport)
  c2 : w.cell? ⟨b, off + 2, none⟩ = some (.int .i64 r.start)
  c3 : w.cell? ⟨b, off + 3, none⟩ = some (.int .i64 r.way)
  c4 : w.cell? ⟨b, off + 4, none⟩ = some (.int .i64 r.climb)
  c5 : w.cell? ⟨b, off + 5, none⟩ = some (.int .i64 r.seconds)
  c6 : w.cell? ⟨b, off + 6, none⟩ = some (.int .i64 r.load)
  c7 : w.cell? ⟨b, off + 7, none⟩ = some (.slice s.a s.n s.c)

theorem EightAt.move {w w' : World} {b off : Nat} {r : Rw} {s : Sl} (h : EightAt w b off r s) (e : w'.heap[b]? = w.heap[b]?) : EightAt w' b off r s :=
  ⟨(cell_same e _).trans h.c0, (cell_same e _).trans h.c1, (cell_same e _).trans h.c2, (cell_same e _).trans h.c3, (cell_same e _).trans h.c4, (cell_same e _).trans h.c5, (cell_same e _).trans h.c6, (cell_same e _).trans h.c7⟩

/-- Strings one by one. -/
abbrev StrsAt (p : Nat → Prop) (w : World) : List ByteArray → Sl → Prop := ArrAt p 1 fun b o t => w.cell? ⟨b, o, none⟩ = some (.string t) ∧ t.size ≤ maxLen
abbrev IntsAt (p : Nat → Prop) (w : World) : List Int → Sl → Prop := ArrAt p 1 fun b o n => w.cell? ⟨b, o, none⟩ = some (.int .i64 n)
/-- Two numbers an element: tells (kind, field) and ratios (num, den). -/
abbrev TwosAt (p : Nat → Prop) (w : World) : List (Int × Int) → Sl → Prop :=
  ArrAt p 2 fun b o t => w.cell? ⟨b, o, none⟩ = some (.int .i64 t.1) ∧ w.cell? ⟨b, o + 1, none⟩ = some (.int .i64 t.2)
abbrev RowsAt (p : Nat → Prop) (w : World) : List Rw → Sl → Prop := ArrAt p 8 fun b o r => ∃ s, EightAt w b o r s ∧ r.name.size ≤ maxLen ∧ StrsAt p w r.tags s

/-- A group of an answer. -/
structure Gp where
  number : Int
  text : ByteArray
  told : List (Int × Int)
abbrev Gp.val (g : Gp) (s : Sl) : Value := .agg #[.int .i64 g.number, .string g.text, .slice s.a s.n s.c]
structure ThreeAt (w : World) (b off : Nat) (g : Gp) (s : Sl) : Prop where
  c0 : w.cell? ⟨b, off, none⟩ = some (.int .i64 g.number)
  c1 : w.cell? ⟨b, off + 1, none⟩ = some (.string g.text)
  c2 : w.cell? ⟨b, off + 2, none⟩ = some (.slice s.a s.n s.c)
theorem ThreeAt.move {w w' : World} {b off : Nat} {r : Gp} {s : Sl} (h : ThreeAt w b off r s) (e : w'.heap[b]? = w.heap[b]?) : ThreeAt w' b off r s :=
  ⟨(cell_same e _).trans h.c0, (cell_same e _).trans h.c1, (cell_same e _).trans h.c2⟩
abbrev GroupsAt (p : Nat → Prop) (w : World) : List Gp → Sl → Prop := ArrAt p 3 fun b o g => ∃ s, ThreeAt w b o g s ∧ TwosAt p w g.told s

section
variable {p q : Nat → Prop} {w w' : World} {s : Sl}
theorem StrsAt.move (hw : ∀ b, p b → w'.heap[b]? = w.heap[b]?) {l : List ByteArray} (h : StrsAt p w l s) : StrsAt p w' l s :=
  ArrAt.imp h (fun _ h => h) fun b hb o _ _ h => ⟨(cell_same (hw b hb) o).trans h.1, h.2⟩
theorem StrsAt.imp (hpq : ∀ b, p b → q b) {l : List ByteArray} (h : StrsAt p w l s) : StrsAt q w l s := ArrAt.imp h hpq fun _ _ _ _ _ h => h
theorem IntsAt.move (hw : ∀ b, p b → w'.heap[b]? = w.heap[b]?) {l : List Int} (h : IntsAt p w l s) : IntsAt p w' l s :=
  ArrAt.imp h (fun _ h => h) fun b hb o _ _ h => (cell_same (hw b hb) o).trans h
theorem TwosAt.move (hw : ∀ b, p b → w'.heap[b]? = w.heap[b]?) {l : List (Int × Int)} (h : TwosAt p w l s) : TwosAt p w' l s :=
  ArrAt.imp h (fun _ h => h) fun b hb o _ _ h => ⟨(cell_same (hw b hb) o).trans h.1, (cell_same (hw b hb) _).trans h.2⟩
theorem TwosAt.imp (hpq : ∀ b, p b → q b) {l : List (Int × Int)} (h : TwosAt p w l s) : TwosAt q w l s := ArrAt.imp h hpq fun _ _ _ _ _ h => h
theorem RowsAt.move (hw : ∀ b, p b → w'.heap[b]? = w.heap[b]?) {l : List Rw} (h : RowsAt p w l s) : RowsAt p w' l s :=
  ArrAt.imp h (fun _ h => h) fun b hb _ _ _ ⟨s, h1, h2, h3⟩ => ⟨s, h1.move (hw b hb), h2, h3.move hw⟩
theorem RowsAt.imp (hpq : ∀ b, p b → q b) {l : List Rw} (h : RowsAt p w l s) : RowsAt q w l s := ArrAt.imp h hpq fun _ _ _ _ _ ⟨s, h1, h2, h3⟩ => ⟨s, h1, h2, h3.imp hpq⟩
theorem GroupsAt.move (hw : ∀ b, p b → w'.heap[b]? = w.heap[b]?) {l : List Gp} (h : GroupsAt p w l s) : GroupsAt p w' l s :=
  ArrAt.imp h (fun _ h => h) fun b hb _ _ _ ⟨s, h1, h2⟩ => ⟨s, h1.move (hw b hb), h2.move hw⟩
theorem GroupsAt.imp (hpq : ∀ b, p b → q b) {l : List Gp} (h : GroupsAt p w l s) : GroupsAt q w l s := ArrAt.imp h hpq fun _ _ _ _ _ ⟨s, h1, h2⟩ => ⟨s, h1, h2.imp hpq⟩
end

/-- An ending in a whole number. -/
theorem ret_int {k : IntKind} {a b : Int} (h : a = b) : Ending.returned (.int k a) = .returned (.int k b) := by rw [h]
theorem ret_bool {a b : Bool} (h : a = b) : Ending.returned (.bool a) = .returned (.bool b) := by rw [h]

theorem below_alloc {w a : World} (h : Below w.heap.size w a) (o : Obj) : Below w.heap.size w (a.alloc o) := h.alloc h.size o
theorem below_trans {w a b : World} (h : Below w.heap.size w a) (k : Below a.heap.size a b) : Below w.heap.size w b := h.trans (k.mono h.size)
theorem below_refl (w : World) : Below w.heap.size w w := Below.refl _ _
theorem below_keep {w a : World} {p : Nat → Prop} (h : Below w.heap.size w a) (hp : ∀ b, p b → b < w.heap.size) : ∀ b, p b → a.heap[b]? = w.heap[b]? := fun b hb => h.block b (hp b hb)
theorem below_size {w a : World} {p : Nat → Prop} (h : Below w.heap.size w a) (hp : ∀ b, p b → b < w.heap.size) : ∀ b, p b → b < a.heap.size := fun b hb => Nat.lt_of_lt_of_le (hp b hb) h.size
theorem alloc_size {w : World} {p : Nat → Prop} (o : Obj) (hp : ∀ b, p b → b < w.heap.size) : ∀ b, p b → b < (w.alloc o).heap.size := below_size (below_alloc (below_refl w) o) hp
theorem CondAt.to {p : Nat → Prop} {w a : World} {d : Cd} {s : Sl} (h : CondAt p w d s) (hp : ∀ b, p b → b < w.heap.size) (hB : Below w.heap.size w a) : CondAt p a d s := h.move (below_keep hB hp)
theorem CondAt.toAlloc {p : Nat → Prop} {w : World} {d : Cd} {s : Sl} (h : CondAt p w d s) (hp : ∀ b, p b → b < w.heap.size) (o : Obj) : CondAt p (w.alloc o) d s := h.to hp (below_alloc (below_refl w) o)
theorem RowsAt.to {p : Nat → Prop} {w a : World} {d : List Rw} {s : Sl} (h : RowsAt p w d s) (hp : ∀ b, p b → b < w.heap.size) (hB : Below w.heap.size w a) : RowsAt p a d s := h.move (below_keep hB hp)
theorem StrsAt.to {p : Nat → Prop} {w a : World} {d : List ByteArray} {s : Sl} (h : StrsAt p w d s) (hp : ∀ b, p b → b < w.heap.size) (hB : Below w.heap.size w a) : StrsAt p a d s := h.move (below_keep hB hp)
theorem TwosAt.to {p : Nat → Prop} {w a : World} {d : List (Int × Int)} {s : Sl} (h : TwosAt p w d s) (hp : ∀ b, p b → b < w.heap.size) (hB : Below w.heap.size w a) : TwosAt p a d s := h.move (below_keep hB hp)
theorem IntsAt.to {p : Nat → Prop} {w a : World} {d : List Int} {s : Sl} (h : IntsAt p w d s) (hp : ∀ b, p b → b < w.heap.size) (hB : Below w.heap.size w a) : IntsAt p a d s := h.move (below_keep hB hp)
theorem GroupsAt.to {p : Nat → Prop} {w a : World} {d : List Gp} {s : Sl} (h : GroupsAt p w d s) (hp : ∀ b, p b → b < w.heap.size) (hB : Below w.heap.size w a) : GroupsAt p a d s := h.move (below_keep hB hp)
end Go.Proofs.YtbdbmpmijmmbeaaGreatDoor
