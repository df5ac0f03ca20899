/- The end of a law's proof: the reading, the witness, what a row asks; of any law. -/
import Derived.Test.YtbdbmpmijmmbeaaGreatDoorRdg
import Derived.Test.YtbdbmpmijmmbeaaGreatDoorWkD
import Derived.Test.YtbdbmpmijmmbeaaGreatDoorCards
import Derived.Test.YtbdbmpmijmmbeaaGreatDoorTie
import Derived.WalkKit
import Derived.ProofKit
import Derived.OpenShut
import Derived.Deep.DeepHandedRow
import Derived.Lib.LaidTab
import Derived.Carry
import Derived.Shelf.Vars
namespace Go.Proofs.YtbdbmpmijmmbeaaGreatDoor
open Go.ChangeShapes Go.WideShapes Go.ChangeAt Go.RowKit

theorem own_knob : ownKnob Tryz.prog.godebug = none := by kernel_rfl
theorem gMax : Tryz.prog.globalNamed "internal/bytealg.MaxLen" = some 0 := by kernel_rfl

section
variable {H : Type} {enc : TypeId × Value → H} {P : Program}
/-- What a row asks behind the call, where all that was stays. -/
theorem post_of_below {f : Func} {s : ChangeSpec} {apart fresh handsOn again : Bool} {W W' : World} {args : Array Value} {v : Value} {ds gs : List (DataW H)} {before pa pv : List MemPlace}
    (hW : DataW.Whole enc P f.params.toList s.vars apart W args.toList ds gs before)
    (hres : ∀ (b : Nat) (sp : Nat → Bool) (hd : Bool), DataW.TrodAll enc P W' b sp hd f.resultTypes.toList (v.resultList f.resultTypes.size) (s.fn H (ds ++ gs)).results [])
    (hargs : ∀ sp : Nat → Bool, (∀ p ∈ before, sp p.block = true) → DataW.TrodAll enc P W' 0 sp true f.params.toList args.toList (s.fn H (ds ++ gs)).args pa)
    (hvars : ∀ sp : Nat → Bool, (∀ p ∈ before, sp p.block = true) → DataW.TrodVars enc P W' sp s.vars (s.fn H (ds ++ gs)).vars pv)
    (hps : before = pa ++ pv) (hb : Below W.heap.size W W')
    (hok : ∀ (j : Nat) (t : TypeId) (r : Value), f.resultTypes[j]? = some t → (v.resultList f.resultTypes.size)[j]? = some r → Value.okWide P W' .any 0 t r) :
    s.post enc P f apart fresh handsOn again W args v W' := by
  have hlt : ∀ p ∈ before, p.block < W.heap.size := fun p hp => hW.lt p hp
  have hold : ∀ p ∈ before, (fun b => decide (b < W.heap.size)) p.block = true := fun p hp => by simpa using hlt p hp
  refine ⟨ds, gs, before, [], pa, pv, hW, hres _ _ _, hargs _ hold, hvars _ hold, World.keptBut_mono (fun p hp => ⟨hp, ?_⟩) (hb.frame (· ∈ before)), fun _ => ?_⟩
  · rw [hps, List.mem_append] at hp
    exact Or.inr hp
  · obtain ⟨_, _, _, _, _, hz, hn⟩ := hW
    refine ⟨hok, _, _, ([] ++ pa) ++ pv, ⟨[] ++ pa, pv, trodAll_append (hargs _ (fun _ _ => rfl)) (hres _ _ _), hvars _ (fun _ _ => rfl), rfl, ?_, ?_⟩, ?_⟩
    · intro b off hp
      have hin : MemPlace.cell b off ∈ before := by rw [hps]; simpa using hp
      rw [hb.frozen (hlt _ hin)]
      exact hz b off hin
    · intro ha
      have := hn ha
      rw [hps] at this
      simpa using this
    · intro p hp _
      rw [hps]
      simpa using hp
end

/-- A reading of all arguments, carried over. -/
theorem trodAll_carry {H : Type} {enc : TypeId × Value → H} (hl : laidOutB Tryz.prog = true) {W W' : World} (hb : Below W.heap.size W W') (sp : Nat → Bool) :
    ∀ (ts : List TypeId) (vs : List Value) (ds : List (DataW H)) (ps : List MemPlace), (∀ t ∈ ts, Tryz.prog.readableRec t = true ∧ t < Tryz.prog.types.size) → (∀ x ∈ ps, x.block < W.heap.size) → (∀ x ∈ ps, sp x.block = true) →
      DataW.TrodAll enc Tryz.prog W 0 (fun _ => true) true ts vs ds ps → DataW.TrodAll enc Tryz.prog W' 0 sp true ts vs ds ps
  | [], [], [], _, _, _, _, h => h
  | t :: ts, v :: vs, d :: ds, ps, ht, hlt, hsp, h => by
    obtain ⟨p, q, h1, h2, rfl⟩ := h
    refine ⟨p, q, ?_, trodAll_carry hl hb sp ts vs ds q (fun t' h' => ht t' (List.mem_cons_of_mem _ h')) (fun x hx => hlt x (by simp [hx])) (fun x hx => hsp x (by simp [hx])) h2, rfl⟩
    exact WideElems.Trod_stays hl (ht t (by simp)).1 (ht t (by simp)).2 h1 (fun x hx => hb.same (hlt x (by simp [hx]))) (fun x hx => hsp x (by simp [hx]))
  | [], [], _ :: _, _, _, _, _, h => h.elim
  | [], _ :: _, _, _, _, _, _, h => h.elim
  | _ :: _, [], _, _, _, _, _, h => h.elim
  | _ :: _, _ :: _, [], _, _, _, _, h => h.elim

theorem laid_out : laidOutB Tryz.prog = true := by kernel_rfl
theorem max_some {W : World} (h : W.ShapedOpen Tryz.prog) : ∃ m, W.cell? ⟨0, 0, none⟩ = some (.int .i64 m) :=
  cell_of_shapedOpen_int (P := Tryz.prog) (g := 0) (t := 3) (zero := #[.int .i64 0]) h (of_decide_eq_true (by kernel_rfl)) (by kernel_rfl) rfl (by kernel_rfl) (by kernel_rfl) Tryz.underlying3
set_option maxRecDepth 100000 in
theorem query_of_trod {H : Type} {enc : TypeId × Value → H} {w : World} {fuel : Nat} {cs : List Value} {x : DataW H × List MemPlace} (h : Rds enc w fuel 27 cs x) :
    ∃ (q : Qy) (s u : Sl), cs = [.int .i64 q.whr.kind, .int .i64 q.whr.field, .int .i64 q.whr.low, .int .i64 q.whr.high, .string q.whr.text, .slice s.a s.n s.c, .int .i64 q.group, .slice u.a u.n u.c] ∧
      CondAt (· < w.heap.size) w q.whr s ∧ TwosAt (· < w.heap.size) w q.tells u ∧ q.whr.parts ≤ Rows.uptoBulk x.1 := by
  obtain ⟨ys, n, rfl, rfl, hl, hlen, hf⟩ := DataW.trod_struct Tryz.underlying27 h
  rw [cells27] at hl
  have f0 : DataW.trod enc Tryz.prog w 0 (fun _ => true) true n 24 ((cs.drop 0).take (Tryz.prog.cellsOf 24)) = ys[0]? := hf 0 _ rfl
  have f1 : DataW.trod enc Tryz.prog w 0 (fun _ => true) true n 3 ((cs.drop 6).take (Tryz.prog.cellsOf 3)) = ys[1]? := hf 1 _ rfl
  have f2 : DataW.trod enc Tryz.prog w 0 (fun _ => true) true n 25 ((cs.drop 7).take (Tryz.prog.cellsOf 25)) = ys[2]? := hf 2 _ rfl
  have hlen : ys.length = 3 := hlen
  rw [List.getElem?_eq_getElem (by omega)] at f0 f1 f2
  rw [cells24] at f0
  rw [cells3] at f1
  rw [cells25] at f2
  obtain ⟨c, s, e0, hc, hb⟩ := cond_of_trod n n _ _ (Nat.le_refl _) f0
  obtain ⟨g, e1⟩ := int_of f1
  obtain ⟨l, u, e2, ht⟩ := twos_of_trod f2
  refine ⟨⟨c, g, l⟩, s, u, ?_, hc, ht, ?_⟩
  · match cs, hl with
    | [_, _, _, _, _, _, _, _], _ => simp at e0 e1 e2; simp [e0, e1, e2]
  · have := bulk_mem (l := ys.map (·.1)) (List.mem_map_of_mem (f := (·.1)) (List.getElem_mem (by omega : 0 < ys.length)))
    simp only [Rows.uptoBulk]
    show c.parts ≤ _
    omega

set_option maxRecDepth 100000 in
theorem agg_of_ok {w : World} {base t : Nat} {v : Value} {fs : Array Field} (ht : Tryz.prog.underlying t = some (.struct fs)) (h : Value.okWide Tryz.prog w .any base t v) : ∃ cs, v = .agg cs := by
  unfold Value.okWide at h
  rw [ht] at h
  obtain ⟨cs, h, _⟩ := h
  exact ⟨cs, h⟩
set_option maxRecDepth 100000 in
theorem slice_of_ok {w : World} {base t e : Nat} {v : Value} (ht : Tryz.prog.underlying t = some (.slice e)) (h : Value.okWide Tryz.prog w .any base t v) : v.cells = #[v] := by
  unfold Value.okWide at h
  rw [ht] at h
  simp only [Cell.okWide, ht] at h
  cases v <;> simp_all [Cell.ok, Value.cells]

set_option maxRecDepth 100000 in
theorem query_open {H : Type} {enc : TypeId × Value → H} {W : World} {base : Nat} {v : Value} {d : DataW H} {ps : List MemPlace} (hv : Value.okWide Tryz.prog W .any base 27 v) (h : DataW.Trod enc Tryz.prog W 0 (fun _ => true) true 27 v d ps) :
    ∃ (q : Qy) (s u : Sl), v = q.val s u ∧ CondAt (· < W.heap.size) W q.whr s ∧ TwosAt (· < W.heap.size) W q.tells u ∧ q.whr.parts ≤ Rows.uptoBulk d := by
  obtain ⟨fuel, h⟩ := h
  obtain ⟨cs, rfl⟩ := agg_of_ok Tryz.underlying27 hv
  obtain ⟨q, s, u, e, h1, h2, h3⟩ := query_of_trod h
  refine ⟨q, s, u, ?_, h1, h2, h3⟩
  have e : cs.toList = _ := e
  have : cs = #[.int .i64 q.whr.kind, .int .i64 q.whr.field, .int .i64 q.whr.low, .int .i64 q.whr.high, .string q.whr.text, .slice s.a s.n s.c, .int .i64 q.group, .slice u.a u.n u.c] := by
    apply Array.ext'
    exact e
  rw [this]
set_option maxRecDepth 100000 in
theorem rows_open {H : Type} {enc : TypeId × Value → H} {W : World} {base : Nat} {v : Value} {d : DataW H} {ps : List MemPlace} (hv : Value.okWide Tryz.prog W .any base 28 v) (h : DataW.Trod enc Tryz.prog W 0 (fun _ => true) true 28 v d ps) :
    ∃ (l : List Rw) (t : Sl), v = .slice t.a t.n t.c ∧ RowsAt (· < W.heap.size) W l t := by
  obtain ⟨fuel, h⟩ := h
  rw [slice_of_ok Tryz.underlying28 hv] at h
  obtain ⟨l, t, e, h1⟩ := rows_of_trod h
  refine ⟨l, t, by simpa using e, h1⟩

set_option maxRecDepth 100000 in
/-- The whole law behind its walk: three parameters, the third an int. -/
theorem contract3 {f : Nat} {fn : Func} {sp : ChangeSpec} (hpar : fn.params = #[27, 28, 3]) (hrt : fn.resultTypes = #[4]) (hvars : sp.vars = []) (hsp : ∀ H (a b c : DataW H), sp.fn H [a, b, c] = { results := [.lit (.bool true)], args := [a, b, c] })
    (walk : ∀ (q : Qy) (rows : List Rw) (pick : Int) (s u t : Sl) (W : World) (m : Int), CondAt (· < W.heap.size) W q.whr s → TwosAt (· < W.heap.size) W q.tells u → RowsAt (· < W.heap.size) W rows t → W.cell? ⟨0, 0, none⟩ = some (.int .i64 m) → q.whr.parts ≤ 1048576 →
      Calls Tryz.prog f #[q.val s u, .slice t.a t.n t.c, .int .i64 pick] W fun e W' => e = .returned (.bool true) ∧ Below W.heap.size W W')
    (H : Type) (enc : TypeId × Value → H) (W : World) (base : Nat) (args : Array Value) (ds gs : List (DataW H)) (before : List MemPlace)
    (hval : ∀ (j : Nat) t v, fn.params[j]? = some t → args[j]? = some v → Value.okWide Tryz.prog W .any base t v)
    (hW : DataW.Whole enc Tryz.prog fn.params.toList sp.vars false W args.toList ds gs before) (hk : Rows.uptoSmall H (ds ++ gs) = true) (hsh : W.ShapedOpen Tryz.prog) :
    Calls Tryz.prog f args W fun e W' => ∃ v, e = .returned v ∧ sp.post enc Tryz.prog fn false true false false W args v W' := by
  have hW' := hW
  obtain ⟨p, q, hA0, hV, rfl, hfz, hnd⟩ := hW
  rw [hvars] at hV
  obtain ⟨rfl, rfl⟩ := trodVars_none hV
  have hA : DataW.TrodAll enc Tryz.prog W 0 (fun _ => true) true fn.params.toList args.toList ds p := hA0
  rw [hpar] at hA hval
  obtain ⟨v0, vs0, d0, ds0, p0, q0, hargs, rfl, rfl, h0, r0⟩ := trodAll_cons hA
  obtain ⟨v1, vs1, d1, ds1, p1, q1, rfl, rfl, rfl, h1, r1⟩ := trodAll_cons r0
  obtain ⟨v2, vs2, d2, ds2, p2, q2, rfl, rfl, rfl, h2, r2⟩ := trodAll_cons r1
  obtain ⟨rfl, rfl, rfl⟩ := trodAll_nil r2
  obtain rfl : args = #[v0, v1, v2] := by cases args; simp_all
  obtain ⟨qy, s, u, rfl, hc, ht, hb⟩ := query_open (hval 0 27 v0 rfl rfl) h0
  obtain ⟨rows, t, rfl, hr⟩ := rows_open (hval 1 28 v1 rfl rfl) h1
  obtain ⟨pick, rfl, rfl, rfl, hpk⟩ := open_int Tryz.underlying3 (hval 2 3 v2 rfl rfl) h2
  obtain ⟨m, hm⟩ := max_some hsh
  have hbulk : Rows.uptoBulk d0 ≤ 1048576 := by
    have : Rows.uptoBulkAll ([d0, d1, .lit (.int .i64 pick)] ++ []) ≤ 1048576 := of_decide_eq_true hk
    simp only [List.append_nil, Rows.uptoBulkAll] at this
    omega
  refine (walk qy rows pick s u t W m hc ht hr hm (by omega)).mono fun e W' ⟨he, hB⟩ => ?_
  subst he
  refine ⟨_, rfl, ?_⟩
  have hlt : ∀ x ∈ p0 ++ (p1 ++ ([] ++ [])), x.block < W.heap.size := fun x hx => hW'.lt x (by simpa using hx)
  refine post_of_below (pa := p0 ++ (p1 ++ ([] ++ []))) (pv := []) hW' (fun b sp' hd => ?_) (fun sp' hsp' => ?_) (fun sp' hsp' => ?_) (by simp) hB ?_
  · rw [List.append_nil, hsp, hrt]
    exact trodAll_cons_mk (shut_bool Tryz.underlying4 _) trodAll_mk0
  · rw [List.append_nil, hsp, hpar]
    refine trodAll_carry laid_out hB sp' _ _ _ _ (fun t ht => ?_) hlt (fun x hx => hsp' x (by simpa using hx)) hA
    simp at ht
    rcases ht with rfl | rfl | rfl
    · exact ⟨by kernel_rfl, of_decide_eq_true (by kernel_rfl)⟩
    · exact ⟨by kernel_rfl, of_decide_eq_true (by kernel_rfl)⟩
    · exact ⟨by kernel_rfl, of_decide_eq_true (by kernel_rfl)⟩
  · rw [List.append_nil, hsp, hvars]; exact rfl
  · exact ok_one hrt rfl (okWide_bool_mk Tryz.underlying4 _)

/-- The blocks of the tables, as the program's text lays them. -/
def tabsAt (k : Nat) : List Int :=
  if k = 1 then [1, 10, 100, 1000, 10000, 100000, 1000000, 10000000, 100000000, 1000000000, 10000000000, 100000000000, 1000000000000, 10000000000000, 100000000000000, 1000000000000000, 10000000000000000, 100000000000000000, 1000000000000000000, 10000000000000000000]
  else if k = 2 then [0, 1, 28, 2, 29, 14, 24, 3, 30, 22, 20, 15, 25, 17, 4, 8, 31, 27, 13, 23, 21, 19, 16, 7, 26, 12, 18, 6, 11, 5, 10, 9]
  else [0, 1, 56, 2, 57, 49, 28, 3, 61, 58, 42, 50, 38, 29, 17, 4, 62, 47, 59, 36, 45, 43, 51, 22, 53, 39, 33, 30, 24, 18, 12, 5, 63, 55, 48, 27, 60, 41, 37, 16, 46, 35, 44, 21, 52, 32, 23, 11, 54, 26, 40, 15, 34, 20, 31, 10, 25, 14, 19, 9, 13, 8, 7, 6]
def tabObj (k : Nat) (kd : IntKind) : Obj → Obj
  | .cells _ t frozen => .cells ((tabsAt k).map (Value.int kd)).toArray t frozen
  | o => o
noncomputable def laidWorld (os : Os) : World :=
  { World.holding Tryz.prog os ⟨#[], #[], []⟩ with heap := (((World.holding Tryz.prog os ⟨#[], #[], []⟩).heap.modify 1 (tabObj 1 .u64)).modify 2 (tabObj 2 .u8)).modify 3 (tabObj 3 .u8) }
def wArgs : Array Value := #[.agg #[.int .i64 0, .int .i64 0, .int .i64 0, .int .i64 0, .string ⟨#[]⟩, .slice none 0 0, .int .i64 0, .slice none 0 0], .slice none 0 0, .int .i64 0]

def wData {H : Type} : List (DataW H) := [.agg [.agg [.lit (.int .i64 0), .lit (.int .i64 0), .lit (.int .i64 0), .lit (.int .i64 0), .lit (.string []), .nil], .lit (.int .i64 0), .nil], .nil, .lit (.int .i64 0)]
theorem and_mk {a b : Bool} (h : a = true) (k : b = true) : (a && b) = true := by rw [h, k]; rfl
theorem maps_rowed : mapsRowed Tryz.prog = true := by kernel_rfl
end Go.Proofs.YtbdbmpmijmmbeaaGreatDoor
