/- CheckRow, checkRows of the package ask; cmp.Or at error codes. -/
import Derived.Test.YtbdbmpmijmmbeaaGreatDoorWkD
namespace Go.Proofs.YtbdbmpmijmmbeaaGreatDoor
open Go.RowKit

/-- a ≤ b, byte by byte. -/
def leB (a b : ByteArray) : Bool := Op.bytesLess a.toList b.toList || a.toList == b.toList
def chkTags : Option ByteArray → List ByteArray → Int
  | _, [] => 0
  | prev, t :: r => if isNameB t = false then 8 else if prev.any (leB t) then 10 else chkTags (some t) r
def numsB (r : Rw) : Bool := inB r.way 0 10000000000000 && inB r.climb 0 10000000000000 && inB r.seconds 0 10000000000000 && inB r.load 0 10000000000000
def chkRow (r : Rw) : Int :=
  if isNameB r.name = false then 8
  else if inB r.sport 1 5 = false then 7
  else if inB r.start 0 86399999999 = false then 9
  else if numsB r = false then 9
  else if 20 < r.tags.length then 3
  else chkTags none r.tags

/-- Or of two codes. -/
def or2 (a b : Int) : Int := if a ≠ 0 then a else b
theorem or_any (a b : Int) (bl : Nat) (w : World) (h0 : w.cell? ⟨bl, 0, none⟩ = some (.int .i64 a)) (h1 : w.cell? ⟨bl, 1, none⟩ = some (.int .i64 b)) :
    Calls Tryz.prog 48 #[.slice (some ⟨bl, 0, none⟩) 2 2] w fun e w' => e = .returned (.int .i64 (or2 a b)) ∧ w = w' := by
  cases ha : (a != 0)
  · have ha2 := Lib.hid (bne_eq_false_iff_eq.1 ha)
    cases hb : (b != 0)
    · have hb2 := Lib.hid (bne_eq_false_iff_eq.1 hb)
      go_enter Tryz.func48, Tryz.ntmps48
      go_wp2
      refine wp_loop_rounds 3 ?_
      rw [rounds_succ]; go_wp2
      rw [rounds_succ]; go_wp2
      rw [rounds_succ]; go_wp2
      go_ret
      exact ⟨ret_int (by rw [or2, ha2.out, hb2.out]; rfl), rfl⟩
    · have hb2 := Lib.hid (bne_iff_ne.1 hb)
      go_enter Tryz.func48, Tryz.ntmps48
      go_wp2
      refine wp_loop_rounds 3 ?_
      rw [rounds_succ]; go_wp2
      rw [rounds_succ]; go_wp2
      go_ret
      exact ⟨ret_int (by rw [or2, ha2.out]; rfl), rfl⟩
  · have ha2 := Lib.hid (bne_iff_ne.1 ha)
    go_enter Tryz.func48, Tryz.ntmps48
    go_wp2
    refine wp_loop_rounds 3 ?_
    rw [rounds_succ]; go_wp2
    go_ret
    exact ⟨ret_int (by rw [or2, if_pos ha2.out]), rfl⟩
theorem cr_name {r : Rw} {s : Sl} {w : World} (hn : r.name.size ≤ maxLen) (_g1 : isNameB r.name = false) :
    Calls Tryz.prog 73 #[r.val s] w fun e w' => e = .returned (.int .i64 8) ∧ Below w.heap.size w w' := by
  have HN := Lib.hid hn
  clear hn
  go_enter Tryz.func73, Tryz.ntmps73
  go_wp2_with (first | (go_at_call 71; refine (in_any _ _ _ _).mono ?_; rintro e w' ⟨rfl, rfl⟩) | (go_at_call 113; refine (isName_any _ _ HN.out).mono ?_; rintro e w' ⟨rfl, rfl⟩))
  go_ret
  exact ⟨rfl, by repeat (first | exact below_refl _ | apply below_alloc)⟩
theorem cr_sport {r : Rw} {s : Sl} {w : World} (hn : r.name.size ≤ maxLen) (_g1 : isNameB r.name = true) (_g2 : inB r.sport 1 5 = false) :
    Calls Tryz.prog 73 #[r.val s] w fun e w' => e = .returned (.int .i64 7) ∧ Below w.heap.size w w' := by
  have HN := Lib.hid hn
  clear hn
  go_enter Tryz.func73, Tryz.ntmps73
  go_wp2_with (first | (go_at_call 71; refine (in_any _ _ _ _).mono ?_; rintro e w' ⟨rfl, rfl⟩) | (go_at_call 113; refine (isName_any _ _ HN.out).mono ?_; rintro e w' ⟨rfl, rfl⟩))
  go_ret
  exact ⟨rfl, by repeat (first | exact below_refl _ | apply below_alloc)⟩
theorem cr_start {r : Rw} {s : Sl} {w : World} (hn : r.name.size ≤ maxLen) (_g1 : isNameB r.name = true) (_g2 : inB r.sport 1 5 = true) (_g3 : inB r.start 0 86399999999 = false) :
    Calls Tryz.prog 73 #[r.val s] w fun e w' => e = .returned (.int .i64 9) ∧ Below w.heap.size w w' := by
  have HN := Lib.hid hn
  clear hn
  go_enter Tryz.func73, Tryz.ntmps73
  go_wp2_with (first | (go_at_call 71; refine (in_any _ _ _ _).mono ?_; rintro e w' ⟨rfl, rfl⟩) | (go_at_call 113; refine (isName_any _ _ HN.out).mono ?_; rintro e w' ⟨rfl, rfl⟩))
  go_ret
  exact ⟨rfl, by repeat (first | exact below_refl _ | apply below_alloc)⟩
theorem cr_way {r : Rw} {s : Sl} {w : World} (hn : r.name.size ≤ maxLen) (_g1 : isNameB r.name = true) (_g2 : inB r.sport 1 5 = true) (_g3 : inB r.start 0 86399999999 = true) (_g4 : inB r.way 0 10000000000000 = false) :
    Calls Tryz.prog 73 #[r.val s] w fun e w' => e = .returned (.int .i64 9) ∧ Below w.heap.size w w' := by
  have HN := Lib.hid hn
  clear hn
  go_enter Tryz.func73, Tryz.ntmps73
  go_wp2_with (first | (go_at_call 71; refine (in_any _ _ _ _).mono ?_; rintro e w' ⟨rfl, rfl⟩) | (go_at_call 113; refine (isName_any _ _ HN.out).mono ?_; rintro e w' ⟨rfl, rfl⟩))
  refine wp_loop_rounds 1 ?_
  rw [rounds_succ]; go_wp2_with (first | (go_at_call 71; refine (in_any _ _ _ _).mono ?_; rintro e w' ⟨rfl, rfl⟩) | (go_at_call 113; refine (isName_any _ _ HN.out).mono ?_; rintro e w' ⟨rfl, rfl⟩))
  go_ret
  exact ⟨rfl, by repeat (first | exact below_refl _ | apply below_alloc)⟩
theorem cr_climb {r : Rw} {s : Sl} {w : World} (hn : r.name.size ≤ maxLen) (_g1 : isNameB r.name = true) (_g2 : inB r.sport 1 5 = true) (_g3 : inB r.start 0 86399999999 = true) (_g4 : inB r.way 0 10000000000000 = true) (_g5 : inB r.climb 0 10000000000000 = false) :
    Calls Tryz.prog 73 #[r.val s] w fun e w' => e = .returned (.int .i64 9) ∧ Below w.heap.size w w' := by
  have HN := Lib.hid hn
  clear hn
  go_enter Tryz.func73, Tryz.ntmps73
  go_wp2_with (first | (go_at_call 71; refine (in_any _ _ _ _).mono ?_; rintro e w' ⟨rfl, rfl⟩) | (go_at_call 113; refine (isName_any _ _ HN.out).mono ?_; rintro e w' ⟨rfl, rfl⟩))
  refine wp_loop_rounds 2 ?_
  rw [rounds_succ]; go_wp2_with (first | (go_at_call 71; refine (in_any _ _ _ _).mono ?_; rintro e w' ⟨rfl, rfl⟩) | (go_at_call 113; refine (isName_any _ _ HN.out).mono ?_; rintro e w' ⟨rfl, rfl⟩))
  rw [rounds_succ]; go_wp2_with (first | (go_at_call 71; refine (in_any _ _ _ _).mono ?_; rintro e w' ⟨rfl, rfl⟩) | (go_at_call 113; refine (isName_any _ _ HN.out).mono ?_; rintro e w' ⟨rfl, rfl⟩))
  go_ret
  exact ⟨rfl, by repeat (first | exact below_refl _ | apply below_alloc)⟩
theorem cr_seconds {r : Rw} {s : Sl} {w : World} (hn : r.name.size ≤ maxLen) (_g1 : isNameB r.name = true) (_g2 : inB r.sport 1 5 = true) (_g3 : inB r.start 0 86399999999 = true) (_g4 : inB r.way 0 10000000000000 = true) (_g5 : inB r.climb 0 10000000000000 = true) (_g6 : inB r.seconds 0 10000000000000 = false) :
    Calls Tryz.prog 73 #[r.val s] w fun e w' => e = .returned (.int .i64 9) ∧ Below w.heap.size w w' := by
  have HN := Lib.hid hn
  clear hn
  go_enter Tryz.func73, Tryz.ntmps73
  go_wp2_with (first | (go_at_call 71; refine (in_any _ _ _ _).mono ?_; rintro e w' ⟨rfl, rfl⟩) | (go_at_call 113; refine (isName_any _ _ HN.out).mono ?_; rintro e w' ⟨rfl, rfl⟩))
  refine wp_loop_rounds 3 ?_
  rw [rounds_succ]; go_wp2_with (first | (go_at_call 71; refine (in_any _ _ _ _).mono ?_; rintro e w' ⟨rfl, rfl⟩) | (go_at_call 113; refine (isName_any _ _ HN.out).mono ?_; rintro e w' ⟨rfl, rfl⟩))
  rw [rounds_succ]; go_wp2_with (first | (go_at_call 71; refine (in_any _ _ _ _).mono ?_; rintro e w' ⟨rfl, rfl⟩) | (go_at_call 113; refine (isName_any _ _ HN.out).mono ?_; rintro e w' ⟨rfl, rfl⟩))
  rw [rounds_succ]; go_wp2_with (first | (go_at_call 71; refine (in_any _ _ _ _).mono ?_; rintro e w' ⟨rfl, rfl⟩) | (go_at_call 113; refine (isName_any _ _ HN.out).mono ?_; rintro e w' ⟨rfl, rfl⟩))
  go_ret
  exact ⟨rfl, by repeat (first | exact below_refl _ | apply below_alloc)⟩
theorem cr_load {r : Rw} {s : Sl} {w : World} (hn : r.name.size ≤ maxLen) (_g1 : isNameB r.name = true) (_g2 : inB r.sport 1 5 = true) (_g3 : inB r.start 0 86399999999 = true) (_g4 : inB r.way 0 10000000000000 = true) (_g5 : inB r.climb 0 10000000000000 = true) (_g6 : inB r.seconds 0 10000000000000 = true) (_g7 : inB r.load 0 10000000000000 = false) :
    Calls Tryz.prog 73 #[r.val s] w fun e w' => e = .returned (.int .i64 9) ∧ Below w.heap.size w w' := by
  have HN := Lib.hid hn
  clear hn
  go_enter Tryz.func73, Tryz.ntmps73
  go_wp2_with (first | (go_at_call 71; refine (in_any _ _ _ _).mono ?_; rintro e w' ⟨rfl, rfl⟩) | (go_at_call 113; refine (isName_any _ _ HN.out).mono ?_; rintro e w' ⟨rfl, rfl⟩))
  refine wp_loop_rounds 4 ?_
  rw [rounds_succ]; go_wp2_with (first | (go_at_call 71; refine (in_any _ _ _ _).mono ?_; rintro e w' ⟨rfl, rfl⟩) | (go_at_call 113; refine (isName_any _ _ HN.out).mono ?_; rintro e w' ⟨rfl, rfl⟩))
  rw [rounds_succ]; go_wp2_with (first | (go_at_call 71; refine (in_any _ _ _ _).mono ?_; rintro e w' ⟨rfl, rfl⟩) | (go_at_call 113; refine (isName_any _ _ HN.out).mono ?_; rintro e w' ⟨rfl, rfl⟩))
  rw [rounds_succ]; go_wp2_with (first | (go_at_call 71; refine (in_any _ _ _ _).mono ?_; rintro e w' ⟨rfl, rfl⟩) | (go_at_call 113; refine (isName_any _ _ HN.out).mono ?_; rintro e w' ⟨rfl, rfl⟩))
  rw [rounds_succ]; go_wp2_with (first | (go_at_call 71; refine (in_any _ _ _ _).mono ?_; rintro e w' ⟨rfl, rfl⟩) | (go_at_call 113; refine (isName_any _ _ HN.out).mono ?_; rintro e w' ⟨rfl, rfl⟩))
  go_ret
  exact ⟨rfl, by repeat (first | exact below_refl _ | apply below_alloc)⟩
theorem cr_size {r : Rw} {s : Sl} {w : World} (hn : r.name.size ≤ maxLen) (_g1 : isNameB r.name = true) (_g2 : inB r.sport 1 5 = true) (_g3 : inB r.start 0 86399999999 = true) (_g4 : inB r.way 0 10000000000000 = true) (_g5 : inB r.climb 0 10000000000000 = true) (_g6 : inB r.seconds 0 10000000000000 = true) (_g7 : inB r.load 0 10000000000000 = true) (_g8 : 20 < s.n) :
    Calls Tryz.prog 73 #[r.val s] w fun e w' => e = .returned (.int .i64 3) ∧ Below w.heap.size w w' := by
  have HN := Lib.hid hn
  clear hn
  go_enter Tryz.func73, Tryz.ntmps73
  go_wp2_with (first | (go_at_call 71; refine (in_any _ _ _ _).mono ?_; rintro e w' ⟨rfl, rfl⟩) | (go_at_call 113; refine (isName_any _ _ HN.out).mono ?_; rintro e w' ⟨rfl, rfl⟩))
  refine wp_loop_rounds 5 ?_
  rw [rounds_succ]; go_wp2_with (first | (go_at_call 71; refine (in_any _ _ _ _).mono ?_; rintro e w' ⟨rfl, rfl⟩) | (go_at_call 113; refine (isName_any _ _ HN.out).mono ?_; rintro e w' ⟨rfl, rfl⟩))
  rw [rounds_succ]; go_wp2_with (first | (go_at_call 71; refine (in_any _ _ _ _).mono ?_; rintro e w' ⟨rfl, rfl⟩) | (go_at_call 113; refine (isName_any _ _ HN.out).mono ?_; rintro e w' ⟨rfl, rfl⟩))
  rw [rounds_succ]; go_wp2_with (first | (go_at_call 71; refine (in_any _ _ _ _).mono ?_; rintro e w' ⟨rfl, rfl⟩) | (go_at_call 113; refine (isName_any _ _ HN.out).mono ?_; rintro e w' ⟨rfl, rfl⟩))
  rw [rounds_succ]; go_wp2_with (first | (go_at_call 71; refine (in_any _ _ _ _).mono ?_; rintro e w' ⟨rfl, rfl⟩) | (go_at_call 113; refine (isName_any _ _ HN.out).mono ?_; rintro e w' ⟨rfl, rfl⟩))
  rw [rounds_succ]; go_wp2_with (first | (go_at_call 71; refine (in_any _ _ _ _).mono ?_; rintro e w' ⟨rfl, rfl⟩) | (go_at_call 113; refine (isName_any _ _ HN.out).mono ?_; rintro e w' ⟨rfl, rfl⟩))
  go_ret
  exact ⟨rfl, by repeat (first | exact below_refl _ | apply below_alloc)⟩

/-- The tag ahead of place j. -/
def prevAt (l : List ByteArray) (j : Nat) : Option ByteArray := if j = 0 then none else l[j - 1]?
theorem chkTags_step {l : List ByteArray} {j : Nat} {t : ByteArray} (h : l[j]? = some t) :
    chkTags (prevAt l j) (l.drop j) = (if isNameB t = false then 8 else if (prevAt l j).any (leB t) then 10 else chkTags (some t) (l.drop (j + 1))) ∧ prevAt l (j + 1) = some t := by
  have hl : j < l.length := (List.getElem?_eq_some_iff.1 h).1
  have ht : l[j] = t := (List.getElem?_eq_some_iff.1 h).2
  constructor
  · rw [List.drop_eq_getElem_cons hl, ht, chkTags]
  · simp [prevAt, h]

set_option maxHeartbeats 1000000 in
theorem cr_tags {r : Rw} {s : Sl} {w : World} {p : Nat → Prop} (hn : r.name.size ≤ maxLen) (ht : StrsAt p w r.tags s) (hp : ∀ b, p b → b < w.heap.size) (_g1 : isNameB r.name = true) (_g2 : inB r.sport 1 5 = true) (_g3 : inB r.start 0 86399999999 = true) (_g4 : inB r.way 0 10000000000000 = true) (_g5 : inB r.climb 0 10000000000000 = true) (_g6 : inB r.seconds 0 10000000000000 = true) (_g7 : inB r.load 0 10000000000000 = true) (_g8 : s.n ≤ 20) :
    Calls Tryz.prog 73 #[r.val s] w fun e w' => e = .returned (.int .i64 (chkTags none r.tags)) ∧ Below w.heap.size w w' := by
  obtain ⟨name, sport, start, way, climb, seconds, load, tags⟩ := r
  have HN := Lib.hid hn
  clear hn
  cases ht with
  | nil =>
    go_enter Tryz.func73, Tryz.ntmps73
    go_wp2_with (first | (go_at_call 71; refine (in_any _ _ _ _).mono ?_; rintro e w' ⟨rfl, rfl⟩) | (go_at_call 113; refine (isName_any _ _ HN.out).mono ?_; rintro e w' ⟨rfl, rfl⟩))
    refine wp_loop_rounds 5 ?_
    rw [rounds_succ]; go_wp2_with (first | (go_at_call 71; refine (in_any _ _ _ _).mono ?_; rintro e w' ⟨rfl, rfl⟩) | (go_at_call 113; refine (isName_any _ _ HN.out).mono ?_; rintro e w' ⟨rfl, rfl⟩))
    rw [rounds_succ]; go_wp2_with (first | (go_at_call 71; refine (in_any _ _ _ _).mono ?_; rintro e w' ⟨rfl, rfl⟩) | (go_at_call 113; refine (isName_any _ _ HN.out).mono ?_; rintro e w' ⟨rfl, rfl⟩))
    rw [rounds_succ]; go_wp2_with (first | (go_at_call 71; refine (in_any _ _ _ _).mono ?_; rintro e w' ⟨rfl, rfl⟩) | (go_at_call 113; refine (isName_any _ _ HN.out).mono ?_; rintro e w' ⟨rfl, rfl⟩))
    rw [rounds_succ]; go_wp2_with (first | (go_at_call 71; refine (in_any _ _ _ _).mono ?_; rintro e w' ⟨rfl, rfl⟩) | (go_at_call 113; refine (isName_any _ _ HN.out).mono ?_; rintro e w' ⟨rfl, rfl⟩))
    rw [rounds_succ]; go_wp2_with (first | (go_at_call 71; refine (in_any _ _ _ _).mono ?_; rintro e w' ⟨rfl, rfl⟩) | (go_at_call 113; refine (isName_any _ _ HN.out).mono ?_; rintro e w' ⟨rfl, rfl⟩))
    refine wp_loop_rounds 1 ?_
    rw [rounds_succ]; go_wp2_with (first | (go_at_call 71; refine (in_any _ _ _ _).mono ?_; rintro e w' ⟨rfl, rfl⟩) | (go_at_call 113; refine (isName_any _ _ HN.out).mono ?_; rintro e w' ⟨rfl, rfl⟩))
    go_ret
    exact ⟨rfl, by repeat (first | exact below_refl _ | apply below_alloc)⟩
  | row xs b off cap hb hcap hmax hR =>
    dsimp only at hcap _g1 _g2 _g3 _g4 _g5 _g6 _g7 _g8
    have hkl : tags.length ≤ 9223372036854775807 := by unfold maxLen at hmax; omega
    have hbw := hp b hb
    go_enter Tryz.func73, Tryz.ntmps73
    go_wp2_with (first | (go_at_call 71; refine (in_any _ _ _ _).mono ?_; rintro e w' ⟨rfl, rfl⟩) | (go_at_call 113; refine (isName_any _ _ HN.out).mono ?_; rintro e w' ⟨rfl, rfl⟩))
    refine wp_loop_rounds 5 ?_
    rw [rounds_succ]; go_wp2_with (first | (go_at_call 71; refine (in_any _ _ _ _).mono ?_; rintro e w' ⟨rfl, rfl⟩) | (go_at_call 113; refine (isName_any _ _ HN.out).mono ?_; rintro e w' ⟨rfl, rfl⟩))
    rw [rounds_succ]; go_wp2_with (first | (go_at_call 71; refine (in_any _ _ _ _).mono ?_; rintro e w' ⟨rfl, rfl⟩) | (go_at_call 113; refine (isName_any _ _ HN.out).mono ?_; rintro e w' ⟨rfl, rfl⟩))
    rw [rounds_succ]; go_wp2_with (first | (go_at_call 71; refine (in_any _ _ _ _).mono ?_; rintro e w' ⟨rfl, rfl⟩) | (go_at_call 113; refine (isName_any _ _ HN.out).mono ?_; rintro e w' ⟨rfl, rfl⟩))
    rw [rounds_succ]; go_wp2_with (first | (go_at_call 71; refine (in_any _ _ _ _).mono ?_; rintro e w' ⟨rfl, rfl⟩) | (go_at_call 113; refine (isName_any _ _ HN.out).mono ?_; rintro e w' ⟨rfl, rfl⟩))
    rw [rounds_succ]; go_wp2_with (first | (go_at_call 71; refine (in_any _ _ _ _).mono ?_; rintro e w' ⟨rfl, rfl⟩) | (go_at_call 113; refine (isName_any _ _ HN.out).mono ?_; rintro e w' ⟨rfl, rfl⟩))
    go_loopw [5, 6, 47, 52, 56] (fun _ _ i _ _ wr => ∃ j : Nat, j ≤ tags.length ∧ i = .int .i64 j ∧ chkTags none tags = chkTags (prevAt tags j) (tags.drop j) ∧ Below w.heap.size w wr ∧
      wr.cell? ⟨w.heap.size, 7, none⟩ = some (.slice (some ⟨b, off, none⟩) tags.length cap)) (fun _ _ i _ _ _ => tags.length - (intOf i).toNat)
    case atStart => exact ⟨0, by omega, rfl, rfl, by repeat (first | exact below_refl _ | apply below_alloc), by simp [go_sem]⟩
    case round =>
      obtain ⟨j, hj, rfl, hz, hB, hc7⟩ := hrel
      by_cases hlt : j < tags.length
      · obtain ⟨t, hx⟩ : ∃ t, tags[j]? = some t := ⟨_, List.getElem?_eq_getElem hlt⟩
        obtain ⟨c0, hts⟩ := hR j t hx
        replace c0 := (cell_same (hB.block b hbw) _).trans c0
        simp only [Nat.mul_one] at c0
        have HZ := Lib.hid (hz.trans (chkTags_step hx).1)
        have HP := Lib.hid (chkTags_step hx).2
        have HS := Lib.hid hts
        clear hz hts
        cases hnm : isNameB t
        · have HM := Lib.hid hnm
          go_wp2_with (go_at_call 113; refine (isName_any _ _ HS.out).mono ?_; rintro e w' ⟨rfl, rfl⟩)
          go_ret
          exact ⟨ret_int (by rw [HZ.out, if_pos HM.out]), hB⟩
        · have HM := Lib.hid hnm
          cases j with
          | zero =>
            simp only [Nat.add_zero] at c0
            go_wp2_with (go_at_call 113; refine (isName_any _ _ HS.out).mono ?_; rintro e w' ⟨rfl, rfl⟩)
            go_roundw
            case rel => exact ⟨1, by omega, by go_num, by rw [HZ.out, HM.out, HP.out]; simp [prevAt], hB, hc7⟩
            case measure => simp [intOf]; omega
          | succ i =>
            obtain ⟨u, hu⟩ : ∃ u, tags[i]? = some u := ⟨_, List.getElem?_eq_getElem (by omega)⟩
            have c1 := (hR i u hu).1
            replace c1 := (cell_same (hB.block b hbw) _).trans c1
            simp only [Nat.mul_one] at c1
            have hle : leB t u = (Op.bytesLess t.toList u.toList || t.toList == u.toList) := rfl
            have HQ : Hid (prevAt tags (i + 1) = some u) := by show _ = _; simpa [prevAt] using hu
            clear hu hR
            cases hb2 : leB t u
            all_goals
              rw [hb2] at hle
              have HL := Lib.hid hb2
              replace hle := hle.symm
              clear hb2
              go_wp2_with (go_at_call 113; refine (isName_any _ _ HS.out).mono ?_; rintro e w' ⟨rfl, rfl⟩)
            · go_roundw
              case rel => exact ⟨i + 1 + 1, by omega, by go_num, by rw [HZ.out, HM.out, HP.out, HQ.out]; simp [HL.out], hB, hc7⟩
              case measure => simp [intOf]; omega
            · go_ret
              exact ⟨ret_int (by rw [HZ.out, HM.out, HQ.out]; simp [HL.out]), hB⟩
      · obtain rfl : j = tags.length := by omega
        have HZ := Lib.hid hz
        clear hj hz
        go_wp2
        go_ret
        exact ⟨ret_int (by rw [HZ.out, List.drop_length]; rfl), hB⟩

theorem checkRow_any {r : Rw} {s : Sl} {w : World} {p : Nat → Prop} (hn : r.name.size ≤ maxLen) (ht : StrsAt p w r.tags s) (hp : ∀ b, p b → b < w.heap.size) :
    Calls Tryz.prog 73 #[r.val s] w fun e w' => e = .returned (.int .i64 (chkRow r)) ∧ Below w.heap.size w w' := by
  have hl := ht.len
  cases h1 : isNameB r.name
  · exact to_int (cr_name hn h1) (by simp [chkRow, h1])
  cases h2 : inB r.sport 1 5
  · exact to_int (cr_sport hn h1 h2) (by simp [chkRow, h1, h2])
  cases h3 : inB r.start 0 86399999999
  · exact to_int (cr_start hn h1 h2 h3) (by simp [chkRow, h1, h2, h3])
  cases h4 : inB r.way 0 10000000000000
  · exact to_int (cr_way hn h1 h2 h3 h4) (by simp [chkRow, numsB, h1, h2, h3, h4])
  cases h5 : inB r.climb 0 10000000000000
  · exact to_int (cr_climb hn h1 h2 h3 h4 h5) (by simp [chkRow, numsB, h1, h2, h3, h5])
  cases h6 : inB r.seconds 0 10000000000000
  · exact to_int (cr_seconds hn h1 h2 h3 h4 h5 h6) (by simp [chkRow, numsB, h1, h2, h3, h6])
  cases h7 : inB r.load 0 10000000000000
  · exact to_int (cr_load hn h1 h2 h3 h4 h5 h6 h7) (by simp [chkRow, numsB, h1, h2, h3, h7])
  by_cases h8 : 20 < r.tags.length
  · exact to_int (cr_size hn h1 h2 h3 h4 h5 h6 h7 (by omega)) (by simp [chkRow, numsB, h1, h2, h3, h4, h5, h6, h7, h8])
  · exact to_int (cr_tags hn ht hp h1 h2 h3 h4 h5 h6 h7 (by omega)) (by simp [chkRow, numsB, h1, h2, h3, h4, h5, h6, h7, h8])
end Go.Proofs.YtbdbmpmijmmbeaaGreatDoor
