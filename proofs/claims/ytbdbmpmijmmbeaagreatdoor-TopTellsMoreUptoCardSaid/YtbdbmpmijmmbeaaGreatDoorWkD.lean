/- CheckCond, CheckQuery of the package ask. -/
import Derived.Test.YtbdbmpmijmmbeaaGreatDoorWkC
import Derived.Test.YtbdbmpmijmmbeaaGreatDoorMem
namespace Go.Proofs.YtbdbmpmijmmbeaaGreatDoor
open Go.RowKit

def chkCond (d : Cd) : Int := if 100 < d.parts then 3 else chkPart 0 d

theorem checkCond_any {d : Cd} {s : Sl} {w : World} {p : Nat → Prop} (h : CondAt p w d s) (hp : ∀ b, p b → b < w.heap.size) (hn : d.parts ≤ 2000000) :
    Calls Tryz.prog 45 #[d.val s] w fun e w' => e = .returned (.int .i64 (chkCond d)) ∧ Below w.heap.size w w' := by
  have H1 := Lib.hid (fun W (hB : Below w.heap.size w W) => parts_any (h.to hp hB) (below_size hB hp) hn)
  have H2 := Lib.hid (fun W (hB : Below w.heap.size w W) => checkPart_n d.parts d s W p 0 (Nat.le_refl _) hn (h.to hp hB) (below_size hB hp))
  clear h hp
  by_cases hlt : 100 < d.parts
  all_goals
    have HT := Lib.hid hlt
    go_enter Tryz.func45, Tryz.ntmps45
    go_wp2_with fail
    refine (H1.out _ (below_alloc (below_refl w) _)).mono ?_
    rintro e w1 ⟨rfl, hb1⟩
    have c0 := new_cell hb1 0 rfl
    have c1 := new_cell hb1 1 rfl
    have c2 := new_cell hb1 2 rfl
    have c3 := new_cell hb1 3 rfl
    have c4 := new_cell hb1 4 rfl
    have c5 := new_cell hb1 5 rfl
    go_wp2_with fail
  · go_ret
    exact ⟨ret_int (by rw [chkCond, if_pos HT.out]), below_trans (below_alloc (below_refl w) _) hb1⟩
  · refine (H2.out _ (below_trans (below_alloc (below_refl w) _) hb1)).mono ?_
    rintro e w2 ⟨rfl, hb2⟩
    go_wp2_with fail
    go_ret
    exact ⟨ret_int (by rw [chkCond, if_neg HT.out]), below_trans (below_trans (below_alloc (below_refl w) _) hb1) hb2⟩

/-- A query. -/
structure Qy where
  whr : Cd
  group : Int
  tells : List (Int × Int)
abbrev Qy.val (q : Qy) (s u : Sl) : Value := .agg #[.int .i64 q.whr.kind, .int .i64 q.whr.field, .int .i64 q.whr.low, .int .i64 q.whr.high, .string q.whr.text, .slice s.a s.n s.c, .int .i64 q.group, .slice u.a u.n u.c]

def tellB (t : Int × Int) : Bool := inB t.1 1 5 && ((t.1 == 1) == (t.2 == 0)) && (t.1 == 1 || inB t.2 1 7)
def chkQuery (q : Qy) : Int :=
  if chkCond q.whr ≠ 0 then chkCond q.whr
  else if inB q.group 0 4 = false then 7
  else if q.tells.length = 0 then 13
  else if 10 < q.tells.length then 3
  else if q.tells.all tellB then 0 else 7

theorem take_all {α : Type} {f : α → Bool} {l : List α} {j : Nat} {x : α} (h : l[j]? = some x) (ha : (l.take j).all f = true) (hx : f x = true) : (l.take (j + 1)).all f = true := by
  rw [List.take_add_one, h, List.all_append, ha]; simpa using hx
theorem not_all {α : Type} {f : α → Bool} {l : List α} {j : Nat} {x : α} (h : l[j]? = some x) (hx : f x = false) : l.all f = false := by
  rw [List.all_eq_false]; exact ⟨x, List.mem_of_getElem? h, by simp [hx]⟩

set_option maxHeartbeats 1000000 in
theorem checkQuery_any {q : Qy} {s u : Sl} {w : World} {p : Nat → Prop} (h : CondAt p w q.whr s) (ht : TwosAt p w q.tells u) (hp : ∀ b, p b → b < w.heap.size) (hn : q.whr.parts ≤ 2000000) :
    Calls Tryz.prog 49 #[q.val s u] w fun e w' => e = .returned (.int .i64 (chkQuery q)) ∧ Below w.heap.size w w' := by
  obtain ⟨d, g, tl⟩ := q
  dsimp only at h ht hn
  have H1 := Lib.hid (fun W (hB : Below w.heap.size w W) => checkCond_any (h.to hp hB) (below_size hB hp) hn)
  have HT := Lib.hid ht
  have hul := ht.len
  clear h ht
  cases hc : (chkCond d != 0)
  rotate_left
  · have HC := Lib.hid (bne_iff_ne.1 hc)
    go_enter Tryz.func49, Tryz.ntmps49
    go_wp2_with fail
    refine (H1.out _ (below_alloc (below_refl w) _)).mono ?_
    rintro e w1 ⟨rfl, hb1⟩
    go_wp2_with fail
    go_ret
    exact ⟨ret_int (by rw [chkQuery, if_pos HC.out]), below_trans (below_alloc (below_refl w) _) hb1⟩
  have HC := Lib.hid (bne_eq_false_iff_eq.1 hc)
  cases hg : inB g 0 4
  · have HG := Lib.hid hg
    go_enter Tryz.func49, Tryz.ntmps49
    go_wp2_with fail
    refine (H1.out _ (below_alloc (below_refl w) _)).mono ?_
    rintro e w1 ⟨rfl, hb1⟩
    have c6 := new_cell hb1 6 rfl
    have c7 := new_cell hb1 7 rfl
    go_wp2_with (go_at_call 71; refine (in_any _ _ _ _).mono ?_; rintro e w' ⟨rfl, rfl⟩)
    go_ret
    exact ⟨ret_int (by rw [chkQuery, if_neg (by rw [HC.out]; omega), if_pos HG.out]), below_trans (below_alloc (below_refl w) _) hb1⟩
  have HG := Lib.hid hg
  by_cases h0 : tl.length = 0
  · have hu0 : u.n = 0 := by omega
    have H0 := Lib.hid h0
    clear h0 hul
    go_enter Tryz.func49, Tryz.ntmps49
    go_wp2_with fail
    refine (H1.out _ (below_alloc (below_refl w) _)).mono ?_
    rintro e w1 ⟨rfl, hb1⟩
    have c6 := new_cell hb1 6 rfl
    have c7 := new_cell hb1 7 rfl
    go_wp2_with (go_at_call 71; refine (in_any _ _ _ _).mono ?_; rintro e w' ⟨rfl, rfl⟩)
    go_ret
    exact ⟨ret_int (by rw [chkQuery, if_neg (by rw [HC.out]; omega), if_neg (by rw [HG.out]; simp), if_pos H0.out]), below_trans (below_alloc (below_refl w) _) hb1⟩
  by_cases h10 : 10 < tl.length
  · have hu0 : ((u.n : Int) == 0) = false := by rw [beq_eq_false_iff_ne]; omega
    have hu1 : 10 < u.n := by omega
    have H0 := Lib.hid h0
    have H10 := Lib.hid h10
    clear h0 hul h10
    go_enter Tryz.func49, Tryz.ntmps49
    go_wp2_with fail
    refine (H1.out _ (below_alloc (below_refl w) _)).mono ?_
    rintro e w1 ⟨rfl, hb1⟩
    have c6 := new_cell hb1 6 rfl
    have c7 := new_cell hb1 7 rfl
    go_wp2_with (go_at_call 71; refine (in_any _ _ _ _).mono ?_; rintro e w' ⟨rfl, rfl⟩)
    go_ret
    exact ⟨ret_int (by rw [chkQuery, if_neg (by rw [HC.out]; omega), if_neg (by rw [HG.out]; simp), if_neg H0.out, if_pos H10.out]), below_trans (below_alloc (below_refl w) _) hb1⟩
  have HQ : Hid (chkQuery ⟨d, g, tl⟩ = if tl.all tellB then 0 else 7) := by
    show _ = _
    rw [chkQuery, if_neg (by rw [HC.out]; omega), if_neg (by rw [HG.out]; simp), if_neg h0, if_neg h10]
  cases hta : HT.out with
  | nil => simp at h0
  | row xs b off cap hb hcap hmax hR =>
    have hkl : tl.length ≤ 9223372036854775807 := by unfold maxLen at hmax; omega
    have hn0 : ((tl.length : Int) == 0) = false := by rw [beq_eq_false_iff_ne]; omega
    have hbw := hp b hb
    clear hul h0 HG
    go_enter Tryz.func49, Tryz.ntmps49
    go_wp2_with fail
    refine (H1.out _ (below_alloc (below_refl w) _)).mono ?_
    rintro e w1 ⟨rfl, hb1⟩
    have c6 := new_cell hb1 6 rfl
    have c7 := new_cell hb1 7 rfl
    go_wp2_with (go_at_call 71; refine (in_any _ _ _ _).mono ?_; rintro e w' ⟨rfl, rfl⟩)
    go_loopw [30] (fun i wr => ∃ j : Nat, j ≤ tl.length ∧ i = .int .i64 j ∧ (tl.take j).all tellB = true ∧ Below w.heap.size w wr) (fun i _ => tl.length - (intOf i).toNat)
    case atStart => exact ⟨0, by omega, rfl, rfl, below_trans (below_alloc (below_refl w) _) hb1⟩
    case round =>
      obtain ⟨j, hj, rfl, hz, hB⟩ := hrel
      by_cases hlt : j < tl.length
      · obtain ⟨x, hx⟩ : ∃ x, tl[j]? = some x := ⟨_, List.getElem?_eq_getElem hlt⟩
        obtain ⟨c0, c1⟩ := hR j x hx
        have HA := Lib.hid (fun h => take_all hx hz h)
        have HN := Lib.hid (fun h => not_all (f := tellB) hx h)
        obtain ⟨a, c⟩ := x
        have HX := Lib.hid (show tellB (a, c) = (inB a 1 5 && ((a == 1) == (c == 0)) && (a == 1 || inB c 1 7)) from rfl)
        replace c0 := (cell_same (hB.block b hbw) _).trans c0
        replace c1 := (cell_same (hB.block b hbw) _).trans c1
        dsimp only at c0 c1
        clear hx hz hR hta
        by_cases h2 : a = 1
        · subst h2
          have e1 : inB 1 1 5 = true := by decide
          by_cases h3 : c = 0
          · subst h3
            have HV : Hid (tellB (1, 0) = true) := by show _ = _; decide
            go_wp2_with (first | (go_at_call 71; refine (in_any _ _ _ _).mono ?_; rintro e w' ⟨rfl, rfl⟩) | (go_at_call 72; refine (isField_any _ _).mono ?_; rintro e w' ⟨rfl, rfl⟩))
            go_roundw
            case rel => exact ⟨j + 1, by omega, by go_num, HA.out HV.out, below_alloc hB _⟩
            case measure => simp [intOf]; omega
          · have h3b : (c == 0) = false := by simpa using h3
            have HV : Hid (tellB (1, c) = false) := by show _ = _; rw [HX.out, h3b]; rfl
            go_wp2_with (first | (go_at_call 71; refine (in_any _ _ _ _).mono ?_; rintro e w' ⟨rfl, rfl⟩) | (go_at_call 72; refine (isField_any _ _).mono ?_; rintro e w' ⟨rfl, rfl⟩))
            go_ret
            exact ⟨ret_int (by rw [HQ.out, HN.out HV.out]; rfl), below_alloc hB _⟩
        · have h2b : (a == 1) = false := by simpa using h2
          have h2c : (a != 1) = true := by simpa using h2
          cases h1 : inB a 1 5
          · have HV : Hid (tellB (a, c) = false) := by show _ = _; rw [HX.out, h1]; rfl
            go_wp2_with (first | (go_at_call 71; refine (in_any _ _ _ _).mono ?_; rintro e w' ⟨rfl, rfl⟩) | (go_at_call 72; refine (isField_any _ _).mono ?_; rintro e w' ⟨rfl, rfl⟩))
            go_ret
            exact ⟨ret_int (by rw [HQ.out, HN.out HV.out]; rfl), below_alloc hB _⟩
          · by_cases h3 : c = 0
            · subst h3
              have HV : Hid (tellB (a, 0) = false) := by show _ = _; rw [HX.out, h1, h2b]; rfl
              go_wp2_with (first | (go_at_call 71; refine (in_any _ _ _ _).mono ?_; rintro e w' ⟨rfl, rfl⟩) | (go_at_call 72; refine (isField_any _ _).mono ?_; rintro e w' ⟨rfl, rfl⟩))
              go_ret
              exact ⟨ret_int (by rw [HQ.out, HN.out HV.out]; rfl), below_alloc hB _⟩
            · have h3b : (c == 0) = false := by simpa using h3
              cases h4 : inB c 1 7
              · have HV : Hid (tellB (a, c) = false) := by show _ = _; rw [HX.out, h1, h2b, h3b, h4]; rfl
                go_wp2_with (first | (go_at_call 71; refine (in_any _ _ _ _).mono ?_; rintro e w' ⟨rfl, rfl⟩) | (go_at_call 72; refine (isField_any _ _).mono ?_; rintro e w' ⟨rfl, rfl⟩))
                go_ret
                exact ⟨ret_int (by rw [HQ.out, HN.out HV.out]; rfl), below_alloc hB _⟩
              · have HV : Hid (tellB (a, c) = true) := by show _ = _; rw [HX.out, h1, h2b, h3b, h4]; rfl
                go_wp2_with (first | (go_at_call 71; refine (in_any _ _ _ _).mono ?_; rintro e w' ⟨rfl, rfl⟩) | (go_at_call 72; refine (isField_any _ _).mono ?_; rintro e w' ⟨rfl, rfl⟩))
                go_roundw
                case rel => exact ⟨j + 1, by omega, by go_num, HA.out HV.out, below_alloc hB _⟩
                case measure => simp [intOf]; omega
      · obtain rfl : j = tl.length := by omega
        have HZ := Lib.hid hz
        clear hj hz
        go_wp2
        go_ret
        exact ⟨ret_int (by have := HZ.out; rw [List.take_length] at this; rw [HQ.out, this]; rfl), hB⟩
end Go.Proofs.YtbdbmpmijmmbeaaGreatDoor
