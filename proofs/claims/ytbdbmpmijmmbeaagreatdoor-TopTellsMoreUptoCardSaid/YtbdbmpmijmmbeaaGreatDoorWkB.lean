/- The function checkPart of the package ask: its ways, one theorem each. Printed by gen_checkpart.py. -/
import Derived.Test.YtbdbmpmijmmbeaaGreatDoorWkA
import Derived.Deep.QuietTactic
import Derived.BigQuiet
namespace Go.Proofs.YtbdbmpmijmmbeaaGreatDoor
open Go.RowKit

/-- What is wrong with a part by itself. -/
def emptyB (t : ByteArray) : Bool := t.data.toList.isEmpty
def chkTop (lv : Nat) (k f l h : Int) (t : ByteArray) (n : Nat) : Int :=
  if !inB k 1 7 then 7
  else if k == 7 && !inB f 1 7 then 7
  else if k == 4 && !inB l 1 5 then 7
  else if k == 7 && (!inB l (-1000000000000000) 1000000000000000 || !inB h (-1000000000000000) 1000000000000000 || decide (h < l)) then 9
  else if k == 5 && !isNameB t then 8
  else if k == 6 && !isShownB t then 2
  else if !(k == 7) && (f != 0 || h != 0) then 2
  else if !(k == 7) && !(k == 4) && l != 0 then 2
  else if !(k == 5) && !(k == 6) && !emptyB t then 2
  else if !inB k 1 3 && decide (0 < n) then 2
  else if k == 3 && n != 1 then 2
  else if 20 < lv then 3
  else 0
mutual
def chkPart : Nat → Cd → Int
  | lv, .mk k f l h t ks => if chkTop lv k f l h t ks.length ≠ 0 then chkTop lv k f l h t ks.length else chkList (lv + 1) ks
def chkList : Nat → List Cd → Int
  | _, [] => 0
  | lv, d :: r => if chkPart lv d ≠ 0 then chkPart lv d else chkList lv r
end
theorem chkList_zero_take {lv : Nat} {ks : List Cd} {j : Nat} {d : Cd} (hd : ks[j]? = some d) (h : chkList lv (ks.take j) = 0) :
    (chkPart lv d ≠ 0 → chkList lv ks = chkPart lv d) ∧ (chkPart lv d = 0 → chkList lv (ks.take (j + 1)) = 0) := by
  induction ks generalizing j with
  | nil => simp at hd
  | cons e r ih =>
    cases j with
    | zero =>
      simp at hd; subst hd
      simp only [List.take_succ_cons, List.take_zero, chkList]
      exact ⟨fun h => by rw [if_pos h], fun h => by rw [if_neg (by omega)]⟩
    | succ j =>
      simp only [List.take_succ_cons, chkList] at h ⊢
      by_cases he : chkPart lv e = 0
      · rw [if_neg (by omega)] at h
        have := ih (by simpa using hd) h
        rw [if_neg (by omega), if_neg (by omega)]
        exact this
      · rw [if_pos he] at h; exact absurd h he

/-- What a contract of a kid says. -/
def KidsOk (w0 : World) (ks : List Cd) (kv : Nat → Sl) (lv : Nat) : Prop :=
  ∀ i d, ks[i]? = some d → ∀ W, Below w0.heap.size w0 W → Calls Tryz.prog 63 #[d.val (kv i), .int .i64 (lv + 1)] W fun e w' => e = .returned (.int .i64 (chkPart (lv + 1) d)) ∧ Below W.heap.size W w'


set_option maxRecDepth 100000 in
theorem cp_1_f (f l h : Int) (t : ByteArray) (a : Option Addr) (n : Nat) (c lv : Nat) (w : World) (ht : t.size ≤ maxLen) (_g0 : ¬ f = 0) (_g1 : (f != 0) = true) :
    Calls Tryz.prog 63 #[.agg #[.int .i64 1, .int .i64 f, .int .i64 l, .int .i64 h, .string t, .slice a n c], .int .i64 lv] w fun e w' => e = .returned (.int .i64 2) ∧ Below w.heap.size w w' := by
  have b1 : inB 1 1 7 = true := rfl
  have b3 : inB 1 1 3 = true := rfl
  have HT := Lib.hid ht
  clear ht
  go_enter Tryz.func63, Tryz.ntmps63
  go_wp2_with (first | (go_at_call 71; refine (in_any _ _ _ _).mono ?_; rintro e w' ⟨rfl, rfl⟩) | (go_at_call 72; refine (isField_any _ _).mono ?_; rintro e w' ⟨rfl, rfl⟩) | (go_at_call 113; refine (isName_any _ _ HT.out).mono ?_; rintro e w' ⟨rfl, rfl⟩) | (go_at_call 114; refine (isShown_any _ _ HT.out).mono ?_; rintro e w' ⟨rfl, rfl⟩))
  go_quiet (fail)
  go_wp2_with fail
  go_quiet (fail)
  go_wp2_with (first | (go_at_call 71; refine (in_any _ _ _ _).mono ?_; rintro e w' ⟨rfl, rfl⟩) | (go_at_call 72; refine (isField_any _ _).mono ?_; rintro e w' ⟨rfl, rfl⟩) | (go_at_call 113; refine (isName_any _ _ HT.out).mono ?_; rintro e w' ⟨rfl, rfl⟩) | (go_at_call 114; refine (isShown_any _ _ HT.out).mono ?_; rintro e w' ⟨rfl, rfl⟩))
  go_ret
  exact ⟨rfl, below_drewN (below_alloc (below_refl w) _) _⟩

set_option maxRecDepth 100000 in
theorem cp_1_h (l h : Int) (t : ByteArray) (a : Option Addr) (n : Nat) (c lv : Nat) (w : World) (ht : t.size ≤ maxLen) (_g0 : ¬ h = 0) (_g1 : (h != 0) = true) :
    Calls Tryz.prog 63 #[.agg #[.int .i64 1, .int .i64 0, .int .i64 l, .int .i64 h, .string t, .slice a n c], .int .i64 lv] w fun e w' => e = .returned (.int .i64 2) ∧ Below w.heap.size w w' := by
  have b1 : inB 1 1 7 = true := rfl
  have b3 : inB 1 1 3 = true := rfl
  have HT := Lib.hid ht
  clear ht
  go_enter Tryz.func63, Tryz.ntmps63
  go_wp2_with (first | (go_at_call 71; refine (in_any _ _ _ _).mono ?_; rintro e w' ⟨rfl, rfl⟩) | (go_at_call 72; refine (isField_any _ _).mono ?_; rintro e w' ⟨rfl, rfl⟩) | (go_at_call 113; refine (isName_any _ _ HT.out).mono ?_; rintro e w' ⟨rfl, rfl⟩) | (go_at_call 114; refine (isShown_any _ _ HT.out).mono ?_; rintro e w' ⟨rfl, rfl⟩))
  go_quiet (fail)
  go_wp2_with fail
  go_quiet (fail)
  go_wp2_with (first | (go_at_call 71; refine (in_any _ _ _ _).mono ?_; rintro e w' ⟨rfl, rfl⟩) | (go_at_call 72; refine (isField_any _ _).mono ?_; rintro e w' ⟨rfl, rfl⟩) | (go_at_call 113; refine (isName_any _ _ HT.out).mono ?_; rintro e w' ⟨rfl, rfl⟩) | (go_at_call 114; refine (isShown_any _ _ HT.out).mono ?_; rintro e w' ⟨rfl, rfl⟩))
  go_ret
  exact ⟨rfl, below_drewN (below_alloc (below_refl w) _) _⟩

set_option maxRecDepth 100000 in
theorem cp_1_l (l : Int) (t : ByteArray) (a : Option Addr) (n : Nat) (c lv : Nat) (w : World) (ht : t.size ≤ maxLen) (_g0 : ¬ l = 0) (_g1 : (l != 0) = true) :
    Calls Tryz.prog 63 #[.agg #[.int .i64 1, .int .i64 0, .int .i64 l, .int .i64 0, .string t, .slice a n c], .int .i64 lv] w fun e w' => e = .returned (.int .i64 2) ∧ Below w.heap.size w w' := by
  have b1 : inB 1 1 7 = true := rfl
  have b3 : inB 1 1 3 = true := rfl
  have HT := Lib.hid ht
  clear ht
  go_enter Tryz.func63, Tryz.ntmps63
  go_wp2_with (first | (go_at_call 71; refine (in_any _ _ _ _).mono ?_; rintro e w' ⟨rfl, rfl⟩) | (go_at_call 72; refine (isField_any _ _).mono ?_; rintro e w' ⟨rfl, rfl⟩) | (go_at_call 113; refine (isName_any _ _ HT.out).mono ?_; rintro e w' ⟨rfl, rfl⟩) | (go_at_call 114; refine (isShown_any _ _ HT.out).mono ?_; rintro e w' ⟨rfl, rfl⟩))
  go_quiet (fail)
  go_wp2_with fail
  go_quiet (fail)
  go_wp2_with (first | (go_at_call 71; refine (in_any _ _ _ _).mono ?_; rintro e w' ⟨rfl, rfl⟩) | (go_at_call 72; refine (isField_any _ _).mono ?_; rintro e w' ⟨rfl, rfl⟩) | (go_at_call 113; refine (isName_any _ _ HT.out).mono ?_; rintro e w' ⟨rfl, rfl⟩) | (go_at_call 114; refine (isShown_any _ _ HT.out).mono ?_; rintro e w' ⟨rfl, rfl⟩))
  go_ret
  exact ⟨rfl, below_drewN (below_alloc (below_refl w) _) _⟩

set_option maxRecDepth 100000 in
theorem cp_1_t (t : ByteArray) (a : Option Addr) (n : Nat) (c lv : Nat) (w : World) (ht : t.size ≤ maxLen) (_g0 : t.toList.isEmpty = false) :
    Calls Tryz.prog 63 #[.agg #[.int .i64 1, .int .i64 0, .int .i64 0, .int .i64 0, .string t, .slice a n c], .int .i64 lv] w fun e w' => e = .returned (.int .i64 2) ∧ Below w.heap.size w w' := by
  have b1 : inB 1 1 7 = true := rfl
  have b3 : inB 1 1 3 = true := rfl
  have HT := Lib.hid ht
  clear ht
  go_enter Tryz.func63, Tryz.ntmps63
  go_wp2_with (first | (go_at_call 71; refine (in_any _ _ _ _).mono ?_; rintro e w' ⟨rfl, rfl⟩) | (go_at_call 72; refine (isField_any _ _).mono ?_; rintro e w' ⟨rfl, rfl⟩) | (go_at_call 113; refine (isName_any _ _ HT.out).mono ?_; rintro e w' ⟨rfl, rfl⟩) | (go_at_call 114; refine (isShown_any _ _ HT.out).mono ?_; rintro e w' ⟨rfl, rfl⟩))
  go_quiet (fail)
  go_wp2_with fail
  go_quiet (fail)
  go_wp2_with (first | (go_at_call 71; refine (in_any _ _ _ _).mono ?_; rintro e w' ⟨rfl, rfl⟩) | (go_at_call 72; refine (isField_any _ _).mono ?_; rintro e w' ⟨rfl, rfl⟩) | (go_at_call 113; refine (isName_any _ _ HT.out).mono ?_; rintro e w' ⟨rfl, rfl⟩) | (go_at_call 114; refine (isShown_any _ _ HT.out).mono ?_; rintro e w' ⟨rfl, rfl⟩))
  go_ret
  exact ⟨rfl, below_drewN (below_alloc (below_refl w) _) _⟩

set_option maxRecDepth 100000 in
theorem cp_1_lv (t : ByteArray) (a : Option Addr) (n : Nat) (c lv : Nat) (w : World) (ht : t.size ≤ maxLen) (_g0 : t.toList.isEmpty = true) (_g1 : 20 < lv) :
    Calls Tryz.prog 63 #[.agg #[.int .i64 1, .int .i64 0, .int .i64 0, .int .i64 0, .string t, .slice a n c], .int .i64 lv] w fun e w' => e = .returned (.int .i64 3) ∧ Below w.heap.size w w' := by
  have b1 : inB 1 1 7 = true := rfl
  have b3 : inB 1 1 3 = true := rfl
  have HT := Lib.hid ht
  clear ht
  go_enter Tryz.func63, Tryz.ntmps63
  go_wp2_with (first | (go_at_call 71; refine (in_any _ _ _ _).mono ?_; rintro e w' ⟨rfl, rfl⟩) | (go_at_call 72; refine (isField_any _ _).mono ?_; rintro e w' ⟨rfl, rfl⟩) | (go_at_call 113; refine (isName_any _ _ HT.out).mono ?_; rintro e w' ⟨rfl, rfl⟩) | (go_at_call 114; refine (isShown_any _ _ HT.out).mono ?_; rintro e w' ⟨rfl, rfl⟩))
  go_quiet (fail)
  go_wp2_with fail
  go_quiet (fail)
  go_wp2_with (first | (go_at_call 71; refine (in_any _ _ _ _).mono ?_; rintro e w' ⟨rfl, rfl⟩) | (go_at_call 72; refine (isField_any _ _).mono ?_; rintro e w' ⟨rfl, rfl⟩) | (go_at_call 113; refine (isName_any _ _ HT.out).mono ?_; rintro e w' ⟨rfl, rfl⟩) | (go_at_call 114; refine (isShown_any _ _ HT.out).mono ?_; rintro e w' ⟨rfl, rfl⟩))
  go_ret
  exact ⟨rfl, below_drewN (below_alloc (below_refl w) _) _⟩

set_option maxRecDepth 100000 in
theorem cp_2_f (f l h : Int) (t : ByteArray) (a : Option Addr) (n : Nat) (c lv : Nat) (w : World) (ht : t.size ≤ maxLen) (_g0 : ¬ f = 0) (_g1 : (f != 0) = true) :
    Calls Tryz.prog 63 #[.agg #[.int .i64 2, .int .i64 f, .int .i64 l, .int .i64 h, .string t, .slice a n c], .int .i64 lv] w fun e w' => e = .returned (.int .i64 2) ∧ Below w.heap.size w w' := by
  have b1 : inB 2 1 7 = true := rfl
  have b3 : inB 2 1 3 = true := rfl
  have HT := Lib.hid ht
  clear ht
  go_enter Tryz.func63, Tryz.ntmps63
  go_wp2_with (first | (go_at_call 71; refine (in_any _ _ _ _).mono ?_; rintro e w' ⟨rfl, rfl⟩) | (go_at_call 72; refine (isField_any _ _).mono ?_; rintro e w' ⟨rfl, rfl⟩) | (go_at_call 113; refine (isName_any _ _ HT.out).mono ?_; rintro e w' ⟨rfl, rfl⟩) | (go_at_call 114; refine (isShown_any _ _ HT.out).mono ?_; rintro e w' ⟨rfl, rfl⟩))
  go_quiet (fail)
  go_wp2_with fail
  go_quiet (fail)
  go_wp2_with (first | (go_at_call 71; refine (in_any _ _ _ _).mono ?_; rintro e w' ⟨rfl, rfl⟩) | (go_at_call 72; refine (isField_any _ _).mono ?_; rintro e w' ⟨rfl, rfl⟩) | (go_at_call 113; refine (isName_any _ _ HT.out).mono ?_; rintro e w' ⟨rfl, rfl⟩) | (go_at_call 114; refine (isShown_any _ _ HT.out).mono ?_; rintro e w' ⟨rfl, rfl⟩))
  go_ret
  exact ⟨rfl, below_drewN (below_alloc (below_refl w) _) _⟩

set_option maxRecDepth 100000 in
theorem cp_2_h (l h : Int) (t : ByteArray) (a : Option Addr) (n : Nat) (c lv : Nat) (w : World) (ht : t.size ≤ maxLen) (_g0 : ¬ h = 0) (_g1 : (h != 0) = true) :
    Calls Tryz.prog 63 #[.agg #[.int .i64 2, .int .i64 0, .int .i64 l, .int .i64 h, .string t, .slice a n c], .int .i64 lv] w fun e w' => e = .returned (.int .i64 2) ∧ Below w.heap.size w w' := by
  have b1 : inB 2 1 7 = true := rfl
  have b3 : inB 2 1 3 = true := rfl
  have HT := Lib.hid ht
  clear ht
  go_enter Tryz.func63, Tryz.ntmps63
  go_wp2_with (first | (go_at_call 71; refine (in_any _ _ _ _).mono ?_; rintro e w' ⟨rfl, rfl⟩) | (go_at_call 72; refine (isField_any _ _).mono ?_; rintro e w' ⟨rfl, rfl⟩) | (go_at_call 113; refine (isName_any _ _ HT.out).mono ?_; rintro e w' ⟨rfl, rfl⟩) | (go_at_call 114; refine (isShown_any _ _ HT.out).mono ?_; rintro e w' ⟨rfl, rfl⟩))
  go_quiet (fail)
  go_wp2_with fail
  go_quiet (fail)
  go_wp2_with (first | (go_at_call 71; refine (in_any _ _ _ _).mono ?_; rintro e w' ⟨rfl, rfl⟩) | (go_at_call 72; refine (isField_any _ _).mono ?_; rintro e w' ⟨rfl, rfl⟩) | (go_at_call 113; refine (isName_any _ _ HT.out).mono ?_; rintro e w' ⟨rfl, rfl⟩) | (go_at_call 114; refine (isShown_any _ _ HT.out).mono ?_; rintro e w' ⟨rfl, rfl⟩))
  go_ret
  exact ⟨rfl, below_drewN (below_alloc (below_refl w) _) _⟩

set_option maxRecDepth 100000 in
theorem cp_2_l (l : Int) (t : ByteArray) (a : Option Addr) (n : Nat) (c lv : Nat) (w : World) (ht : t.size ≤ maxLen) (_g0 : ¬ l = 0) (_g1 : (l != 0) = true) :
    Calls Tryz.prog 63 #[.agg #[.int .i64 2, .int .i64 0, .int .i64 l, .int .i64 0, .string t, .slice a n c], .int .i64 lv] w fun e w' => e = .returned (.int .i64 2) ∧ Below w.heap.size w w' := by
  have b1 : inB 2 1 7 = true := rfl
  have b3 : inB 2 1 3 = true := rfl
  have HT := Lib.hid ht
  clear ht
  go_enter Tryz.func63, Tryz.ntmps63
  go_wp2_with (first | (go_at_call 71; refine (in_any _ _ _ _).mono ?_; rintro e w' ⟨rfl, rfl⟩) | (go_at_call 72; refine (isField_any _ _).mono ?_; rintro e w' ⟨rfl, rfl⟩) | (go_at_call 113; refine (isName_any _ _ HT.out).mono ?_; rintro e w' ⟨rfl, rfl⟩) | (go_at_call 114; refine (isShown_any _ _ HT.out).mono ?_; rintro e w' ⟨rfl, rfl⟩))
  go_quiet (fail)
  go_wp2_with fail
  go_quiet (fail)
  go_wp2_with (first | (go_at_call 71; refine (in_any _ _ _ _).mono ?_; rintro e w' ⟨rfl, rfl⟩) | (go_at_call 72; refine (isField_any _ _).mono ?_; rintro e w' ⟨rfl, rfl⟩) | (go_at_call 113; refine (isName_any _ _ HT.out).mono ?_; rintro e w' ⟨rfl, rfl⟩) | (go_at_call 114; refine (isShown_any _ _ HT.out).mono ?_; rintro e w' ⟨rfl, rfl⟩))
  go_ret
  exact ⟨rfl, below_drewN (below_alloc (below_refl w) _) _⟩

set_option maxRecDepth 100000 in
theorem cp_2_t (t : ByteArray) (a : Option Addr) (n : Nat) (c lv : Nat) (w : World) (ht : t.size ≤ maxLen) (_g0 : t.toList.isEmpty = false) :
    Calls Tryz.prog 63 #[.agg #[.int .i64 2, .int .i64 0, .int .i64 0, .int .i64 0, .string t, .slice a n c], .int .i64 lv] w fun e w' => e = .returned (.int .i64 2) ∧ Below w.heap.size w w' := by
  have b1 : inB 2 1 7 = true := rfl
  have b3 : inB 2 1 3 = true := rfl
  have HT := Lib.hid ht
  clear ht
  go_enter Tryz.func63, Tryz.ntmps63
  go_wp2_with (first | (go_at_call 71; refine (in_any _ _ _ _).mono ?_; rintro e w' ⟨rfl, rfl⟩) | (go_at_call 72; refine (isField_any _ _).mono ?_; rintro e w' ⟨rfl, rfl⟩) | (go_at_call 113; refine (isName_any _ _ HT.out).mono ?_; rintro e w' ⟨rfl, rfl⟩) | (go_at_call 114; refine (isShown_any _ _ HT.out).mono ?_; rintro e w' ⟨rfl, rfl⟩))
  go_quiet (fail)
  go_wp2_with fail
  go_quiet (fail)
  go_wp2_with (first | (go_at_call 71; refine (in_any _ _ _ _).mono ?_; rintro e w' ⟨rfl, rfl⟩) | (go_at_call 72; refine (isField_any _ _).mono ?_; rintro e w' ⟨rfl, rfl⟩) | (go_at_call 113; refine (isName_any _ _ HT.out).mono ?_; rintro e w' ⟨rfl, rfl⟩) | (go_at_call 114; refine (isShown_any _ _ HT.out).mono ?_; rintro e w' ⟨rfl, rfl⟩))
  go_ret
  exact ⟨rfl, below_drewN (below_alloc (below_refl w) _) _⟩

set_option maxRecDepth 100000 in
theorem cp_2_lv (t : ByteArray) (a : Option Addr) (n : Nat) (c lv : Nat) (w : World) (ht : t.size ≤ maxLen) (_g0 : t.toList.isEmpty = true) (_g1 : 20 < lv) :
    Calls Tryz.prog 63 #[.agg #[.int .i64 2, .int .i64 0, .int .i64 0, .int .i64 0, .string t, .slice a n c], .int .i64 lv] w fun e w' => e = .returned (.int .i64 3) ∧ Below w.heap.size w w' := by
  have b1 : inB 2 1 7 = true := rfl
  have b3 : inB 2 1 3 = true := rfl
  have HT := Lib.hid ht
  clear ht
  go_enter Tryz.func63, Tryz.ntmps63
  go_wp2_with (first | (go_at_call 71; refine (in_any _ _ _ _).mono ?_; rintro e w' ⟨rfl, rfl⟩) | (go_at_call 72; refine (isField_any _ _).mono ?_; rintro e w' ⟨rfl, rfl⟩) | (go_at_call 113; refine (isName_any _ _ HT.out).mono ?_; rintro e w' ⟨rfl, rfl⟩) | (go_at_call 114; refine (isShown_any _ _ HT.out).mono ?_; rintro e w' ⟨rfl, rfl⟩))
  go_quiet (fail)
  go_wp2_with fail
  go_quiet (fail)
  go_wp2_with (first | (go_at_call 71; refine (in_any _ _ _ _).mono ?_; rintro e w' ⟨rfl, rfl⟩) | (go_at_call 72; refine (isField_any _ _).mono ?_; rintro e w' ⟨rfl, rfl⟩) | (go_at_call 113; refine (isName_any _ _ HT.out).mono ?_; rintro e w' ⟨rfl, rfl⟩) | (go_at_call 114; refine (isShown_any _ _ HT.out).mono ?_; rintro e w' ⟨rfl, rfl⟩))
  go_ret
  exact ⟨rfl, below_drewN (below_alloc (below_refl w) _) _⟩

set_option maxRecDepth 100000 in
theorem cp_3_f (f l h : Int) (t : ByteArray) (a : Option Addr) (n : Nat) (c lv : Nat) (w : World) (ht : t.size ≤ maxLen) (_g0 : ¬ f = 0) (_g1 : (f != 0) = true) :
    Calls Tryz.prog 63 #[.agg #[.int .i64 3, .int .i64 f, .int .i64 l, .int .i64 h, .string t, .slice a n c], .int .i64 lv] w fun e w' => e = .returned (.int .i64 2) ∧ Below w.heap.size w w' := by
  have b1 : inB 3 1 7 = true := rfl
  have b3 : inB 3 1 3 = true := rfl
  have HT := Lib.hid ht
  clear ht
  go_enter Tryz.func63, Tryz.ntmps63
  go_wp2_with (first | (go_at_call 71; refine (in_any _ _ _ _).mono ?_; rintro e w' ⟨rfl, rfl⟩) | (go_at_call 72; refine (isField_any _ _).mono ?_; rintro e w' ⟨rfl, rfl⟩) | (go_at_call 113; refine (isName_any _ _ HT.out).mono ?_; rintro e w' ⟨rfl, rfl⟩) | (go_at_call 114; refine (isShown_any _ _ HT.out).mono ?_; rintro e w' ⟨rfl, rfl⟩))
  go_quiet (fail)
  go_wp2_with fail
  go_quiet (fail)
  go_wp2_with (first | (go_at_call 71; refine (in_any _ _ _ _).mono ?_; rintro e w' ⟨rfl, rfl⟩) | (go_at_call 72; refine (isField_any _ _).mono ?_; rintro e w' ⟨rfl, rfl⟩) | (go_at_call 113; refine (isName_any _ _ HT.out).mono ?_; rintro e w' ⟨rfl, rfl⟩) | (go_at_call 114; refine (isShown_any _ _ HT.out).mono ?_; rintro e w' ⟨rfl, rfl⟩))
  go_ret
  exact ⟨rfl, below_drewN (below_alloc (below_refl w) _) _⟩

set_option maxRecDepth 100000 in
theorem cp_3_h (l h : Int) (t : ByteArray) (a : Option Addr) (n : Nat) (c lv : Nat) (w : World) (ht : t.size ≤ maxLen) (_g0 : ¬ h = 0) (_g1 : (h != 0) = true) :
    Calls Tryz.prog 63 #[.agg #[.int .i64 3, .int .i64 0, .int .i64 l, .int .i64 h, .string t, .slice a n c], .int .i64 lv] w fun e w' => e = .returned (.int .i64 2) ∧ Below w.heap.size w w' := by
  have b1 : inB 3 1 7 = true := rfl
  have b3 : inB 3 1 3 = true := rfl
  have HT := Lib.hid ht
  clear ht
  go_enter Tryz.func63, Tryz.ntmps63
  go_wp2_with (first | (go_at_call 71; refine (in_any _ _ _ _).mono ?_; rintro e w' ⟨rfl, rfl⟩) | (go_at_call 72; refine (isField_any _ _).mono ?_; rintro e w' ⟨rfl, rfl⟩) | (go_at_call 113; refine (isName_any _ _ HT.out).mono ?_; rintro e w' ⟨rfl, rfl⟩) | (go_at_call 114; refine (isShown_any _ _ HT.out).mono ?_; rintro e w' ⟨rfl, rfl⟩))
  go_quiet (fail)
  go_wp2_with fail
  go_quiet (fail)
  go_wp2_with (first | (go_at_call 71; refine (in_any _ _ _ _).mono ?_; rintro e w' ⟨rfl, rfl⟩) | (go_at_call 72; refine (isField_any _ _).mono ?_; rintro e w' ⟨rfl, rfl⟩) | (go_at_call 113; refine (isName_any _ _ HT.out).mono ?_; rintro e w' ⟨rfl, rfl⟩) | (go_at_call 114; refine (isShown_any _ _ HT.out).mono ?_; rintro e w' ⟨rfl, rfl⟩))
  go_ret
  exact ⟨rfl, below_drewN (below_alloc (below_refl w) _) _⟩

set_option maxRecDepth 100000 in
theorem cp_3_l (l : Int) (t : ByteArray) (a : Option Addr) (n : Nat) (c lv : Nat) (w : World) (ht : t.size ≤ maxLen) (_g0 : ¬ l = 0) (_g1 : (l != 0) = true) :
    Calls Tryz.prog 63 #[.agg #[.int .i64 3, .int .i64 0, .int .i64 l, .int .i64 0, .string t, .slice a n c], .int .i64 lv] w fun e w' => e = .returned (.int .i64 2) ∧ Below w.heap.size w w' := by
  have b1 : inB 3 1 7 = true := rfl
  have b3 : inB 3 1 3 = true := rfl
  have HT := Lib.hid ht
  clear ht
  go_enter Tryz.func63, Tryz.ntmps63
  go_wp2_with (first | (go_at_call 71; refine (in_any _ _ _ _).mono ?_; rintro e w' ⟨rfl, rfl⟩) | (go_at_call 72; refine (isField_any _ _).mono ?_; rintro e w' ⟨rfl, rfl⟩) | (go_at_call 113; refine (isName_any _ _ HT.out).mono ?_; rintro e w' ⟨rfl, rfl⟩) | (go_at_call 114; refine (isShown_any _ _ HT.out).mono ?_; rintro e w' ⟨rfl, rfl⟩))
  go_quiet (fail)
  go_wp2_with fail
  go_quiet (fail)
  go_wp2_with (first | (go_at_call 71; refine (in_any _ _ _ _).mono ?_; rintro e w' ⟨rfl, rfl⟩) | (go_at_call 72; refine (isField_any _ _).mono ?_; rintro e w' ⟨rfl, rfl⟩) | (go_at_call 113; refine (isName_any _ _ HT.out).mono ?_; rintro e w' ⟨rfl, rfl⟩) | (go_at_call 114; refine (isShown_any _ _ HT.out).mono ?_; rintro e w' ⟨rfl, rfl⟩))
  go_ret
  exact ⟨rfl, below_drewN (below_alloc (below_refl w) _) _⟩

set_option maxRecDepth 100000 in
theorem cp_3_t (t : ByteArray) (a : Option Addr) (n : Nat) (c lv : Nat) (w : World) (ht : t.size ≤ maxLen) (_g0 : t.toList.isEmpty = false) :
    Calls Tryz.prog 63 #[.agg #[.int .i64 3, .int .i64 0, .int .i64 0, .int .i64 0, .string t, .slice a n c], .int .i64 lv] w fun e w' => e = .returned (.int .i64 2) ∧ Below w.heap.size w w' := by
  have b1 : inB 3 1 7 = true := rfl
  have b3 : inB 3 1 3 = true := rfl
  have HT := Lib.hid ht
  clear ht
  go_enter Tryz.func63, Tryz.ntmps63
  go_wp2_with (first | (go_at_call 71; refine (in_any _ _ _ _).mono ?_; rintro e w' ⟨rfl, rfl⟩) | (go_at_call 72; refine (isField_any _ _).mono ?_; rintro e w' ⟨rfl, rfl⟩) | (go_at_call 113; refine (isName_any _ _ HT.out).mono ?_; rintro e w' ⟨rfl, rfl⟩) | (go_at_call 114; refine (isShown_any _ _ HT.out).mono ?_; rintro e w' ⟨rfl, rfl⟩))
  go_quiet (fail)
  go_wp2_with fail
  go_quiet (fail)
  go_wp2_with (first | (go_at_call 71; refine (in_any _ _ _ _).mono ?_; rintro e w' ⟨rfl, rfl⟩) | (go_at_call 72; refine (isField_any _ _).mono ?_; rintro e w' ⟨rfl, rfl⟩) | (go_at_call 113; refine (isName_any _ _ HT.out).mono ?_; rintro e w' ⟨rfl, rfl⟩) | (go_at_call 114; refine (isShown_any _ _ HT.out).mono ?_; rintro e w' ⟨rfl, rfl⟩))
  go_ret
  exact ⟨rfl, below_drewN (below_alloc (below_refl w) _) _⟩

set_option maxRecDepth 100000 in
theorem cp_3_n1 (t : ByteArray) (a : Option Addr) (n : Nat) (c lv : Nat) (w : World) (ht : t.size ≤ maxLen) (_g0 : t.toList.isEmpty = true) (_g1 : ¬ n = 1) (_g2 : ((n : Int) != 1) = true) :
    Calls Tryz.prog 63 #[.agg #[.int .i64 3, .int .i64 0, .int .i64 0, .int .i64 0, .string t, .slice a n c], .int .i64 lv] w fun e w' => e = .returned (.int .i64 2) ∧ Below w.heap.size w w' := by
  have b1 : inB 3 1 7 = true := rfl
  have b3 : inB 3 1 3 = true := rfl
  have HT := Lib.hid ht
  clear ht
  go_enter Tryz.func63, Tryz.ntmps63
  go_wp2_with (first | (go_at_call 71; refine (in_any _ _ _ _).mono ?_; rintro e w' ⟨rfl, rfl⟩) | (go_at_call 72; refine (isField_any _ _).mono ?_; rintro e w' ⟨rfl, rfl⟩) | (go_at_call 113; refine (isName_any _ _ HT.out).mono ?_; rintro e w' ⟨rfl, rfl⟩) | (go_at_call 114; refine (isShown_any _ _ HT.out).mono ?_; rintro e w' ⟨rfl, rfl⟩))
  go_quiet (fail)
  go_wp2_with fail
  go_quiet (fail)
  go_wp2_with (first | (go_at_call 71; refine (in_any _ _ _ _).mono ?_; rintro e w' ⟨rfl, rfl⟩) | (go_at_call 72; refine (isField_any _ _).mono ?_; rintro e w' ⟨rfl, rfl⟩) | (go_at_call 113; refine (isName_any _ _ HT.out).mono ?_; rintro e w' ⟨rfl, rfl⟩) | (go_at_call 114; refine (isShown_any _ _ HT.out).mono ?_; rintro e w' ⟨rfl, rfl⟩))
  go_ret
  exact ⟨rfl, below_drewN (below_alloc (below_refl w) _) _⟩

set_option maxRecDepth 100000 in
theorem cp_3_lv (t : ByteArray) (a : Option Addr) (c lv : Nat) (w : World) (ht : t.size ≤ maxLen) (_g0 : t.toList.isEmpty = true) (_g1 : 20 < lv) :
    Calls Tryz.prog 63 #[.agg #[.int .i64 3, .int .i64 0, .int .i64 0, .int .i64 0, .string t, .slice a 1 c], .int .i64 lv] w fun e w' => e = .returned (.int .i64 3) ∧ Below w.heap.size w w' := by
  have b1 : inB 3 1 7 = true := rfl
  have b3 : inB 3 1 3 = true := rfl
  have HT := Lib.hid ht
  clear ht
  go_enter Tryz.func63, Tryz.ntmps63
  go_wp2_with (first | (go_at_call 71; refine (in_any _ _ _ _).mono ?_; rintro e w' ⟨rfl, rfl⟩) | (go_at_call 72; refine (isField_any _ _).mono ?_; rintro e w' ⟨rfl, rfl⟩) | (go_at_call 113; refine (isName_any _ _ HT.out).mono ?_; rintro e w' ⟨rfl, rfl⟩) | (go_at_call 114; refine (isShown_any _ _ HT.out).mono ?_; rintro e w' ⟨rfl, rfl⟩))
  go_quiet (fail)
  go_wp2_with fail
  go_quiet (fail)
  go_wp2_with (first | (go_at_call 71; refine (in_any _ _ _ _).mono ?_; rintro e w' ⟨rfl, rfl⟩) | (go_at_call 72; refine (isField_any _ _).mono ?_; rintro e w' ⟨rfl, rfl⟩) | (go_at_call 113; refine (isName_any _ _ HT.out).mono ?_; rintro e w' ⟨rfl, rfl⟩) | (go_at_call 114; refine (isShown_any _ _ HT.out).mono ?_; rintro e w' ⟨rfl, rfl⟩))
  go_ret
  exact ⟨rfl, below_drewN (below_alloc (below_refl w) _) _⟩

set_option maxRecDepth 100000 in
theorem cp_4_sp (f l h : Int) (t : ByteArray) (a : Option Addr) (n : Nat) (c lv : Nat) (w : World) (ht : t.size ≤ maxLen) (_g0 : inB l 1 5 = false) :
    Calls Tryz.prog 63 #[.agg #[.int .i64 4, .int .i64 f, .int .i64 l, .int .i64 h, .string t, .slice a n c], .int .i64 lv] w fun e w' => e = .returned (.int .i64 7) ∧ Below w.heap.size w w' := by
  have b1 : inB 4 1 7 = true := rfl
  have b3 : inB 4 1 3 = false := rfl
  have HT := Lib.hid ht
  clear ht
  go_enter Tryz.func63, Tryz.ntmps63
  go_wp2_with (first | (go_at_call 71; refine (in_any _ _ _ _).mono ?_; rintro e w' ⟨rfl, rfl⟩) | (go_at_call 72; refine (isField_any _ _).mono ?_; rintro e w' ⟨rfl, rfl⟩) | (go_at_call 113; refine (isName_any _ _ HT.out).mono ?_; rintro e w' ⟨rfl, rfl⟩) | (go_at_call 114; refine (isShown_any _ _ HT.out).mono ?_; rintro e w' ⟨rfl, rfl⟩))
  go_quiet (fail)
  go_wp2_with fail
  go_quiet (fail)
  go_wp2_with (first | (go_at_call 71; refine (in_any _ _ _ _).mono ?_; rintro e w' ⟨rfl, rfl⟩) | (go_at_call 72; refine (isField_any _ _).mono ?_; rintro e w' ⟨rfl, rfl⟩) | (go_at_call 113; refine (isName_any _ _ HT.out).mono ?_; rintro e w' ⟨rfl, rfl⟩) | (go_at_call 114; refine (isShown_any _ _ HT.out).mono ?_; rintro e w' ⟨rfl, rfl⟩))
  go_ret
  exact ⟨rfl, below_drewN (below_alloc (below_refl w) _) _⟩

set_option maxRecDepth 100000 in
theorem cp_4_f (f l h : Int) (t : ByteArray) (a : Option Addr) (n : Nat) (c lv : Nat) (w : World) (ht : t.size ≤ maxLen) (_g0 : inB l 1 5 = true) (_g1 : ¬ f = 0) (_g2 : (f != 0) = true) :
    Calls Tryz.prog 63 #[.agg #[.int .i64 4, .int .i64 f, .int .i64 l, .int .i64 h, .string t, .slice a n c], .int .i64 lv] w fun e w' => e = .returned (.int .i64 2) ∧ Below w.heap.size w w' := by
  have b1 : inB 4 1 7 = true := rfl
  have b3 : inB 4 1 3 = false := rfl
  have HT := Lib.hid ht
  clear ht
  go_enter Tryz.func63, Tryz.ntmps63
  go_wp2_with (first | (go_at_call 71; refine (in_any _ _ _ _).mono ?_; rintro e w' ⟨rfl, rfl⟩) | (go_at_call 72; refine (isField_any _ _).mono ?_; rintro e w' ⟨rfl, rfl⟩) | (go_at_call 113; refine (isName_any _ _ HT.out).mono ?_; rintro e w' ⟨rfl, rfl⟩) | (go_at_call 114; refine (isShown_any _ _ HT.out).mono ?_; rintro e w' ⟨rfl, rfl⟩))
  go_quiet (fail)
  go_wp2_with fail
  go_quiet (fail)
  go_wp2_with (first | (go_at_call 71; refine (in_any _ _ _ _).mono ?_; rintro e w' ⟨rfl, rfl⟩) | (go_at_call 72; refine (isField_any _ _).mono ?_; rintro e w' ⟨rfl, rfl⟩) | (go_at_call 113; refine (isName_any _ _ HT.out).mono ?_; rintro e w' ⟨rfl, rfl⟩) | (go_at_call 114; refine (isShown_any _ _ HT.out).mono ?_; rintro e w' ⟨rfl, rfl⟩))
  go_ret
  exact ⟨rfl, below_drewN (below_alloc (below_refl w) _) _⟩

set_option maxRecDepth 100000 in
theorem cp_4_h (l h : Int) (t : ByteArray) (a : Option Addr) (n : Nat) (c lv : Nat) (w : World) (ht : t.size ≤ maxLen) (_g0 : inB l 1 5 = true) (_g1 : ¬ h = 0) (_g2 : (h != 0) = true) :
    Calls Tryz.prog 63 #[.agg #[.int .i64 4, .int .i64 0, .int .i64 l, .int .i64 h, .string t, .slice a n c], .int .i64 lv] w fun e w' => e = .returned (.int .i64 2) ∧ Below w.heap.size w w' := by
  have b1 : inB 4 1 7 = true := rfl
  have b3 : inB 4 1 3 = false := rfl
  have HT := Lib.hid ht
  clear ht
  go_enter Tryz.func63, Tryz.ntmps63
  go_wp2_with (first | (go_at_call 71; refine (in_any _ _ _ _).mono ?_; rintro e w' ⟨rfl, rfl⟩) | (go_at_call 72; refine (isField_any _ _).mono ?_; rintro e w' ⟨rfl, rfl⟩) | (go_at_call 113; refine (isName_any _ _ HT.out).mono ?_; rintro e w' ⟨rfl, rfl⟩) | (go_at_call 114; refine (isShown_any _ _ HT.out).mono ?_; rintro e w' ⟨rfl, rfl⟩))
  go_quiet (fail)
  go_wp2_with fail
  go_quiet (fail)
  go_wp2_with (first | (go_at_call 71; refine (in_any _ _ _ _).mono ?_; rintro e w' ⟨rfl, rfl⟩) | (go_at_call 72; refine (isField_any _ _).mono ?_; rintro e w' ⟨rfl, rfl⟩) | (go_at_call 113; refine (isName_any _ _ HT.out).mono ?_; rintro e w' ⟨rfl, rfl⟩) | (go_at_call 114; refine (isShown_any _ _ HT.out).mono ?_; rintro e w' ⟨rfl, rfl⟩))
  go_ret
  exact ⟨rfl, below_drewN (below_alloc (below_refl w) _) _⟩

set_option maxRecDepth 100000 in
theorem cp_4_t (l : Int) (t : ByteArray) (a : Option Addr) (n : Nat) (c lv : Nat) (w : World) (ht : t.size ≤ maxLen) (_g0 : inB l 1 5 = true) (_g1 : t.toList.isEmpty = false) :
    Calls Tryz.prog 63 #[.agg #[.int .i64 4, .int .i64 0, .int .i64 l, .int .i64 0, .string t, .slice a n c], .int .i64 lv] w fun e w' => e = .returned (.int .i64 2) ∧ Below w.heap.size w w' := by
  have b1 : inB 4 1 7 = true := rfl
  have b3 : inB 4 1 3 = false := rfl
  have HT := Lib.hid ht
  clear ht
  go_enter Tryz.func63, Tryz.ntmps63
  go_wp2_with (first | (go_at_call 71; refine (in_any _ _ _ _).mono ?_; rintro e w' ⟨rfl, rfl⟩) | (go_at_call 72; refine (isField_any _ _).mono ?_; rintro e w' ⟨rfl, rfl⟩) | (go_at_call 113; refine (isName_any _ _ HT.out).mono ?_; rintro e w' ⟨rfl, rfl⟩) | (go_at_call 114; refine (isShown_any _ _ HT.out).mono ?_; rintro e w' ⟨rfl, rfl⟩))
  go_quiet (fail)
  go_wp2_with fail
  go_quiet (fail)
  go_wp2_with (first | (go_at_call 71; refine (in_any _ _ _ _).mono ?_; rintro e w' ⟨rfl, rfl⟩) | (go_at_call 72; refine (isField_any _ _).mono ?_; rintro e w' ⟨rfl, rfl⟩) | (go_at_call 113; refine (isName_any _ _ HT.out).mono ?_; rintro e w' ⟨rfl, rfl⟩) | (go_at_call 114; refine (isShown_any _ _ HT.out).mono ?_; rintro e w' ⟨rfl, rfl⟩))
  go_ret
  exact ⟨rfl, below_drewN (below_alloc (below_refl w) _) _⟩

set_option maxRecDepth 100000 in
theorem cp_4_n0 (l : Int) (t : ByteArray) (a : Option Addr) (n : Nat) (c lv : Nat) (w : World) (ht : t.size ≤ maxLen) (_g0 : inB l 1 5 = true) (_g1 : t.toList.isEmpty = true) (_g2 : 0 < n) :
    Calls Tryz.prog 63 #[.agg #[.int .i64 4, .int .i64 0, .int .i64 l, .int .i64 0, .string t, .slice a n c], .int .i64 lv] w fun e w' => e = .returned (.int .i64 2) ∧ Below w.heap.size w w' := by
  have b1 : inB 4 1 7 = true := rfl
  have b3 : inB 4 1 3 = false := rfl
  have HT := Lib.hid ht
  clear ht
  go_enter Tryz.func63, Tryz.ntmps63
  go_wp2_with (first | (go_at_call 71; refine (in_any _ _ _ _).mono ?_; rintro e w' ⟨rfl, rfl⟩) | (go_at_call 72; refine (isField_any _ _).mono ?_; rintro e w' ⟨rfl, rfl⟩) | (go_at_call 113; refine (isName_any _ _ HT.out).mono ?_; rintro e w' ⟨rfl, rfl⟩) | (go_at_call 114; refine (isShown_any _ _ HT.out).mono ?_; rintro e w' ⟨rfl, rfl⟩))
  go_quiet (fail)
  go_wp2_with fail
  go_quiet (fail)
  go_wp2_with (first | (go_at_call 71; refine (in_any _ _ _ _).mono ?_; rintro e w' ⟨rfl, rfl⟩) | (go_at_call 72; refine (isField_any _ _).mono ?_; rintro e w' ⟨rfl, rfl⟩) | (go_at_call 113; refine (isName_any _ _ HT.out).mono ?_; rintro e w' ⟨rfl, rfl⟩) | (go_at_call 114; refine (isShown_any _ _ HT.out).mono ?_; rintro e w' ⟨rfl, rfl⟩))
  go_ret
  exact ⟨rfl, below_drewN (below_alloc (below_refl w) _) _⟩

set_option maxRecDepth 100000 in
theorem cp_4_lv (l : Int) (t : ByteArray) (a : Option Addr) (c lv : Nat) (w : World) (ht : t.size ≤ maxLen) (_g0 : inB l 1 5 = true) (_g1 : t.toList.isEmpty = true) (_g2 : 20 < lv) :
    Calls Tryz.prog 63 #[.agg #[.int .i64 4, .int .i64 0, .int .i64 l, .int .i64 0, .string t, .slice a 0 c], .int .i64 lv] w fun e w' => e = .returned (.int .i64 3) ∧ Below w.heap.size w w' := by
  have b1 : inB 4 1 7 = true := rfl
  have b3 : inB 4 1 3 = false := rfl
  have HT := Lib.hid ht
  clear ht
  go_enter Tryz.func63, Tryz.ntmps63
  go_wp2_with (first | (go_at_call 71; refine (in_any _ _ _ _).mono ?_; rintro e w' ⟨rfl, rfl⟩) | (go_at_call 72; refine (isField_any _ _).mono ?_; rintro e w' ⟨rfl, rfl⟩) | (go_at_call 113; refine (isName_any _ _ HT.out).mono ?_; rintro e w' ⟨rfl, rfl⟩) | (go_at_call 114; refine (isShown_any _ _ HT.out).mono ?_; rintro e w' ⟨rfl, rfl⟩))
  go_quiet (fail)
  go_wp2_with fail
  go_quiet (fail)
  go_wp2_with (first | (go_at_call 71; refine (in_any _ _ _ _).mono ?_; rintro e w' ⟨rfl, rfl⟩) | (go_at_call 72; refine (isField_any _ _).mono ?_; rintro e w' ⟨rfl, rfl⟩) | (go_at_call 113; refine (isName_any _ _ HT.out).mono ?_; rintro e w' ⟨rfl, rfl⟩) | (go_at_call 114; refine (isShown_any _ _ HT.out).mono ?_; rintro e w' ⟨rfl, rfl⟩))
  go_ret
  exact ⟨rfl, below_drewN (below_alloc (below_refl w) _) _⟩

set_option maxRecDepth 100000 in
theorem cp_5_nm (f l h : Int) (t : ByteArray) (a : Option Addr) (n : Nat) (c lv : Nat) (w : World) (ht : t.size ≤ maxLen) (_g0 : isNameB t = false) :
    Calls Tryz.prog 63 #[.agg #[.int .i64 5, .int .i64 f, .int .i64 l, .int .i64 h, .string t, .slice a n c], .int .i64 lv] w fun e w' => e = .returned (.int .i64 8) ∧ Below w.heap.size w w' := by
  have b1 : inB 5 1 7 = true := rfl
  have b3 : inB 5 1 3 = false := rfl
  have HT := Lib.hid ht
  clear ht
  go_enter Tryz.func63, Tryz.ntmps63
  go_wp2_with (first | (go_at_call 71; refine (in_any _ _ _ _).mono ?_; rintro e w' ⟨rfl, rfl⟩) | (go_at_call 72; refine (isField_any _ _).mono ?_; rintro e w' ⟨rfl, rfl⟩) | (go_at_call 113; refine (isName_any _ _ HT.out).mono ?_; rintro e w' ⟨rfl, rfl⟩) | (go_at_call 114; refine (isShown_any _ _ HT.out).mono ?_; rintro e w' ⟨rfl, rfl⟩))
  go_quiet (fail)
  go_wp2_with fail
  go_quiet (fail)
  go_wp2_with (first | (go_at_call 71; refine (in_any _ _ _ _).mono ?_; rintro e w' ⟨rfl, rfl⟩) | (go_at_call 72; refine (isField_any _ _).mono ?_; rintro e w' ⟨rfl, rfl⟩) | (go_at_call 113; refine (isName_any _ _ HT.out).mono ?_; rintro e w' ⟨rfl, rfl⟩) | (go_at_call 114; refine (isShown_any _ _ HT.out).mono ?_; rintro e w' ⟨rfl, rfl⟩))
  go_ret
  exact ⟨rfl, below_drewN (below_alloc (below_refl w) _) _⟩

set_option maxRecDepth 100000 in
theorem cp_5_f (f l h : Int) (t : ByteArray) (a : Option Addr) (n : Nat) (c lv : Nat) (w : World) (ht : t.size ≤ maxLen) (_g0 : isNameB t = true) (_g1 : ¬ f = 0) (_g2 : (f != 0) = true) :
    Calls Tryz.prog 63 #[.agg #[.int .i64 5, .int .i64 f, .int .i64 l, .int .i64 h, .string t, .slice a n c], .int .i64 lv] w fun e w' => e = .returned (.int .i64 2) ∧ Below w.heap.size w w' := by
  have b1 : inB 5 1 7 = true := rfl
  have b3 : inB 5 1 3 = false := rfl
  have HT := Lib.hid ht
  clear ht
  go_enter Tryz.func63, Tryz.ntmps63
  go_wp2_with (first | (go_at_call 71; refine (in_any _ _ _ _).mono ?_; rintro e w' ⟨rfl, rfl⟩) | (go_at_call 72; refine (isField_any _ _).mono ?_; rintro e w' ⟨rfl, rfl⟩) | (go_at_call 113; refine (isName_any _ _ HT.out).mono ?_; rintro e w' ⟨rfl, rfl⟩) | (go_at_call 114; refine (isShown_any _ _ HT.out).mono ?_; rintro e w' ⟨rfl, rfl⟩))
  go_quiet (fail)
  go_wp2_with fail
  go_quiet (fail)
  go_wp2_with (first | (go_at_call 71; refine (in_any _ _ _ _).mono ?_; rintro e w' ⟨rfl, rfl⟩) | (go_at_call 72; refine (isField_any _ _).mono ?_; rintro e w' ⟨rfl, rfl⟩) | (go_at_call 113; refine (isName_any _ _ HT.out).mono ?_; rintro e w' ⟨rfl, rfl⟩) | (go_at_call 114; refine (isShown_any _ _ HT.out).mono ?_; rintro e w' ⟨rfl, rfl⟩))
  go_ret
  exact ⟨rfl, below_drewN (below_alloc (below_refl w) _) _⟩

set_option maxRecDepth 100000 in
theorem cp_5_h (l h : Int) (t : ByteArray) (a : Option Addr) (n : Nat) (c lv : Nat) (w : World) (ht : t.size ≤ maxLen) (_g0 : isNameB t = true) (_g1 : ¬ h = 0) (_g2 : (h != 0) = true) :
    Calls Tryz.prog 63 #[.agg #[.int .i64 5, .int .i64 0, .int .i64 l, .int .i64 h, .string t, .slice a n c], .int .i64 lv] w fun e w' => e = .returned (.int .i64 2) ∧ Below w.heap.size w w' := by
  have b1 : inB 5 1 7 = true := rfl
  have b3 : inB 5 1 3 = false := rfl
  have HT := Lib.hid ht
  clear ht
  go_enter Tryz.func63, Tryz.ntmps63
  go_wp2_with (first | (go_at_call 71; refine (in_any _ _ _ _).mono ?_; rintro e w' ⟨rfl, rfl⟩) | (go_at_call 72; refine (isField_any _ _).mono ?_; rintro e w' ⟨rfl, rfl⟩) | (go_at_call 113; refine (isName_any _ _ HT.out).mono ?_; rintro e w' ⟨rfl, rfl⟩) | (go_at_call 114; refine (isShown_any _ _ HT.out).mono ?_; rintro e w' ⟨rfl, rfl⟩))
  go_quiet (fail)
  go_wp2_with fail
  go_quiet (fail)
  go_wp2_with (first | (go_at_call 71; refine (in_any _ _ _ _).mono ?_; rintro e w' ⟨rfl, rfl⟩) | (go_at_call 72; refine (isField_any _ _).mono ?_; rintro e w' ⟨rfl, rfl⟩) | (go_at_call 113; refine (isName_any _ _ HT.out).mono ?_; rintro e w' ⟨rfl, rfl⟩) | (go_at_call 114; refine (isShown_any _ _ HT.out).mono ?_; rintro e w' ⟨rfl, rfl⟩))
  go_ret
  exact ⟨rfl, below_drewN (below_alloc (below_refl w) _) _⟩

set_option maxRecDepth 100000 in
theorem cp_5_l (l : Int) (t : ByteArray) (a : Option Addr) (n : Nat) (c lv : Nat) (w : World) (ht : t.size ≤ maxLen) (_g0 : isNameB t = true) (_g1 : ¬ l = 0) (_g2 : (l != 0) = true) :
    Calls Tryz.prog 63 #[.agg #[.int .i64 5, .int .i64 0, .int .i64 l, .int .i64 0, .string t, .slice a n c], .int .i64 lv] w fun e w' => e = .returned (.int .i64 2) ∧ Below w.heap.size w w' := by
  have b1 : inB 5 1 7 = true := rfl
  have b3 : inB 5 1 3 = false := rfl
  have HT := Lib.hid ht
  clear ht
  go_enter Tryz.func63, Tryz.ntmps63
  go_wp2_with (first | (go_at_call 71; refine (in_any _ _ _ _).mono ?_; rintro e w' ⟨rfl, rfl⟩) | (go_at_call 72; refine (isField_any _ _).mono ?_; rintro e w' ⟨rfl, rfl⟩) | (go_at_call 113; refine (isName_any _ _ HT.out).mono ?_; rintro e w' ⟨rfl, rfl⟩) | (go_at_call 114; refine (isShown_any _ _ HT.out).mono ?_; rintro e w' ⟨rfl, rfl⟩))
  go_quiet (fail)
  go_wp2_with fail
  go_quiet (fail)
  go_wp2_with (first | (go_at_call 71; refine (in_any _ _ _ _).mono ?_; rintro e w' ⟨rfl, rfl⟩) | (go_at_call 72; refine (isField_any _ _).mono ?_; rintro e w' ⟨rfl, rfl⟩) | (go_at_call 113; refine (isName_any _ _ HT.out).mono ?_; rintro e w' ⟨rfl, rfl⟩) | (go_at_call 114; refine (isShown_any _ _ HT.out).mono ?_; rintro e w' ⟨rfl, rfl⟩))
  go_ret
  exact ⟨rfl, below_drewN (below_alloc (below_refl w) _) _⟩

set_option maxRecDepth 100000 in
theorem cp_5_n0 (t : ByteArray) (a : Option Addr) (n : Nat) (c lv : Nat) (w : World) (ht : t.size ≤ maxLen) (_g0 : isNameB t = true) (_g1 : 0 < n) :
    Calls Tryz.prog 63 #[.agg #[.int .i64 5, .int .i64 0, .int .i64 0, .int .i64 0, .string t, .slice a n c], .int .i64 lv] w fun e w' => e = .returned (.int .i64 2) ∧ Below w.heap.size w w' := by
  have b1 : inB 5 1 7 = true := rfl
  have b3 : inB 5 1 3 = false := rfl
  have HT := Lib.hid ht
  clear ht
  go_enter Tryz.func63, Tryz.ntmps63
  go_wp2_with (first | (go_at_call 71; refine (in_any _ _ _ _).mono ?_; rintro e w' ⟨rfl, rfl⟩) | (go_at_call 72; refine (isField_any _ _).mono ?_; rintro e w' ⟨rfl, rfl⟩) | (go_at_call 113; refine (isName_any _ _ HT.out).mono ?_; rintro e w' ⟨rfl, rfl⟩) | (go_at_call 114; refine (isShown_any _ _ HT.out).mono ?_; rintro e w' ⟨rfl, rfl⟩))
  go_quiet (fail)
  go_wp2_with fail
  go_quiet (fail)
  go_wp2_with (first | (go_at_call 71; refine (in_any _ _ _ _).mono ?_; rintro e w' ⟨rfl, rfl⟩) | (go_at_call 72; refine (isField_any _ _).mono ?_; rintro e w' ⟨rfl, rfl⟩) | (go_at_call 113; refine (isName_any _ _ HT.out).mono ?_; rintro e w' ⟨rfl, rfl⟩) | (go_at_call 114; refine (isShown_any _ _ HT.out).mono ?_; rintro e w' ⟨rfl, rfl⟩))
  go_ret
  exact ⟨rfl, below_drewN (below_alloc (below_refl w) _) _⟩

set_option maxRecDepth 100000 in
theorem cp_5_lv (t : ByteArray) (a : Option Addr) (c lv : Nat) (w : World) (ht : t.size ≤ maxLen) (_g0 : isNameB t = true) (_g1 : 20 < lv) :
    Calls Tryz.prog 63 #[.agg #[.int .i64 5, .int .i64 0, .int .i64 0, .int .i64 0, .string t, .slice a 0 c], .int .i64 lv] w fun e w' => e = .returned (.int .i64 3) ∧ Below w.heap.size w w' := by
  have b1 : inB 5 1 7 = true := rfl
  have b3 : inB 5 1 3 = false := rfl
  have HT := Lib.hid ht
  clear ht
  go_enter Tryz.func63, Tryz.ntmps63
  go_wp2_with (first | (go_at_call 71; refine (in_any _ _ _ _).mono ?_; rintro e w' ⟨rfl, rfl⟩) | (go_at_call 72; refine (isField_any _ _).mono ?_; rintro e w' ⟨rfl, rfl⟩) | (go_at_call 113; refine (isName_any _ _ HT.out).mono ?_; rintro e w' ⟨rfl, rfl⟩) | (go_at_call 114; refine (isShown_any _ _ HT.out).mono ?_; rintro e w' ⟨rfl, rfl⟩))
  go_quiet (fail)
  go_wp2_with fail
  go_quiet (fail)
  go_wp2_with (first | (go_at_call 71; refine (in_any _ _ _ _).mono ?_; rintro e w' ⟨rfl, rfl⟩) | (go_at_call 72; refine (isField_any _ _).mono ?_; rintro e w' ⟨rfl, rfl⟩) | (go_at_call 113; refine (isName_any _ _ HT.out).mono ?_; rintro e w' ⟨rfl, rfl⟩) | (go_at_call 114; refine (isShown_any _ _ HT.out).mono ?_; rintro e w' ⟨rfl, rfl⟩))
  go_ret
  exact ⟨rfl, below_drewN (below_alloc (below_refl w) _) _⟩

set_option maxRecDepth 100000 in
theorem cp_6_sh (f l h : Int) (t : ByteArray) (a : Option Addr) (n : Nat) (c lv : Nat) (w : World) (ht : t.size ≤ maxLen) (_g0 : isShownB t = false) :
    Calls Tryz.prog 63 #[.agg #[.int .i64 6, .int .i64 f, .int .i64 l, .int .i64 h, .string t, .slice a n c], .int .i64 lv] w fun e w' => e = .returned (.int .i64 2) ∧ Below w.heap.size w w' := by
  have b1 : inB 6 1 7 = true := rfl
  have b3 : inB 6 1 3 = false := rfl
  have HT := Lib.hid ht
  clear ht
  go_enter Tryz.func63, Tryz.ntmps63
  go_wp2_with (first | (go_at_call 71; refine (in_any _ _ _ _).mono ?_; rintro e w' ⟨rfl, rfl⟩) | (go_at_call 72; refine (isField_any _ _).mono ?_; rintro e w' ⟨rfl, rfl⟩) | (go_at_call 113; refine (isName_any _ _ HT.out).mono ?_; rintro e w' ⟨rfl, rfl⟩) | (go_at_call 114; refine (isShown_any _ _ HT.out).mono ?_; rintro e w' ⟨rfl, rfl⟩))
  go_quiet (fail)
  go_wp2_with fail
  go_quiet (fail)
  go_wp2_with (first | (go_at_call 71; refine (in_any _ _ _ _).mono ?_; rintro e w' ⟨rfl, rfl⟩) | (go_at_call 72; refine (isField_any _ _).mono ?_; rintro e w' ⟨rfl, rfl⟩) | (go_at_call 113; refine (isName_any _ _ HT.out).mono ?_; rintro e w' ⟨rfl, rfl⟩) | (go_at_call 114; refine (isShown_any _ _ HT.out).mono ?_; rintro e w' ⟨rfl, rfl⟩))
  go_ret
  exact ⟨rfl, below_drewN (below_alloc (below_refl w) _) _⟩

set_option maxRecDepth 100000 in
theorem cp_6_f (f l h : Int) (t : ByteArray) (a : Option Addr) (n : Nat) (c lv : Nat) (w : World) (ht : t.size ≤ maxLen) (_g0 : isShownB t = true) (_g1 : ¬ f = 0) (_g2 : (f != 0) = true) :
    Calls Tryz.prog 63 #[.agg #[.int .i64 6, .int .i64 f, .int .i64 l, .int .i64 h, .string t, .slice a n c], .int .i64 lv] w fun e w' => e = .returned (.int .i64 2) ∧ Below w.heap.size w w' := by
  have b1 : inB 6 1 7 = true := rfl
  have b3 : inB 6 1 3 = false := rfl
  have HT := Lib.hid ht
  clear ht
  go_enter Tryz.func63, Tryz.ntmps63
  go_wp2_with (first | (go_at_call 71; refine (in_any _ _ _ _).mono ?_; rintro e w' ⟨rfl, rfl⟩) | (go_at_call 72; refine (isField_any _ _).mono ?_; rintro e w' ⟨rfl, rfl⟩) | (go_at_call 113; refine (isName_any _ _ HT.out).mono ?_; rintro e w' ⟨rfl, rfl⟩) | (go_at_call 114; refine (isShown_any _ _ HT.out).mono ?_; rintro e w' ⟨rfl, rfl⟩))
  go_quiet (fail)
  go_wp2_with fail
  go_quiet (fail)
  go_wp2_with (first | (go_at_call 71; refine (in_any _ _ _ _).mono ?_; rintro e w' ⟨rfl, rfl⟩) | (go_at_call 72; refine (isField_any _ _).mono ?_; rintro e w' ⟨rfl, rfl⟩) | (go_at_call 113; refine (isName_any _ _ HT.out).mono ?_; rintro e w' ⟨rfl, rfl⟩) | (go_at_call 114; refine (isShown_any _ _ HT.out).mono ?_; rintro e w' ⟨rfl, rfl⟩))
  go_ret
  exact ⟨rfl, below_drewN (below_alloc (below_refl w) _) _⟩

set_option maxRecDepth 100000 in
theorem cp_6_h (l h : Int) (t : ByteArray) (a : Option Addr) (n : Nat) (c lv : Nat) (w : World) (ht : t.size ≤ maxLen) (_g0 : isShownB t = true) (_g1 : ¬ h = 0) (_g2 : (h != 0) = true) :
    Calls Tryz.prog 63 #[.agg #[.int .i64 6, .int .i64 0, .int .i64 l, .int .i64 h, .string t, .slice a n c], .int .i64 lv] w fun e w' => e = .returned (.int .i64 2) ∧ Below w.heap.size w w' := by
  have b1 : inB 6 1 7 = true := rfl
  have b3 : inB 6 1 3 = false := rfl
  have HT := Lib.hid ht
  clear ht
  go_enter Tryz.func63, Tryz.ntmps63
  go_wp2_with (first | (go_at_call 71; refine (in_any _ _ _ _).mono ?_; rintro e w' ⟨rfl, rfl⟩) | (go_at_call 72; refine (isField_any _ _).mono ?_; rintro e w' ⟨rfl, rfl⟩) | (go_at_call 113; refine (isName_any _ _ HT.out).mono ?_; rintro e w' ⟨rfl, rfl⟩) | (go_at_call 114; refine (isShown_any _ _ HT.out).mono ?_; rintro e w' ⟨rfl, rfl⟩))
  go_quiet (fail)
  go_wp2_with fail
  go_quiet (fail)
  go_wp2_with (first | (go_at_call 71; refine (in_any _ _ _ _).mono ?_; rintro e w' ⟨rfl, rfl⟩) | (go_at_call 72; refine (isField_any _ _).mono ?_; rintro e w' ⟨rfl, rfl⟩) | (go_at_call 113; refine (isName_any _ _ HT.out).mono ?_; rintro e w' ⟨rfl, rfl⟩) | (go_at_call 114; refine (isShown_any _ _ HT.out).mono ?_; rintro e w' ⟨rfl, rfl⟩))
  go_ret
  exact ⟨rfl, below_drewN (below_alloc (below_refl w) _) _⟩

set_option maxRecDepth 100000 in
theorem cp_6_l (l : Int) (t : ByteArray) (a : Option Addr) (n : Nat) (c lv : Nat) (w : World) (ht : t.size ≤ maxLen) (_g0 : isShownB t = true) (_g1 : ¬ l = 0) (_g2 : (l != 0) = true) :
    Calls Tryz.prog 63 #[.agg #[.int .i64 6, .int .i64 0, .int .i64 l, .int .i64 0, .string t, .slice a n c], .int .i64 lv] w fun e w' => e = .returned (.int .i64 2) ∧ Below w.heap.size w w' := by
  have b1 : inB 6 1 7 = true := rfl
  have b3 : inB 6 1 3 = false := rfl
  have HT := Lib.hid ht
  clear ht
  go_enter Tryz.func63, Tryz.ntmps63
  go_wp2_with (first | (go_at_call 71; refine (in_any _ _ _ _).mono ?_; rintro e w' ⟨rfl, rfl⟩) | (go_at_call 72; refine (isField_any _ _).mono ?_; rintro e w' ⟨rfl, rfl⟩) | (go_at_call 113; refine (isName_any _ _ HT.out).mono ?_; rintro e w' ⟨rfl, rfl⟩) | (go_at_call 114; refine (isShown_any _ _ HT.out).mono ?_; rintro e w' ⟨rfl, rfl⟩))
  go_quiet (fail)
  go_wp2_with fail
  go_quiet (fail)
  go_wp2_with (first | (go_at_call 71; refine (in_any _ _ _ _).mono ?_; rintro e w' ⟨rfl, rfl⟩) | (go_at_call 72; refine (isField_any _ _).mono ?_; rintro e w' ⟨rfl, rfl⟩) | (go_at_call 113; refine (isName_any _ _ HT.out).mono ?_; rintro e w' ⟨rfl, rfl⟩) | (go_at_call 114; refine (isShown_any _ _ HT.out).mono ?_; rintro e w' ⟨rfl, rfl⟩))
  go_ret
  exact ⟨rfl, below_drewN (below_alloc (below_refl w) _) _⟩

set_option maxRecDepth 100000 in
theorem cp_6_n0 (t : ByteArray) (a : Option Addr) (n : Nat) (c lv : Nat) (w : World) (ht : t.size ≤ maxLen) (_g0 : isShownB t = true) (_g1 : 0 < n) :
    Calls Tryz.prog 63 #[.agg #[.int .i64 6, .int .i64 0, .int .i64 0, .int .i64 0, .string t, .slice a n c], .int .i64 lv] w fun e w' => e = .returned (.int .i64 2) ∧ Below w.heap.size w w' := by
  have b1 : inB 6 1 7 = true := rfl
  have b3 : inB 6 1 3 = false := rfl
  have HT := Lib.hid ht
  clear ht
  go_enter Tryz.func63, Tryz.ntmps63
  go_wp2_with (first | (go_at_call 71; refine (in_any _ _ _ _).mono ?_; rintro e w' ⟨rfl, rfl⟩) | (go_at_call 72; refine (isField_any _ _).mono ?_; rintro e w' ⟨rfl, rfl⟩) | (go_at_call 113; refine (isName_any _ _ HT.out).mono ?_; rintro e w' ⟨rfl, rfl⟩) | (go_at_call 114; refine (isShown_any _ _ HT.out).mono ?_; rintro e w' ⟨rfl, rfl⟩))
  go_quiet (fail)
  go_wp2_with fail
  go_quiet (fail)
  go_wp2_with (first | (go_at_call 71; refine (in_any _ _ _ _).mono ?_; rintro e w' ⟨rfl, rfl⟩) | (go_at_call 72; refine (isField_any _ _).mono ?_; rintro e w' ⟨rfl, rfl⟩) | (go_at_call 113; refine (isName_any _ _ HT.out).mono ?_; rintro e w' ⟨rfl, rfl⟩) | (go_at_call 114; refine (isShown_any _ _ HT.out).mono ?_; rintro e w' ⟨rfl, rfl⟩))
  go_ret
  exact ⟨rfl, below_drewN (below_alloc (below_refl w) _) _⟩

set_option maxRecDepth 100000 in
theorem cp_6_lv (t : ByteArray) (a : Option Addr) (c lv : Nat) (w : World) (ht : t.size ≤ maxLen) (_g0 : isShownB t = true) (_g1 : 20 < lv) :
    Calls Tryz.prog 63 #[.agg #[.int .i64 6, .int .i64 0, .int .i64 0, .int .i64 0, .string t, .slice a 0 c], .int .i64 lv] w fun e w' => e = .returned (.int .i64 3) ∧ Below w.heap.size w w' := by
  have b1 : inB 6 1 7 = true := rfl
  have b3 : inB 6 1 3 = false := rfl
  have HT := Lib.hid ht
  clear ht
  go_enter Tryz.func63, Tryz.ntmps63
  go_wp2_with (first | (go_at_call 71; refine (in_any _ _ _ _).mono ?_; rintro e w' ⟨rfl, rfl⟩) | (go_at_call 72; refine (isField_any _ _).mono ?_; rintro e w' ⟨rfl, rfl⟩) | (go_at_call 113; refine (isName_any _ _ HT.out).mono ?_; rintro e w' ⟨rfl, rfl⟩) | (go_at_call 114; refine (isShown_any _ _ HT.out).mono ?_; rintro e w' ⟨rfl, rfl⟩))
  go_quiet (fail)
  go_wp2_with fail
  go_quiet (fail)
  go_wp2_with (first | (go_at_call 71; refine (in_any _ _ _ _).mono ?_; rintro e w' ⟨rfl, rfl⟩) | (go_at_call 72; refine (isField_any _ _).mono ?_; rintro e w' ⟨rfl, rfl⟩) | (go_at_call 113; refine (isName_any _ _ HT.out).mono ?_; rintro e w' ⟨rfl, rfl⟩) | (go_at_call 114; refine (isShown_any _ _ HT.out).mono ?_; rintro e w' ⟨rfl, rfl⟩))
  go_ret
  exact ⟨rfl, below_drewN (below_alloc (below_refl w) _) _⟩

set_option maxRecDepth 100000 in
theorem cp_7_fi (f l h : Int) (t : ByteArray) (a : Option Addr) (n : Nat) (c lv : Nat) (w : World) (ht : t.size ≤ maxLen) (_g0 : inB f 1 7 = false) :
    Calls Tryz.prog 63 #[.agg #[.int .i64 7, .int .i64 f, .int .i64 l, .int .i64 h, .string t, .slice a n c], .int .i64 lv] w fun e w' => e = .returned (.int .i64 7) ∧ Below w.heap.size w w' := by
  have b1 : inB 7 1 7 = true := rfl
  have b3 : inB 7 1 3 = false := rfl
  have HT := Lib.hid ht
  clear ht
  go_enter Tryz.func63, Tryz.ntmps63
  go_wp2_with (first | (go_at_call 71; refine (in_any _ _ _ _).mono ?_; rintro e w' ⟨rfl, rfl⟩) | (go_at_call 72; refine (isField_any _ _).mono ?_; rintro e w' ⟨rfl, rfl⟩) | (go_at_call 113; refine (isName_any _ _ HT.out).mono ?_; rintro e w' ⟨rfl, rfl⟩) | (go_at_call 114; refine (isShown_any _ _ HT.out).mono ?_; rintro e w' ⟨rfl, rfl⟩))
  go_quiet (fail)
  go_wp2_with fail
  go_quiet (fail)
  go_wp2_with (first | (go_at_call 71; refine (in_any _ _ _ _).mono ?_; rintro e w' ⟨rfl, rfl⟩) | (go_at_call 72; refine (isField_any _ _).mono ?_; rintro e w' ⟨rfl, rfl⟩) | (go_at_call 113; refine (isName_any _ _ HT.out).mono ?_; rintro e w' ⟨rfl, rfl⟩) | (go_at_call 114; refine (isShown_any _ _ HT.out).mono ?_; rintro e w' ⟨rfl, rfl⟩))
  go_ret
  exact ⟨rfl, below_drewN (below_alloc (below_refl w) _) _⟩

set_option maxRecDepth 100000 in
theorem cp_7_lo (f l h : Int) (t : ByteArray) (a : Option Addr) (n : Nat) (c lv : Nat) (w : World) (ht : t.size ≤ maxLen) (_g0 : inB f 1 7 = true) (_g1 : inB l (-1000000000000000) 1000000000000000 = false) :
    Calls Tryz.prog 63 #[.agg #[.int .i64 7, .int .i64 f, .int .i64 l, .int .i64 h, .string t, .slice a n c], .int .i64 lv] w fun e w' => e = .returned (.int .i64 9) ∧ Below w.heap.size w w' := by
  have b1 : inB 7 1 7 = true := rfl
  have b3 : inB 7 1 3 = false := rfl
  have HT := Lib.hid ht
  clear ht
  go_enter Tryz.func63, Tryz.ntmps63
  go_wp2_with (first | (go_at_call 71; refine (in_any _ _ _ _).mono ?_; rintro e w' ⟨rfl, rfl⟩) | (go_at_call 72; refine (isField_any _ _).mono ?_; rintro e w' ⟨rfl, rfl⟩) | (go_at_call 113; refine (isName_any _ _ HT.out).mono ?_; rintro e w' ⟨rfl, rfl⟩) | (go_at_call 114; refine (isShown_any _ _ HT.out).mono ?_; rintro e w' ⟨rfl, rfl⟩))
  go_quiet (fail)
  go_wp2_with fail
  go_quiet (fail)
  go_wp2_with (first | (go_at_call 71; refine (in_any _ _ _ _).mono ?_; rintro e w' ⟨rfl, rfl⟩) | (go_at_call 72; refine (isField_any _ _).mono ?_; rintro e w' ⟨rfl, rfl⟩) | (go_at_call 113; refine (isName_any _ _ HT.out).mono ?_; rintro e w' ⟨rfl, rfl⟩) | (go_at_call 114; refine (isShown_any _ _ HT.out).mono ?_; rintro e w' ⟨rfl, rfl⟩))
  go_ret
  exact ⟨rfl, below_drewN (below_alloc (below_refl w) _) _⟩

set_option maxRecDepth 100000 in
theorem cp_7_hi (f l h : Int) (t : ByteArray) (a : Option Addr) (n : Nat) (c lv : Nat) (w : World) (ht : t.size ≤ maxLen) (_g0 : inB f 1 7 = true) (_g1 : inB l (-1000000000000000) 1000000000000000 = true) (_g2 : inB h (-1000000000000000) 1000000000000000 = false) :
    Calls Tryz.prog 63 #[.agg #[.int .i64 7, .int .i64 f, .int .i64 l, .int .i64 h, .string t, .slice a n c], .int .i64 lv] w fun e w' => e = .returned (.int .i64 9) ∧ Below w.heap.size w w' := by
  have b1 : inB 7 1 7 = true := rfl
  have b3 : inB 7 1 3 = false := rfl
  have HT := Lib.hid ht
  clear ht
  go_enter Tryz.func63, Tryz.ntmps63
  go_wp2_with (first | (go_at_call 71; refine (in_any _ _ _ _).mono ?_; rintro e w' ⟨rfl, rfl⟩) | (go_at_call 72; refine (isField_any _ _).mono ?_; rintro e w' ⟨rfl, rfl⟩) | (go_at_call 113; refine (isName_any _ _ HT.out).mono ?_; rintro e w' ⟨rfl, rfl⟩) | (go_at_call 114; refine (isShown_any _ _ HT.out).mono ?_; rintro e w' ⟨rfl, rfl⟩))
  go_quiet (fail)
  go_wp2_with fail
  go_quiet (fail)
  go_wp2_with (first | (go_at_call 71; refine (in_any _ _ _ _).mono ?_; rintro e w' ⟨rfl, rfl⟩) | (go_at_call 72; refine (isField_any _ _).mono ?_; rintro e w' ⟨rfl, rfl⟩) | (go_at_call 113; refine (isName_any _ _ HT.out).mono ?_; rintro e w' ⟨rfl, rfl⟩) | (go_at_call 114; refine (isShown_any _ _ HT.out).mono ?_; rintro e w' ⟨rfl, rfl⟩))
  go_ret
  exact ⟨rfl, below_drewN (below_alloc (below_refl w) _) _⟩

set_option maxRecDepth 100000 in
theorem cp_7_lh (f l h : Int) (t : ByteArray) (a : Option Addr) (n : Nat) (c lv : Nat) (w : World) (ht : t.size ≤ maxLen) (_g0 : inB f 1 7 = true) (_g1 : inB l (-1000000000000000) 1000000000000000 = true) (_g2 : inB h (-1000000000000000) 1000000000000000 = true) (_g3 : h < l) :
    Calls Tryz.prog 63 #[.agg #[.int .i64 7, .int .i64 f, .int .i64 l, .int .i64 h, .string t, .slice a n c], .int .i64 lv] w fun e w' => e = .returned (.int .i64 9) ∧ Below w.heap.size w w' := by
  have b1 : inB 7 1 7 = true := rfl
  have b3 : inB 7 1 3 = false := rfl
  have HT := Lib.hid ht
  clear ht
  go_enter Tryz.func63, Tryz.ntmps63
  go_wp2_with (first | (go_at_call 71; refine (in_any _ _ _ _).mono ?_; rintro e w' ⟨rfl, rfl⟩) | (go_at_call 72; refine (isField_any _ _).mono ?_; rintro e w' ⟨rfl, rfl⟩) | (go_at_call 113; refine (isName_any _ _ HT.out).mono ?_; rintro e w' ⟨rfl, rfl⟩) | (go_at_call 114; refine (isShown_any _ _ HT.out).mono ?_; rintro e w' ⟨rfl, rfl⟩))
  go_quiet (fail)
  go_wp2_with fail
  go_quiet (fail)
  go_wp2_with (first | (go_at_call 71; refine (in_any _ _ _ _).mono ?_; rintro e w' ⟨rfl, rfl⟩) | (go_at_call 72; refine (isField_any _ _).mono ?_; rintro e w' ⟨rfl, rfl⟩) | (go_at_call 113; refine (isName_any _ _ HT.out).mono ?_; rintro e w' ⟨rfl, rfl⟩) | (go_at_call 114; refine (isShown_any _ _ HT.out).mono ?_; rintro e w' ⟨rfl, rfl⟩))
  go_ret
  exact ⟨rfl, below_drewN (below_alloc (below_refl w) _) _⟩

set_option maxRecDepth 100000 in
theorem cp_7_t (f l h : Int) (t : ByteArray) (a : Option Addr) (n : Nat) (c lv : Nat) (w : World) (ht : t.size ≤ maxLen) (_g0 : inB f 1 7 = true) (_g1 : inB l (-1000000000000000) 1000000000000000 = true) (_g2 : inB h (-1000000000000000) 1000000000000000 = true) (_g3 : l ≤ h) (_g4 : t.toList.isEmpty = false) :
    Calls Tryz.prog 63 #[.agg #[.int .i64 7, .int .i64 f, .int .i64 l, .int .i64 h, .string t, .slice a n c], .int .i64 lv] w fun e w' => e = .returned (.int .i64 2) ∧ Below w.heap.size w w' := by
  have b1 : inB 7 1 7 = true := rfl
  have b3 : inB 7 1 3 = false := rfl
  have HT := Lib.hid ht
  clear ht
  go_enter Tryz.func63, Tryz.ntmps63
  go_wp2_with (first | (go_at_call 71; refine (in_any _ _ _ _).mono ?_; rintro e w' ⟨rfl, rfl⟩) | (go_at_call 72; refine (isField_any _ _).mono ?_; rintro e w' ⟨rfl, rfl⟩) | (go_at_call 113; refine (isName_any _ _ HT.out).mono ?_; rintro e w' ⟨rfl, rfl⟩) | (go_at_call 114; refine (isShown_any _ _ HT.out).mono ?_; rintro e w' ⟨rfl, rfl⟩))
  go_quiet (fail)
  go_wp2_with fail
  go_quiet (fail)
  go_wp2_with (first | (go_at_call 71; refine (in_any _ _ _ _).mono ?_; rintro e w' ⟨rfl, rfl⟩) | (go_at_call 72; refine (isField_any _ _).mono ?_; rintro e w' ⟨rfl, rfl⟩) | (go_at_call 113; refine (isName_any _ _ HT.out).mono ?_; rintro e w' ⟨rfl, rfl⟩) | (go_at_call 114; refine (isShown_any _ _ HT.out).mono ?_; rintro e w' ⟨rfl, rfl⟩))
  go_ret
  exact ⟨rfl, below_drewN (below_alloc (below_refl w) _) _⟩

set_option maxRecDepth 100000 in
theorem cp_7_n0 (f l h : Int) (t : ByteArray) (a : Option Addr) (n : Nat) (c lv : Nat) (w : World) (ht : t.size ≤ maxLen) (_g0 : inB f 1 7 = true) (_g1 : inB l (-1000000000000000) 1000000000000000 = true) (_g2 : inB h (-1000000000000000) 1000000000000000 = true) (_g3 : l ≤ h) (_g4 : t.toList.isEmpty = true) (_g5 : 0 < n) :
    Calls Tryz.prog 63 #[.agg #[.int .i64 7, .int .i64 f, .int .i64 l, .int .i64 h, .string t, .slice a n c], .int .i64 lv] w fun e w' => e = .returned (.int .i64 2) ∧ Below w.heap.size w w' := by
  have b1 : inB 7 1 7 = true := rfl
  have b3 : inB 7 1 3 = false := rfl
  have HT := Lib.hid ht
  clear ht
  go_enter Tryz.func63, Tryz.ntmps63
  go_wp2_with (first | (go_at_call 71; refine (in_any _ _ _ _).mono ?_; rintro e w' ⟨rfl, rfl⟩) | (go_at_call 72; refine (isField_any _ _).mono ?_; rintro e w' ⟨rfl, rfl⟩) | (go_at_call 113; refine (isName_any _ _ HT.out).mono ?_; rintro e w' ⟨rfl, rfl⟩) | (go_at_call 114; refine (isShown_any _ _ HT.out).mono ?_; rintro e w' ⟨rfl, rfl⟩))
  go_quiet (fail)
  go_wp2_with fail
  go_quiet (fail)
  go_wp2_with (first | (go_at_call 71; refine (in_any _ _ _ _).mono ?_; rintro e w' ⟨rfl, rfl⟩) | (go_at_call 72; refine (isField_any _ _).mono ?_; rintro e w' ⟨rfl, rfl⟩) | (go_at_call 113; refine (isName_any _ _ HT.out).mono ?_; rintro e w' ⟨rfl, rfl⟩) | (go_at_call 114; refine (isShown_any _ _ HT.out).mono ?_; rintro e w' ⟨rfl, rfl⟩))
  go_ret
  exact ⟨rfl, below_drewN (below_alloc (below_refl w) _) _⟩

set_option maxRecDepth 100000 in
theorem cp_7_lv (f l h : Int) (t : ByteArray) (a : Option Addr) (c lv : Nat) (w : World) (ht : t.size ≤ maxLen) (_g0 : inB f 1 7 = true) (_g1 : inB l (-1000000000000000) 1000000000000000 = true) (_g2 : inB h (-1000000000000000) 1000000000000000 = true) (_g3 : l ≤ h) (_g4 : t.toList.isEmpty = true) (_g5 : 20 < lv) :
    Calls Tryz.prog 63 #[.agg #[.int .i64 7, .int .i64 f, .int .i64 l, .int .i64 h, .string t, .slice a 0 c], .int .i64 lv] w fun e w' => e = .returned (.int .i64 3) ∧ Below w.heap.size w w' := by
  have b1 : inB 7 1 7 = true := rfl
  have b3 : inB 7 1 3 = false := rfl
  have HT := Lib.hid ht
  clear ht
  go_enter Tryz.func63, Tryz.ntmps63
  go_wp2_with (first | (go_at_call 71; refine (in_any _ _ _ _).mono ?_; rintro e w' ⟨rfl, rfl⟩) | (go_at_call 72; refine (isField_any _ _).mono ?_; rintro e w' ⟨rfl, rfl⟩) | (go_at_call 113; refine (isName_any _ _ HT.out).mono ?_; rintro e w' ⟨rfl, rfl⟩) | (go_at_call 114; refine (isShown_any _ _ HT.out).mono ?_; rintro e w' ⟨rfl, rfl⟩))
  go_quiet (fail)
  go_wp2_with fail
  go_quiet (fail)
  go_wp2_with (first | (go_at_call 71; refine (in_any _ _ _ _).mono ?_; rintro e w' ⟨rfl, rfl⟩) | (go_at_call 72; refine (isField_any _ _).mono ?_; rintro e w' ⟨rfl, rfl⟩) | (go_at_call 113; refine (isName_any _ _ HT.out).mono ?_; rintro e w' ⟨rfl, rfl⟩) | (go_at_call 114; refine (isShown_any _ _ HT.out).mono ?_; rintro e w' ⟨rfl, rfl⟩))
  go_ret
  exact ⟨rfl, below_drewN (below_alloc (below_refl w) _) _⟩

set_option maxRecDepth 100000 in
theorem cp_kind (k f l h : Int) (t : ByteArray) (a : Option Addr) (n c lv : Nat) (w : World) (_g0 : inB k 1 7 = false) :
    Calls Tryz.prog 63 #[.agg #[.int .i64 k, .int .i64 f, .int .i64 l, .int .i64 h, .string t, .slice a n c], .int .i64 lv] w fun e w' => e = .returned (.int .i64 7) ∧ Below w.heap.size w w' := by
  have q4 : (k == 4) = false := by simp [inB] at *; omega
  have q5 : (k == 5) = false := by simp [inB] at *; omega
  have q6 : (k == 6) = false := by simp [inB] at *; omega
  have q7 : (k == 7) = false := by simp [inB] at *; omega
  go_enter Tryz.func63, Tryz.ntmps63
  go_wp2_with (first | (go_at_call 71; refine (in_any _ _ _ _).mono ?_; rintro e w' ⟨rfl, rfl⟩) | (go_at_call 72; refine (isField_any _ _).mono ?_; rintro e w' ⟨rfl, rfl⟩) | (go_at_call 113; refine (isName_any _ _ HT.out).mono ?_; rintro e w' ⟨rfl, rfl⟩) | (go_at_call 114; refine (isShown_any _ _ HT.out).mono ?_; rintro e w' ⟨rfl, rfl⟩))
  go_quiet (fail)
  go_wp2_with fail
  go_quiet (fail)
  go_wp2_with (first | (go_at_call 71; refine (in_any _ _ _ _).mono ?_; rintro e w' ⟨rfl, rfl⟩) | (go_at_call 72; refine (isField_any _ _).mono ?_; rintro e w' ⟨rfl, rfl⟩) | (go_at_call 113; refine (isName_any _ _ HT.out).mono ?_; rintro e w' ⟨rfl, rfl⟩) | (go_at_call 114; refine (isShown_any _ _ HT.out).mono ?_; rintro e w' ⟨rfl, rfl⟩))
  go_ret
  exact ⟨rfl, below_drewN (below_alloc (below_refl w) _) _⟩

set_option maxRecDepth 100000 in
theorem cp_1_zero (t : ByteArray) (a : Option Addr) (c lv : Nat) (w : World) (ht : t.size ≤ maxLen) (_g0 : t.toList.isEmpty = true) (_g1 : lv ≤ 20) :
    Calls Tryz.prog 63 #[.agg #[.int .i64 1, .int .i64 0, .int .i64 0, .int .i64 0, .string t, .slice a 0 c], .int .i64 lv] w fun e w' => e = .returned (.int .i64 0) ∧ Below w.heap.size w w' := by
  have b1 : inB 1 1 7 = true := rfl
  have b3 : inB 1 1 3 = true := rfl
  have HT := Lib.hid ht
  clear ht
  go_enter Tryz.func63, Tryz.ntmps63
  go_wp2_with (first | (go_at_call 71; refine (in_any _ _ _ _).mono ?_; rintro e w' ⟨rfl, rfl⟩) | (go_at_call 72; refine (isField_any _ _).mono ?_; rintro e w' ⟨rfl, rfl⟩) | (go_at_call 113; refine (isName_any _ _ HT.out).mono ?_; rintro e w' ⟨rfl, rfl⟩) | (go_at_call 114; refine (isShown_any _ _ HT.out).mono ?_; rintro e w' ⟨rfl, rfl⟩))
  go_quiet (fail)
  go_wp2_with fail
  go_quiet (fail)
  go_wp2_with (first | (go_at_call 71; refine (in_any _ _ _ _).mono ?_; rintro e w' ⟨rfl, rfl⟩) | (go_at_call 72; refine (isField_any _ _).mono ?_; rintro e w' ⟨rfl, rfl⟩) | (go_at_call 113; refine (isName_any _ _ HT.out).mono ?_; rintro e w' ⟨rfl, rfl⟩) | (go_at_call 114; refine (isShown_any _ _ HT.out).mono ?_; rintro e w' ⟨rfl, rfl⟩))
  go_loopw [12, 144] (fun _ i wr => i = .int .i64 0 ∧ Below w.heap.size w wr) (fun _ _ _ => 0)
  case atStart => exact ⟨rfl, below_drewN (below_alloc (below_refl w) _) _⟩
  case round =>
    obtain ⟨rfl, hB⟩ := hrel
    go_wp2
    go_ret
    exact ⟨rfl, hB⟩

set_option maxRecDepth 100000 in
theorem cp_2_zero (t : ByteArray) (a : Option Addr) (c lv : Nat) (w : World) (ht : t.size ≤ maxLen) (_g0 : t.toList.isEmpty = true) (_g1 : lv ≤ 20) :
    Calls Tryz.prog 63 #[.agg #[.int .i64 2, .int .i64 0, .int .i64 0, .int .i64 0, .string t, .slice a 0 c], .int .i64 lv] w fun e w' => e = .returned (.int .i64 0) ∧ Below w.heap.size w w' := by
  have b1 : inB 2 1 7 = true := rfl
  have b3 : inB 2 1 3 = true := rfl
  have HT := Lib.hid ht
  clear ht
  go_enter Tryz.func63, Tryz.ntmps63
  go_wp2_with (first | (go_at_call 71; refine (in_any _ _ _ _).mono ?_; rintro e w' ⟨rfl, rfl⟩) | (go_at_call 72; refine (isField_any _ _).mono ?_; rintro e w' ⟨rfl, rfl⟩) | (go_at_call 113; refine (isName_any _ _ HT.out).mono ?_; rintro e w' ⟨rfl, rfl⟩) | (go_at_call 114; refine (isShown_any _ _ HT.out).mono ?_; rintro e w' ⟨rfl, rfl⟩))
  go_quiet (fail)
  go_wp2_with fail
  go_quiet (fail)
  go_wp2_with (first | (go_at_call 71; refine (in_any _ _ _ _).mono ?_; rintro e w' ⟨rfl, rfl⟩) | (go_at_call 72; refine (isField_any _ _).mono ?_; rintro e w' ⟨rfl, rfl⟩) | (go_at_call 113; refine (isName_any _ _ HT.out).mono ?_; rintro e w' ⟨rfl, rfl⟩) | (go_at_call 114; refine (isShown_any _ _ HT.out).mono ?_; rintro e w' ⟨rfl, rfl⟩))
  go_loopw [12, 144] (fun _ i wr => i = .int .i64 0 ∧ Below w.heap.size w wr) (fun _ _ _ => 0)
  case atStart => exact ⟨rfl, below_drewN (below_alloc (below_refl w) _) _⟩
  case round =>
    obtain ⟨rfl, hB⟩ := hrel
    go_wp2
    go_ret
    exact ⟨rfl, hB⟩

set_option maxRecDepth 100000 in
theorem cp_4_zero (l : Int) (t : ByteArray) (a : Option Addr) (c lv : Nat) (w : World) (ht : t.size ≤ maxLen) (_g0 : inB l 1 5 = true) (_g1 : t.toList.isEmpty = true) (_g2 : lv ≤ 20) :
    Calls Tryz.prog 63 #[.agg #[.int .i64 4, .int .i64 0, .int .i64 l, .int .i64 0, .string t, .slice a 0 c], .int .i64 lv] w fun e w' => e = .returned (.int .i64 0) ∧ Below w.heap.size w w' := by
  have b1 : inB 4 1 7 = true := rfl
  have b3 : inB 4 1 3 = false := rfl
  have HT := Lib.hid ht
  clear ht
  go_enter Tryz.func63, Tryz.ntmps63
  go_wp2_with (first | (go_at_call 71; refine (in_any _ _ _ _).mono ?_; rintro e w' ⟨rfl, rfl⟩) | (go_at_call 72; refine (isField_any _ _).mono ?_; rintro e w' ⟨rfl, rfl⟩) | (go_at_call 113; refine (isName_any _ _ HT.out).mono ?_; rintro e w' ⟨rfl, rfl⟩) | (go_at_call 114; refine (isShown_any _ _ HT.out).mono ?_; rintro e w' ⟨rfl, rfl⟩))
  go_quiet (fail)
  go_wp2_with fail
  go_quiet (fail)
  go_wp2_with (first | (go_at_call 71; refine (in_any _ _ _ _).mono ?_; rintro e w' ⟨rfl, rfl⟩) | (go_at_call 72; refine (isField_any _ _).mono ?_; rintro e w' ⟨rfl, rfl⟩) | (go_at_call 113; refine (isName_any _ _ HT.out).mono ?_; rintro e w' ⟨rfl, rfl⟩) | (go_at_call 114; refine (isShown_any _ _ HT.out).mono ?_; rintro e w' ⟨rfl, rfl⟩))
  go_loopw [12, 144] (fun _ i wr => i = .int .i64 0 ∧ Below w.heap.size w wr) (fun _ _ _ => 0)
  case atStart => exact ⟨rfl, below_drewN (below_alloc (below_refl w) _) _⟩
  case round =>
    obtain ⟨rfl, hB⟩ := hrel
    go_wp2
    go_ret
    exact ⟨rfl, hB⟩

set_option maxRecDepth 100000 in
theorem cp_5_zero (t : ByteArray) (a : Option Addr) (c lv : Nat) (w : World) (ht : t.size ≤ maxLen) (_g0 : isNameB t = true) (_g1 : lv ≤ 20) :
    Calls Tryz.prog 63 #[.agg #[.int .i64 5, .int .i64 0, .int .i64 0, .int .i64 0, .string t, .slice a 0 c], .int .i64 lv] w fun e w' => e = .returned (.int .i64 0) ∧ Below w.heap.size w w' := by
  have b1 : inB 5 1 7 = true := rfl
  have b3 : inB 5 1 3 = false := rfl
  have HT := Lib.hid ht
  clear ht
  go_enter Tryz.func63, Tryz.ntmps63
  go_wp2_with (first | (go_at_call 71; refine (in_any _ _ _ _).mono ?_; rintro e w' ⟨rfl, rfl⟩) | (go_at_call 72; refine (isField_any _ _).mono ?_; rintro e w' ⟨rfl, rfl⟩) | (go_at_call 113; refine (isName_any _ _ HT.out).mono ?_; rintro e w' ⟨rfl, rfl⟩) | (go_at_call 114; refine (isShown_any _ _ HT.out).mono ?_; rintro e w' ⟨rfl, rfl⟩))
  go_quiet (fail)
  go_wp2_with fail
  go_quiet (fail)
  go_wp2_with (first | (go_at_call 71; refine (in_any _ _ _ _).mono ?_; rintro e w' ⟨rfl, rfl⟩) | (go_at_call 72; refine (isField_any _ _).mono ?_; rintro e w' ⟨rfl, rfl⟩) | (go_at_call 113; refine (isName_any _ _ HT.out).mono ?_; rintro e w' ⟨rfl, rfl⟩) | (go_at_call 114; refine (isShown_any _ _ HT.out).mono ?_; rintro e w' ⟨rfl, rfl⟩))
  go_loopw [12, 144] (fun _ i wr => i = .int .i64 0 ∧ Below w.heap.size w wr) (fun _ _ _ => 0)
  case atStart => exact ⟨rfl, below_drewN (below_alloc (below_refl w) _) _⟩
  case round =>
    obtain ⟨rfl, hB⟩ := hrel
    go_wp2
    go_ret
    exact ⟨rfl, hB⟩

set_option maxRecDepth 100000 in
theorem cp_6_zero (t : ByteArray) (a : Option Addr) (c lv : Nat) (w : World) (ht : t.size ≤ maxLen) (_g0 : isShownB t = true) (_g1 : lv ≤ 20) :
    Calls Tryz.prog 63 #[.agg #[.int .i64 6, .int .i64 0, .int .i64 0, .int .i64 0, .string t, .slice a 0 c], .int .i64 lv] w fun e w' => e = .returned (.int .i64 0) ∧ Below w.heap.size w w' := by
  have b1 : inB 6 1 7 = true := rfl
  have b3 : inB 6 1 3 = false := rfl
  have HT := Lib.hid ht
  clear ht
  go_enter Tryz.func63, Tryz.ntmps63
  go_wp2_with (first | (go_at_call 71; refine (in_any _ _ _ _).mono ?_; rintro e w' ⟨rfl, rfl⟩) | (go_at_call 72; refine (isField_any _ _).mono ?_; rintro e w' ⟨rfl, rfl⟩) | (go_at_call 113; refine (isName_any _ _ HT.out).mono ?_; rintro e w' ⟨rfl, rfl⟩) | (go_at_call 114; refine (isShown_any _ _ HT.out).mono ?_; rintro e w' ⟨rfl, rfl⟩))
  go_quiet (fail)
  go_wp2_with fail
  go_quiet (fail)
  go_wp2_with (first | (go_at_call 71; refine (in_any _ _ _ _).mono ?_; rintro e w' ⟨rfl, rfl⟩) | (go_at_call 72; refine (isField_any _ _).mono ?_; rintro e w' ⟨rfl, rfl⟩) | (go_at_call 113; refine (isName_any _ _ HT.out).mono ?_; rintro e w' ⟨rfl, rfl⟩) | (go_at_call 114; refine (isShown_any _ _ HT.out).mono ?_; rintro e w' ⟨rfl, rfl⟩))
  go_loopw [12, 144] (fun _ i wr => i = .int .i64 0 ∧ Below w.heap.size w wr) (fun _ _ _ => 0)
  case atStart => exact ⟨rfl, below_drewN (below_alloc (below_refl w) _) _⟩
  case round =>
    obtain ⟨rfl, hB⟩ := hrel
    go_wp2
    go_ret
    exact ⟨rfl, hB⟩

set_option maxRecDepth 100000 in
theorem cp_7_zero (f l h : Int) (t : ByteArray) (a : Option Addr) (c lv : Nat) (w : World) (ht : t.size ≤ maxLen) (_g0 : inB f 1 7 = true) (_g1 : inB l (-1000000000000000) 1000000000000000 = true) (_g2 : inB h (-1000000000000000) 1000000000000000 = true) (_g3 : l ≤ h) (_g4 : t.toList.isEmpty = true) (_g5 : lv ≤ 20) :
    Calls Tryz.prog 63 #[.agg #[.int .i64 7, .int .i64 f, .int .i64 l, .int .i64 h, .string t, .slice a 0 c], .int .i64 lv] w fun e w' => e = .returned (.int .i64 0) ∧ Below w.heap.size w w' := by
  have b1 : inB 7 1 7 = true := rfl
  have b3 : inB 7 1 3 = false := rfl
  have HT := Lib.hid ht
  clear ht
  go_enter Tryz.func63, Tryz.ntmps63
  go_wp2_with (first | (go_at_call 71; refine (in_any _ _ _ _).mono ?_; rintro e w' ⟨rfl, rfl⟩) | (go_at_call 72; refine (isField_any _ _).mono ?_; rintro e w' ⟨rfl, rfl⟩) | (go_at_call 113; refine (isName_any _ _ HT.out).mono ?_; rintro e w' ⟨rfl, rfl⟩) | (go_at_call 114; refine (isShown_any _ _ HT.out).mono ?_; rintro e w' ⟨rfl, rfl⟩))
  go_quiet (fail)
  go_wp2_with fail
  go_quiet (fail)
  go_wp2_with (first | (go_at_call 71; refine (in_any _ _ _ _).mono ?_; rintro e w' ⟨rfl, rfl⟩) | (go_at_call 72; refine (isField_any _ _).mono ?_; rintro e w' ⟨rfl, rfl⟩) | (go_at_call 113; refine (isName_any _ _ HT.out).mono ?_; rintro e w' ⟨rfl, rfl⟩) | (go_at_call 114; refine (isShown_any _ _ HT.out).mono ?_; rintro e w' ⟨rfl, rfl⟩))
  go_loopw [12, 144] (fun _ i wr => i = .int .i64 0 ∧ Below w.heap.size w wr) (fun _ _ _ => 0)
  case atStart => exact ⟨rfl, below_drewN (below_alloc (below_refl w) _) _⟩
  case round =>
    obtain ⟨rfl, hB⟩ := hrel
    go_wp2
    go_ret
    exact ⟨rfl, hB⟩

set_option maxRecDepth 100000 in
set_option maxHeartbeats 1000000 in
theorem cp_1_loop (t : ByteArray) (b off : Nat) (cap : Nat) (ks : List Cd) (kv : Nat → Sl) (lv : Nat) (w : World)
    (_g3 : t.toList.isEmpty = true) (_g4 : lv ≤ 20) (hb : b < w.heap.size) (hl : ks.length ≤ 9223372036854775807)
    (h6 : ∀ i d, ks[i]? = some d → SixAt w b (off + i * 6) d (kv i)) (hk : KidsOk w ks kv lv) :
    Calls Tryz.prog 63 #[.agg #[.int .i64 1, .int .i64 0, .int .i64 0, .int .i64 0, .string t, .slice (some ⟨b, off, none⟩) ks.length cap], .int .i64 lv] w
      fun e w' => e = .returned (.int .i64 (chkList (lv + 1) ks)) ∧ Below w.heap.size w w' := by
  have b1 : inB 1 1 7 = true := rfl
  have b3 : inB 1 1 3 = true := rfl
  go_enter Tryz.func63, Tryz.ntmps63
  go_wp2_with (first | (go_at_call 71; refine (in_any _ _ _ _).mono ?_; rintro e w' ⟨rfl, rfl⟩))
  go_quiet (fail)
  go_wp2_with fail
  go_quiet (fail)
  go_wp2_with (first | (go_at_call 71; refine (in_any _ _ _ _).mono ?_; rintro e w' ⟨rfl, rfl⟩))
  go_loopw [12, 144] (fun _ i wr => ∃ j : Nat, j ≤ ks.length ∧ chkList (lv + 1) (ks.take j) = 0 ∧ i = .int .i64 j ∧ Below w.heap.size w wr) (fun _ i _ => ks.length - (intOf i).toNat)
  case atStart => exact ⟨0, by omega, rfl, rfl, below_drewN (below_alloc (below_refl w) _) _⟩
  case round =>
    obtain ⟨j, hj, hz, rfl, hB⟩ := hrel
    by_cases hlt : j < ks.length
    · obtain ⟨d, hd⟩ : ∃ d, ks[j]? = some d := ⟨_, List.getElem?_eq_getElem hlt⟩
      obtain ⟨c0, c1, c2, c3, c4, c5⟩ := (h6 j d hd).move (hB.block b hb)
      have HT := Lib.hid (chkList_zero_take hd hz)
      have HI := Lib.hid (hk j d hd)
      clear hk h6 hd hz
      cases hc : decide (chkPart (lv + 1) d = 0)
      all_goals
        have hc2 := hc
        simp only [decide_eq_true_eq, decide_eq_false_iff_not] at hc2
        first
          | have hc3 : (chkPart (lv + 1) d != 0) = true := by simpa using hc2
          | have hc3 : (chkPart (lv + 1) d != 0) = false := by simpa using hc2
        have HC := Lib.hid hc2
        clear hc hc2
        go_wp2_with fail
        refine (HI.out _ (below_alloc hB _)).mono ?_
        rintro e w2 ⟨rfl, hb2⟩
        go_wp2_with fail
      · go_ret
        exact ⟨ret_int (HT.out.1 HC.out).symm, below_trans (below_alloc hB _) hb2⟩
      · go_roundw
        case rel => exact ⟨j + 1, by omega, HT.out.2 HC.out, by go_num, below_trans (below_alloc hB _) hb2⟩
        case measure => simp [intOf]; omega
    · obtain rfl : j = ks.length := by omega
      clear hj
      have HZ := Lib.hid hz
      clear hz
      go_wp2
      go_ret
      exact ⟨ret_int (by have := HZ.out; rw [List.take_length] at this; omega), hB⟩

set_option maxRecDepth 100000 in
set_option maxHeartbeats 1000000 in
theorem cp_2_loop (t : ByteArray) (b off : Nat) (cap : Nat) (ks : List Cd) (kv : Nat → Sl) (lv : Nat) (w : World)
    (_g3 : t.toList.isEmpty = true) (_g4 : lv ≤ 20) (hb : b < w.heap.size) (hl : ks.length ≤ 9223372036854775807)
    (h6 : ∀ i d, ks[i]? = some d → SixAt w b (off + i * 6) d (kv i)) (hk : KidsOk w ks kv lv) :
    Calls Tryz.prog 63 #[.agg #[.int .i64 2, .int .i64 0, .int .i64 0, .int .i64 0, .string t, .slice (some ⟨b, off, none⟩) ks.length cap], .int .i64 lv] w
      fun e w' => e = .returned (.int .i64 (chkList (lv + 1) ks)) ∧ Below w.heap.size w w' := by
  have b1 : inB 2 1 7 = true := rfl
  have b3 : inB 2 1 3 = true := rfl
  go_enter Tryz.func63, Tryz.ntmps63
  go_wp2_with (first | (go_at_call 71; refine (in_any _ _ _ _).mono ?_; rintro e w' ⟨rfl, rfl⟩))
  go_quiet (fail)
  go_wp2_with fail
  go_quiet (fail)
  go_wp2_with (first | (go_at_call 71; refine (in_any _ _ _ _).mono ?_; rintro e w' ⟨rfl, rfl⟩))
  go_loopw [12, 144] (fun _ i wr => ∃ j : Nat, j ≤ ks.length ∧ chkList (lv + 1) (ks.take j) = 0 ∧ i = .int .i64 j ∧ Below w.heap.size w wr) (fun _ i _ => ks.length - (intOf i).toNat)
  case atStart => exact ⟨0, by omega, rfl, rfl, below_drewN (below_alloc (below_refl w) _) _⟩
  case round =>
    obtain ⟨j, hj, hz, rfl, hB⟩ := hrel
    by_cases hlt : j < ks.length
    · obtain ⟨d, hd⟩ : ∃ d, ks[j]? = some d := ⟨_, List.getElem?_eq_getElem hlt⟩
      obtain ⟨c0, c1, c2, c3, c4, c5⟩ := (h6 j d hd).move (hB.block b hb)
      have HT := Lib.hid (chkList_zero_take hd hz)
      have HI := Lib.hid (hk j d hd)
      clear hk h6 hd hz
      cases hc : decide (chkPart (lv + 1) d = 0)
      all_goals
        have hc2 := hc
        simp only [decide_eq_true_eq, decide_eq_false_iff_not] at hc2
        first
          | have hc3 : (chkPart (lv + 1) d != 0) = true := by simpa using hc2
          | have hc3 : (chkPart (lv + 1) d != 0) = false := by simpa using hc2
        have HC := Lib.hid hc2
        clear hc hc2
        go_wp2_with fail
        refine (HI.out _ (below_alloc hB _)).mono ?_
        rintro e w2 ⟨rfl, hb2⟩
        go_wp2_with fail
      · go_ret
        exact ⟨ret_int (HT.out.1 HC.out).symm, below_trans (below_alloc hB _) hb2⟩
      · go_roundw
        case rel => exact ⟨j + 1, by omega, HT.out.2 HC.out, by go_num, below_trans (below_alloc hB _) hb2⟩
        case measure => simp [intOf]; omega
    · obtain rfl : j = ks.length := by omega
      clear hj
      have HZ := Lib.hid hz
      clear hz
      go_wp2
      go_ret
      exact ⟨ret_int (by have := HZ.out; rw [List.take_length] at this; omega), hB⟩

set_option maxRecDepth 100000 in
set_option maxHeartbeats 1000000 in
theorem cp_3_loop (t : ByteArray) (b off : Nat) (cap : Nat) (ks : List Cd) (kv : Nat → Sl) (lv : Nat) (w : World)
    (_g3 : t.toList.isEmpty = true) (_g4 : lv ≤ 20) (_g5 : ((ks.length : Int) != 1) = false) (hb : b < w.heap.size) (hl : ks.length ≤ 9223372036854775807)
    (h6 : ∀ i d, ks[i]? = some d → SixAt w b (off + i * 6) d (kv i)) (hk : KidsOk w ks kv lv) :
    Calls Tryz.prog 63 #[.agg #[.int .i64 3, .int .i64 0, .int .i64 0, .int .i64 0, .string t, .slice (some ⟨b, off, none⟩) ks.length cap], .int .i64 lv] w
      fun e w' => e = .returned (.int .i64 (chkList (lv + 1) ks)) ∧ Below w.heap.size w w' := by
  have b1 : inB 3 1 7 = true := rfl
  have b3 : inB 3 1 3 = true := rfl
  go_enter Tryz.func63, Tryz.ntmps63
  go_wp2_with (first | (go_at_call 71; refine (in_any _ _ _ _).mono ?_; rintro e w' ⟨rfl, rfl⟩))
  go_quiet (fail)
  go_wp2_with fail
  go_quiet (fail)
  go_wp2_with (first | (go_at_call 71; refine (in_any _ _ _ _).mono ?_; rintro e w' ⟨rfl, rfl⟩))
  go_loopw [12, 144] (fun _ i wr => ∃ j : Nat, j ≤ ks.length ∧ chkList (lv + 1) (ks.take j) = 0 ∧ i = .int .i64 j ∧ Below w.heap.size w wr) (fun _ i _ => ks.length - (intOf i).toNat)
  case atStart => exact ⟨0, by omega, rfl, rfl, below_drewN (below_alloc (below_refl w) _) _⟩
  case round =>
    obtain ⟨j, hj, hz, rfl, hB⟩ := hrel
    by_cases hlt : j < ks.length
    · obtain ⟨d, hd⟩ : ∃ d, ks[j]? = some d := ⟨_, List.getElem?_eq_getElem hlt⟩
      obtain ⟨c0, c1, c2, c3, c4, c5⟩ := (h6 j d hd).move (hB.block b hb)
      have HT := Lib.hid (chkList_zero_take hd hz)
      have HI := Lib.hid (hk j d hd)
      clear hk h6 hd hz
      cases hc : decide (chkPart (lv + 1) d = 0)
      all_goals
        have hc2 := hc
        simp only [decide_eq_true_eq, decide_eq_false_iff_not] at hc2
        first
          | have hc3 : (chkPart (lv + 1) d != 0) = true := by simpa using hc2
          | have hc3 : (chkPart (lv + 1) d != 0) = false := by simpa using hc2
        have HC := Lib.hid hc2
        clear hc hc2
        go_wp2_with fail
        refine (HI.out _ (below_alloc hB _)).mono ?_
        rintro e w2 ⟨rfl, hb2⟩
        go_wp2_with fail
      · go_ret
        exact ⟨ret_int (HT.out.1 HC.out).symm, below_trans (below_alloc hB _) hb2⟩
      · go_roundw
        case rel => exact ⟨j + 1, by omega, HT.out.2 HC.out, by go_num, below_trans (below_alloc hB _) hb2⟩
        case measure => simp [intOf]; omega
    · obtain rfl : j = ks.length := by omega
      clear hj
      have HZ := Lib.hid hz
      clear hz
      go_wp2
      go_ret
      exact ⟨ret_int (by have := HZ.out; rw [List.take_length] at this; omega), hB⟩

end Go.Proofs.YtbdbmpmijmmbeaaGreatDoor
