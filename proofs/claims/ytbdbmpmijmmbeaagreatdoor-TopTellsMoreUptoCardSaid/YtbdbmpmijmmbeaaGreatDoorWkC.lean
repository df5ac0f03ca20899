/- The function checkPart of the package ask says what chkPart says; CheckCond says chkCond. -/
import Derived.Test.YtbdbmpmijmmbeaaGreatDoorWkB
namespace Go.Proofs.YtbdbmpmijmmbeaaGreatDoor
open Go.RowKit

theorem emptyB_eq (t : ByteArray) : emptyB t = t.toList.isEmpty := by rw [ByteArray.toList_eq]; rfl
theorem to_int {f : FuncId} {args : Array Value} {w : World} {c c' : Int} (h : Calls Tryz.prog f args w fun e w' => e = .returned (.int .i64 c) ∧ Below w.heap.size w w') (e : c = c') :
    Calls Tryz.prog f args w fun e w' => e = .returned (.int .i64 c') ∧ Below w.heap.size w w' := e ▸ h

theorem in17_1 : inB 1 1 7 = true := by decide
theorem in13_1 : inB 1 1 3 = true := by decide
theorem in17_2 : inB 2 1 7 = true := by decide
theorem in13_2 : inB 2 1 3 = true := by decide
theorem in17_3 : inB 3 1 7 = true := by decide
theorem in13_3 : inB 3 1 3 = true := by decide
theorem in17_4 : inB 4 1 7 = true := by decide
theorem in13_4 : inB 4 1 3 = false := by decide
theorem in17_5 : inB 5 1 7 = true := by decide
theorem in13_5 : inB 5 1 3 = false := by decide
theorem in17_6 : inB 6 1 7 = true := by decide
theorem in13_6 : inB 6 1 3 = false := by decide
theorem in17_7 : inB 7 1 7 = true := by decide
theorem in13_7 : inB 7 1 3 = false := by decide

theorem k_cases (k : Int) : inB k 1 7 = false ∨ k = 1 ∨ k = 2 ∨ k = 3 ∨ k = 4 ∨ k = 5 ∨ k = 6 ∨ k = 7 := by
  by_cases h : 1 ≤ k ∧ k ≤ 7
  · omega
  · left; unfold inB; rw [Bool.and_eq_false_iff]; simp; omega
theorem zero_of_top {lv : Nat} {k f l h : Int} {t : ByteArray} {n : Nat} (hk : k = 1 ∨ k = 2 ∨ k = 3) (hz : chkTop lv k f l h t n = 0) : f = 0 ∧ l = 0 ∧ h = 0 := by
  by_cases hf : f = 0
  · by_cases hl : l = 0
    · by_cases hh : h = 0
      · exact ⟨hf, hl, hh⟩
      · exfalso; rcases hk with rfl | rfl | rfl <;> simp [chkTop, inB, hf, hh] at hz
    · by_cases hh : h = 0
      · exfalso; rcases hk with rfl | rfl | rfl <;> simp [chkTop, inB, hf, hh, hl] at hz
      · exfalso; rcases hk with rfl | rfl | rfl <;> simp [chkTop, inB, hf, hh] at hz
  · exfalso; rcases hk with rfl | rfl | rfl <;> simp [chkTop, inB, hf] at hz

theorem cpk_1 (f l h : Int) (t : ByteArray) (ks : List Cd) (s : Sl) (lv : Nat) (w : World) (ht : t.size ≤ maxLen) (hs : s.n = ks.length)
    (hgo : chkTop lv 1 f l h t ks.length = 0 → t.toList.isEmpty = true → lv ≤ 20 → Calls Tryz.prog 63 #[.agg #[.int .i64 1, .int .i64 f, .int .i64 l, .int .i64 h, .string t, .slice s.a s.n s.c], .int .i64 lv] w fun e w' => e = .returned (.int .i64 (chkList (lv + 1) ks)) ∧ Below w.heap.size w w') :
    Calls Tryz.prog 63 #[.agg #[.int .i64 1, .int .i64 f, .int .i64 l, .int .i64 h, .string t, .slice s.a s.n s.c], .int .i64 lv] w fun e w' => e = .returned (.int .i64 (chkPart lv (.mk 1 f l h t ks))) ∧ Below w.heap.size w w' := by
  by_cases h_f : f = 0
  rotate_left
  · exact to_int (cp_1_f f l h t s.a s.n s.c lv w ht h_f (by simpa using h_f)) (by simp [chkPart, chkTop, emptyB_eq, in17_1, in13_1, h_f])
  subst h_f
  by_cases h_h : h = 0
  rotate_left
  · exact to_int (cp_1_h l h t s.a s.n s.c lv w ht h_h (by simpa using h_h)) (by simp [chkPart, chkTop, emptyB_eq, in17_1, in13_1, h_h])
  subst h_h
  by_cases h_l : l = 0
  rotate_left
  · exact to_int (cp_1_l l t s.a s.n s.c lv w ht h_l (by simpa using h_l)) (by simp [chkPart, chkTop, emptyB_eq, in17_1, in13_1, h_l])
  subst h_l
  cases h_t : t.toList.isEmpty
  · exact to_int (cp_1_t  t s.a s.n s.c lv w ht h_t) (by simp [chkPart, chkTop, emptyB_eq, in17_1, in13_1, h_t])
  by_cases h_v : 20 < lv
  · exact to_int (cp_1_lv  t s.a s.n s.c lv w ht h_t h_v) (by simp [chkPart, chkTop, emptyB_eq, in17_1, in13_1, h_t, h_v])
  have hz : chkTop lv 1 0 0 0 t ks.length = 0 := by simp [chkPart, chkTop, emptyB_eq, in17_1, in13_1, h_t, h_v]
  exact to_int (hgo hz h_t (by omega)) (by rw [chkPart, if_neg (by rw [hz]; omega)])

theorem cpk_2 (f l h : Int) (t : ByteArray) (ks : List Cd) (s : Sl) (lv : Nat) (w : World) (ht : t.size ≤ maxLen) (hs : s.n = ks.length)
    (hgo : chkTop lv 2 f l h t ks.length = 0 → t.toList.isEmpty = true → lv ≤ 20 → Calls Tryz.prog 63 #[.agg #[.int .i64 2, .int .i64 f, .int .i64 l, .int .i64 h, .string t, .slice s.a s.n s.c], .int .i64 lv] w fun e w' => e = .returned (.int .i64 (chkList (lv + 1) ks)) ∧ Below w.heap.size w w') :
    Calls Tryz.prog 63 #[.agg #[.int .i64 2, .int .i64 f, .int .i64 l, .int .i64 h, .string t, .slice s.a s.n s.c], .int .i64 lv] w fun e w' => e = .returned (.int .i64 (chkPart lv (.mk 2 f l h t ks))) ∧ Below w.heap.size w w' := by
  by_cases h_f : f = 0
  rotate_left
  · exact to_int (cp_2_f f l h t s.a s.n s.c lv w ht h_f (by simpa using h_f)) (by simp [chkPart, chkTop, emptyB_eq, in17_2, in13_2, h_f])
  subst h_f
  by_cases h_h : h = 0
  rotate_left
  · exact to_int (cp_2_h l h t s.a s.n s.c lv w ht h_h (by simpa using h_h)) (by simp [chkPart, chkTop, emptyB_eq, in17_2, in13_2, h_h])
  subst h_h
  by_cases h_l : l = 0
  rotate_left
  · exact to_int (cp_2_l l t s.a s.n s.c lv w ht h_l (by simpa using h_l)) (by simp [chkPart, chkTop, emptyB_eq, in17_2, in13_2, h_l])
  subst h_l
  cases h_t : t.toList.isEmpty
  · exact to_int (cp_2_t  t s.a s.n s.c lv w ht h_t) (by simp [chkPart, chkTop, emptyB_eq, in17_2, in13_2, h_t])
  by_cases h_v : 20 < lv
  · exact to_int (cp_2_lv  t s.a s.n s.c lv w ht h_t h_v) (by simp [chkPart, chkTop, emptyB_eq, in17_2, in13_2, h_t, h_v])
  have hz : chkTop lv 2 0 0 0 t ks.length = 0 := by simp [chkPart, chkTop, emptyB_eq, in17_2, in13_2, h_t, h_v]
  exact to_int (hgo hz h_t (by omega)) (by rw [chkPart, if_neg (by rw [hz]; omega)])

theorem cpk_3 (f l h : Int) (t : ByteArray) (ks : List Cd) (s : Sl) (lv : Nat) (w : World) (ht : t.size ≤ maxLen) (hs : s.n = ks.length)
    (hgo : chkTop lv 3 f l h t ks.length = 0 → t.toList.isEmpty = true → lv ≤ 20 → ks.length = 1 → Calls Tryz.prog 63 #[.agg #[.int .i64 3, .int .i64 f, .int .i64 l, .int .i64 h, .string t, .slice s.a s.n s.c], .int .i64 lv] w fun e w' => e = .returned (.int .i64 (chkList (lv + 1) ks)) ∧ Below w.heap.size w w') :
    Calls Tryz.prog 63 #[.agg #[.int .i64 3, .int .i64 f, .int .i64 l, .int .i64 h, .string t, .slice s.a s.n s.c], .int .i64 lv] w fun e w' => e = .returned (.int .i64 (chkPart lv (.mk 3 f l h t ks))) ∧ Below w.heap.size w w' := by
  by_cases h_f : f = 0
  rotate_left
  · exact to_int (cp_3_f f l h t s.a s.n s.c lv w ht h_f (by simpa using h_f)) (by simp [chkPart, chkTop, emptyB_eq, in17_3, in13_3, h_f])
  subst h_f
  by_cases h_h : h = 0
  rotate_left
  · exact to_int (cp_3_h l h t s.a s.n s.c lv w ht h_h (by simpa using h_h)) (by simp [chkPart, chkTop, emptyB_eq, in17_3, in13_3, h_h])
  subst h_h
  by_cases h_l : l = 0
  rotate_left
  · exact to_int (cp_3_l l t s.a s.n s.c lv w ht h_l (by simpa using h_l)) (by simp [chkPart, chkTop, emptyB_eq, in17_3, in13_3, h_l])
  subst h_l
  cases h_t : t.toList.isEmpty
  · exact to_int (cp_3_t  t s.a s.n s.c lv w ht h_t) (by simp [chkPart, chkTop, emptyB_eq, in17_3, in13_3, h_t])
  by_cases h_n : ks.length = 1
  rotate_left
  · exact to_int (cp_3_n1  t s.a s.n s.c lv w ht h_t (by omega) (by rw [bne_iff_ne]; omega)) (by simp [chkPart, chkTop, emptyB_eq, in17_3, in13_3, h_t, h_n])
  have hs1 : s.n = 1 := by omega
  rw [hs1] at hgo ⊢
  by_cases h_v : 20 < lv
  · exact to_int (cp_3_lv  t s.a s.c lv w ht h_t h_v) (by simp [chkPart, chkTop, emptyB_eq, in17_3, in13_3, h_t, h_n, h_v])
  have hz : chkTop lv 3 0 0 0 t ks.length = 0 := by simp [chkPart, chkTop, emptyB_eq, in17_3, in13_3, h_t, h_n, h_v]
  exact to_int (hgo hz h_t (by omega) h_n) (by rw [chkPart, if_neg (by rw [hz]; omega)])

theorem cpk_4 (f l h : Int) (t : ByteArray) (ks : List Cd) (s : Sl) (lv : Nat) (w : World) (ht : t.size ≤ maxLen) (hs : s.n = ks.length) :
    Calls Tryz.prog 63 #[.agg #[.int .i64 4, .int .i64 f, .int .i64 l, .int .i64 h, .string t, .slice s.a s.n s.c], .int .i64 lv] w fun e w' => e = .returned (.int .i64 (chkPart lv (.mk 4 f l h t ks))) ∧ Below w.heap.size w w' := by
  cases h_sp : inB l 1 5
  · exact to_int (cp_4_sp f l h t s.a s.n s.c lv w ht h_sp) (by simp [chkPart, chkTop, emptyB_eq, in17_4, in13_4, h_sp])
  by_cases h_f : f = 0
  rotate_left
  · exact to_int (cp_4_f f l h t s.a s.n s.c lv w ht h_sp h_f (by simpa using h_f)) (by simp [chkPart, chkTop, emptyB_eq, in17_4, in13_4, h_sp, h_f])
  subst h_f
  by_cases h_h : h = 0
  rotate_left
  · exact to_int (cp_4_h l h t s.a s.n s.c lv w ht h_sp h_h (by simpa using h_h)) (by simp [chkPart, chkTop, emptyB_eq, in17_4, in13_4, h_sp, h_h])
  subst h_h
  cases h_t : t.toList.isEmpty
  · exact to_int (cp_4_t l t s.a s.n s.c lv w ht h_sp h_t) (by simp [chkPart, chkTop, emptyB_eq, in17_4, in13_4, h_sp, h_t])
  by_cases h_n : 0 < ks.length
  · exact to_int (cp_4_n0 l t s.a s.n s.c lv w ht h_sp h_t (by omega)) (by simp [chkPart, chkTop, emptyB_eq, in17_4, in13_4, h_sp, h_t, h_n])
  obtain rfl : ks = [] := List.eq_nil_of_length_eq_zero (by omega)
  simp only [List.length_nil] at hs
  rw [hs]
  by_cases h_v : 20 < lv
  · exact to_int (cp_4_lv l t s.a s.c lv w ht h_sp h_t h_v) (by simp [chkPart, chkTop, emptyB_eq, in17_4, in13_4, h_sp, h_t, h_v])
  exact to_int (cp_4_zero l t s.a s.c lv w ht h_sp h_t (by omega)) (by simp [chkPart, chkTop, emptyB_eq, in17_4, in13_4, h_sp, h_t, h_v, chkList])

theorem cpk_5 (f l h : Int) (t : ByteArray) (ks : List Cd) (s : Sl) (lv : Nat) (w : World) (ht : t.size ≤ maxLen) (hs : s.n = ks.length) :
    Calls Tryz.prog 63 #[.agg #[.int .i64 5, .int .i64 f, .int .i64 l, .int .i64 h, .string t, .slice s.a s.n s.c], .int .i64 lv] w fun e w' => e = .returned (.int .i64 (chkPart lv (.mk 5 f l h t ks))) ∧ Below w.heap.size w w' := by
  cases h_nm : isNameB t
  · exact to_int (cp_5_nm f l h t s.a s.n s.c lv w ht h_nm) (by simp [chkPart, chkTop, emptyB_eq, in17_5, in13_5, h_nm])
  by_cases h_f : f = 0
  rotate_left
  · exact to_int (cp_5_f f l h t s.a s.n s.c lv w ht h_nm h_f (by simpa using h_f)) (by simp [chkPart, chkTop, emptyB_eq, in17_5, in13_5, h_nm, h_f])
  subst h_f
  by_cases h_h : h = 0
  rotate_left
  · exact to_int (cp_5_h l h t s.a s.n s.c lv w ht h_nm h_h (by simpa using h_h)) (by simp [chkPart, chkTop, emptyB_eq, in17_5, in13_5, h_nm, h_h])
  subst h_h
  by_cases h_l : l = 0
  rotate_left
  · exact to_int (cp_5_l l t s.a s.n s.c lv w ht h_nm h_l (by simpa using h_l)) (by simp [chkPart, chkTop, emptyB_eq, in17_5, in13_5, h_nm, h_l])
  subst h_l
  by_cases h_n : 0 < ks.length
  · exact to_int (cp_5_n0  t s.a s.n s.c lv w ht h_nm (by omega)) (by simp [chkPart, chkTop, emptyB_eq, in17_5, in13_5, h_nm, h_n])
  obtain rfl : ks = [] := List.eq_nil_of_length_eq_zero (by omega)
  simp only [List.length_nil] at hs
  rw [hs]
  by_cases h_v : 20 < lv
  · exact to_int (cp_5_lv  t s.a s.c lv w ht h_nm h_v) (by simp [chkPart, chkTop, emptyB_eq, in17_5, in13_5, h_nm, h_v])
  exact to_int (cp_5_zero  t s.a s.c lv w ht h_nm (by omega)) (by simp [chkPart, chkTop, emptyB_eq, in17_5, in13_5, h_nm, h_v, chkList])

theorem cpk_6 (f l h : Int) (t : ByteArray) (ks : List Cd) (s : Sl) (lv : Nat) (w : World) (ht : t.size ≤ maxLen) (hs : s.n = ks.length) :
    Calls Tryz.prog 63 #[.agg #[.int .i64 6, .int .i64 f, .int .i64 l, .int .i64 h, .string t, .slice s.a s.n s.c], .int .i64 lv] w fun e w' => e = .returned (.int .i64 (chkPart lv (.mk 6 f l h t ks))) ∧ Below w.heap.size w w' := by
  cases h_sh : isShownB t
  · exact to_int (cp_6_sh f l h t s.a s.n s.c lv w ht h_sh) (by simp [chkPart, chkTop, emptyB_eq, in17_6, in13_6, h_sh])
  by_cases h_f : f = 0
  rotate_left
  · exact to_int (cp_6_f f l h t s.a s.n s.c lv w ht h_sh h_f (by simpa using h_f)) (by simp [chkPart, chkTop, emptyB_eq, in17_6, in13_6, h_sh, h_f])
  subst h_f
  by_cases h_h : h = 0
  rotate_left
  · exact to_int (cp_6_h l h t s.a s.n s.c lv w ht h_sh h_h (by simpa using h_h)) (by simp [chkPart, chkTop, emptyB_eq, in17_6, in13_6, h_sh, h_h])
  subst h_h
  by_cases h_l : l = 0
  rotate_left
  · exact to_int (cp_6_l l t s.a s.n s.c lv w ht h_sh h_l (by simpa using h_l)) (by simp [chkPart, chkTop, emptyB_eq, in17_6, in13_6, h_sh, h_l])
  subst h_l
  by_cases h_n : 0 < ks.length
  · exact to_int (cp_6_n0  t s.a s.n s.c lv w ht h_sh (by omega)) (by simp [chkPart, chkTop, emptyB_eq, in17_6, in13_6, h_sh, h_n])
  obtain rfl : ks = [] := List.eq_nil_of_length_eq_zero (by omega)
  simp only [List.length_nil] at hs
  rw [hs]
  by_cases h_v : 20 < lv
  · exact to_int (cp_6_lv  t s.a s.c lv w ht h_sh h_v) (by simp [chkPart, chkTop, emptyB_eq, in17_6, in13_6, h_sh, h_v])
  exact to_int (cp_6_zero  t s.a s.c lv w ht h_sh (by omega)) (by simp [chkPart, chkTop, emptyB_eq, in17_6, in13_6, h_sh, h_v, chkList])

theorem cpk_7 (f l h : Int) (t : ByteArray) (ks : List Cd) (s : Sl) (lv : Nat) (w : World) (ht : t.size ≤ maxLen) (hs : s.n = ks.length) :
    Calls Tryz.prog 63 #[.agg #[.int .i64 7, .int .i64 f, .int .i64 l, .int .i64 h, .string t, .slice s.a s.n s.c], .int .i64 lv] w fun e w' => e = .returned (.int .i64 (chkPart lv (.mk 7 f l h t ks))) ∧ Below w.heap.size w w' := by
  cases h_fi : inB f 1 7
  · exact to_int (cp_7_fi f l h t s.a s.n s.c lv w ht h_fi) (by simp [chkPart, chkTop, emptyB_eq, in17_7, in13_7, h_fi])
  cases h_lo : inB l (-1000000000000000) 1000000000000000
  · exact to_int (cp_7_lo f l h t s.a s.n s.c lv w ht h_fi h_lo) (by simp [chkPart, chkTop, emptyB_eq, in17_7, in13_7, h_fi, h_lo])
  cases h_hi : inB h (-1000000000000000) 1000000000000000
  · exact to_int (cp_7_hi f l h t s.a s.n s.c lv w ht h_fi h_lo h_hi) (by simp [chkPart, chkTop, emptyB_eq, in17_7, in13_7, h_fi, h_lo, h_hi])
  by_cases h_lh : h < l
  · exact to_int (cp_7_lh f l h t s.a s.n s.c lv w ht h_fi h_lo h_hi h_lh) (by simp [chkPart, chkTop, emptyB_eq, in17_7, in13_7, h_fi, h_lo, h_hi, h_lh])
  cases h_t : t.toList.isEmpty
  · exact to_int (cp_7_t f l h t s.a s.n s.c lv w ht h_fi h_lo h_hi (by omega) h_t) (by simp [chkPart, chkTop, emptyB_eq, in17_7, in13_7, h_fi, h_lo, h_hi, h_lh, h_t])
  by_cases h_n : 0 < ks.length
  · exact to_int (cp_7_n0 f l h t s.a s.n s.c lv w ht h_fi h_lo h_hi (by omega) h_t (by omega)) (by simp [chkPart, chkTop, emptyB_eq, in17_7, in13_7, h_fi, h_lo, h_hi, h_lh, h_t, h_n])
  obtain rfl : ks = [] := List.eq_nil_of_length_eq_zero (by omega)
  simp only [List.length_nil] at hs
  rw [hs]
  by_cases h_v : 20 < lv
  · exact to_int (cp_7_lv f l h t s.a s.c lv w ht h_fi h_lo h_hi (by omega) h_t h_v) (by simp [chkPart, chkTop, emptyB_eq, in17_7, in13_7, h_fi, h_lo, h_hi, h_lh, h_t, h_v])
  exact to_int (cp_7_zero f l h t s.a s.c lv w ht h_fi h_lo h_hi (by omega) h_t (by omega)) (by simp [chkPart, chkTop, emptyB_eq, in17_7, in13_7, h_fi, h_lo, h_hi, h_lh, h_t, h_v, chkList])


theorem checkPart_n (N : Nat) : ∀ (d : Cd) (s : Sl) (w : World) (p : Nat → Prop) (lv : Nat), d.parts ≤ N → N ≤ 2000000 → CondAt p w d s → (∀ b, p b → b < w.heap.size) →
    Calls Tryz.prog 63 #[d.val s, .int .i64 lv] w fun e w' => e = .returned (.int .i64 (chkPart lv d)) ∧ Below w.heap.size w w' := by
  induction N with
  | zero => intro d s w p lv hd; have := d.parts_eq; omega
  | succ N ih =>
    intro d s w p lv hd hN hat hp
    obtain ⟨k, f, l, h, t, ks⟩ := d
    have ht : t.size ≤ maxLen := hat.textLe
    have hs : s.n = ks.length := hat.len
    have loop : t.toList.isEmpty = true → lv ≤ 20 → f = 0 → l = 0 → h = 0 → (k = 1 ∨ k = 2 ∨ k = 3 ∧ ks.length = 1) →
        Calls Tryz.prog 63 #[.agg #[.int .i64 k, .int .i64 0, .int .i64 0, .int .i64 0, .string t, .slice s.a s.n s.c], .int .i64 lv] w fun e w' => e = .returned (.int .i64 (chkList (lv + 1) ks)) ∧ Below w.heap.size w w' := by
      rintro h_t h_v rfl rfl rfl hk
      cases hat with
      | nil _ _ _ _ _ _ =>
        rcases hk with rfl | rfl | ⟨rfl, h1⟩
        · exact cp_1_zero t _ 0 lv w ht h_t h_v
        · exact cp_2_zero t _ 0 lv w ht h_t h_v
        · cases h1
      | row _ _ _ _ _ _ b off cap kv _ hb hcap hmax h6 hkk =>
        have hl : ks.length ≤ 9223372036854775807 := by unfold maxLen at hmax; omega
        have hsz : 1 + Cd.partsL ks ≤ N + 1 := hd
        have hK : KidsOk w ks kv lv := by
          intro i d hd W hB
          have := Cd.partsL_mem hd
          exact_mod_cast ih d (kv i) W p (lv + 1) (by omega) (by omega) ((hkk i d hd).to hp hB) (below_size hB hp)
        rcases hk with rfl | rfl | ⟨rfl, h1⟩
        · exact cp_1_loop t b off cap ks kv lv w h_t h_v (hp b hb) hl h6 hK
        · exact cp_2_loop t b off cap ks kv lv w h_t h_v (hp b hb) hl h6 hK
        · exact cp_3_loop t b off cap ks kv lv w h_t h_v (by rw [h1]; rfl) (hp b hb) hl h6 hK
    have h2000 : lv = lv := rfl
    rcases k_cases k with h_k | rfl | rfl | rfl | rfl | rfl | rfl | rfl
    · exact to_int (cp_kind k f l h t s.a s.n s.c lv w h_k) (by simp [chkPart, chkTop, h_k])
    · exact cpk_1 f l h t ks s lv w ht hs (fun hz h_t h_v => by
        have ⟨hf, hl, hh⟩ := zero_of_top (.inl rfl) hz
        subst hf hl hh; exact loop h_t h_v rfl rfl rfl (.inl rfl))
    · exact cpk_2 f l h t ks s lv w ht hs (fun hz h_t h_v => by
        have ⟨hf, hl, hh⟩ := zero_of_top (.inr (.inl rfl)) hz
        subst hf hl hh; exact loop h_t h_v rfl rfl rfl (.inr (.inl rfl)))
    · exact cpk_3 f l h t ks s lv w ht hs (fun hz h_t h_v h1 => by
        have ⟨hf, hl, hh⟩ := zero_of_top (.inr (.inr rfl)) hz
        subst hf hl hh; exact loop h_t h_v rfl rfl rfl (.inr (.inr ⟨rfl, h1⟩)))
    · exact cpk_4 f l h t ks s lv w ht hs
    · exact cpk_5 f l h t ks s lv w ht hs
    · exact cpk_6 f l h t ks s lv w ht hs
    · exact cpk_7 f l h t ks s lv w ht hs

end Go.Proofs.YtbdbmpmijmmbeaaGreatDoor
