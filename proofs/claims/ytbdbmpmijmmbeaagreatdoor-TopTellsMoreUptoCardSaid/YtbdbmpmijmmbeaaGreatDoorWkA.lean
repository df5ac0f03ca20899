import Derived.Test.YtbdbmpmijmmbeaaGreatDoorBase
namespace Go.Proofs.YtbdbmpmijmmbeaaGreatDoor
open Go.RowKit

def inB (n lo hi : Int) : Bool := decide (lo ≤ n) && decide (n ≤ hi)
theorem in_any (n lo hi : Int) (w : World) :
    Calls Tryz.prog 71 #[.int .i64 n, .int .i64 lo, .int .i64 hi] w fun e w' => e = .returned (.bool (inB n lo hi)) ∧ w = w' := by
  by_cases h1 : lo ≤ n
  · go_enter Tryz.func71, Tryz.ntmps71
    go_wp2
    go_ret
    exact ⟨ret_bool (by rw [inB, decide_eq_true h1, Bool.true_and]), rfl⟩
  · have h1 : n < lo := by omega
    go_enter Tryz.func71, Tryz.ntmps71
    go_wp2
    go_ret
    exact ⟨ret_bool (by rw [inB, decide_eq_false (by omega), Bool.false_and]), rfl⟩
theorem recordIn_any (n lo hi : Int) (w : World) :
    Calls Tryz.prog 191 #[.int .i64 n, .int .i64 lo, .int .i64 hi] w fun e w' => e = .returned (.bool (inB n lo hi)) ∧ w = w' := by
  by_cases h1 : lo ≤ n
  · go_enter Tryz.func191, Tryz.ntmps191
    go_wp2
    go_ret
    exact ⟨ret_bool (by rw [inB, decide_eq_true h1, Bool.true_and]), rfl⟩
  · have h1 : n < lo := by omega
    go_enter Tryz.func191, Tryz.ntmps191
    go_wp2
    go_ret
    exact ⟨ret_bool (by rw [inB, decide_eq_false (by omega), Bool.false_and]), rfl⟩
def digitB (n : Int) : Bool := decide (48 ≤ n) && decide (n ≤ 57)
theorem isDigit_any (n : Int) (w : World) :
    Calls Tryz.prog 157 #[.int .u8 n] w fun e w' => e = .returned (.bool (digitB n)) ∧ w = w' := by
  by_cases h1 : 48 ≤ n
  · go_enter Tryz.func157, Tryz.ntmps157
    go_wp2
    go_ret
    exact ⟨ret_bool (by rw [digitB, decide_eq_true h1, Bool.true_and]), rfl⟩
  · have h1 : n < 48 := by omega
    go_enter Tryz.func157, Tryz.ntmps157
    go_wp2
    go_ret
    exact ⟨ret_bool (by rw [digitB, decide_eq_false (by omega), Bool.false_and]), rfl⟩
theorem isField_any (n : Int) (w : World) :
    Calls Tryz.prog 72 #[.int .i64 n] w fun e w' => e = .returned (.bool (inB n 1 7)) ∧ w = w' := by
  go_enter Tryz.func72, Tryz.ntmps72
  go_wp2_with (go_at_call 71; refine (in_any _ _ _ _).mono ?_; rintro e w' ⟨rfl, rfl⟩)
  go_ret
  exact ⟨rfl, rfl⟩
theorem sized_ok (s : ByteArray) (w : World) (h : s.size ≤ 10000) :
    Calls Tryz.prog 46 #[.string s] w fun e w' => e = .returned (.tuple #[.string s, .int .i64 0]) ∧ w = w' := by
  go_enter Tryz.func46, Tryz.ntmps46
  go_wp2
  go_ret2
  exact ⟨rfl, rfl⟩
theorem sized_long (s : ByteArray) (w : World) (h : 10000 < s.size) :
    Calls Tryz.prog 46 #[.string s] w fun e w' => e = .returned (.tuple #[.string ⟨#[]⟩, .int .i64 3]) ∧ w = w' := by
  go_enter Tryz.func46, Tryz.ntmps46
  go_wp2
  go_ret2
  exact ⟨rfl, rfl⟩

def letterN (c : Int) : Bool := (decide (97 ≤ c) && decide (c ≤ 122)) || (decide (65 ≤ c) && decide (c ≤ 90))
def nameN (c : Int) : Bool := letterN c || digitB c || c == 45 || c == 95 || c == 46
def nameB (c : UInt8) : Bool := nameN c.toNat
def isNameB (s : ByteArray) : Bool := s.data.toList.all nameB && decide (1 ≤ s.size) && decide (s.size ≤ 60)

theorem all_take {s : ByteArray} {f : UInt8 → Bool} {k : Nat} (hk : k < s.size) (h : (s.data.toList.take k).all f = true) (hb : f s[k] = true) : (s.data.toList.take (k + 1)).all f = true := by
  rw [List.take_succ_eq_append_getElem (by simpa using hk), List.all_append, h]
  simp only [List.all_cons, List.all_nil, Bool.true_and, Bool.and_true]; exact hb
theorem all_not {s : ByteArray} {f : UInt8 → Bool} {k : Nat} (hk : k < s.size) (hb : f s[k] = false) : s.data.toList.all f = false := by
  rw [List.all_eq_false]
  exact ⟨s[k], by have : s[k] = s.data.toList[k]'(by simpa using hk) := rfl; rw [this]; exact List.getElem_mem _, by simp [hb]⟩
theorem nameB_is (c : UInt8) : nameB c = nameN c.toNat := rfl

set_option maxHeartbeats 1000000 in
theorem isName_any (s : ByteArray) (w : World) (hs : s.size ≤ maxLen) :
    Calls Tryz.prog 113 #[.string s] w fun e w' => e = .returned (.bool (isNameB s)) ∧ w = w' := by
  unfold maxLen at hs
  go_enter Tryz.func113, Tryz.ntmps113
  go_wp2
  go_loop [3, 4, 5, 8] (fun _ _ _ i => ∃ k : Nat, k ≤ s.size ∧ i = .int .i64 k ∧ (s.data.toList.take k).all nameB = true) (fun _ _ _ i => s.size - (intOf i).toNat)
  case atStart => exact ⟨0, by omega, rfl, by simp⟩
  case round =>
    obtain ⟨k, hk, rfl, hall⟩ := hrel
    by_cases hlt : k < s.size
    · have HA := Lib.hid (fun hb => all_take hlt hall hb)
      have HN := Lib.hid (fun hb => all_not (f := nameB) hlt hb)
      have HB := Lib.hid (nameB_is s[k])
      clear hall
      go_wp2_with (go_at_call 157; refine (isDigit_any _ _).mono ?_; rintro e w' ⟨rfl, rfl⟩)
      all_goals first
        | (go_round
           case rel => exact ⟨k + 1, by omega, by go_num, HA.out (by rw [HB.out]; simp [nameN, letterN]; simp_all; try omega)⟩
           case measure => simp [intOf]; omega)
        | (go_ret
           exact ⟨ret_bool (by unfold isNameB; rw [HN.out (by rw [HB.out]; simp [nameN, letterN]; simp_all; try omega)]; simp), rfl⟩)
    · have HA := Lib.hid hall
      clear hall
      obtain rfl : k = s.size := by omega
      clear hk
      by_cases h1 : 1 ≤ s.size
      all_goals
        go_wp2
        go_ret
        refine ⟨ret_bool ?_, rfl⟩
        have h := HA.out
        rw [List.take_of_length_le (by simp)] at h
        unfold isNameB
        rw [h, Bool.eq_iff_iff]
        simp; try omega

def titleB (c : UInt8) : Bool := inB c.toNat 32 126
def isTitleB (s : ByteArray) : Bool := s.data.toList.all titleB && decide (s.size ≤ 60)
theorem isTitle_any (s : ByteArray) (w : World) (hs : s.size ≤ maxLen) :
    Calls Tryz.prog 158 #[.string s] w fun e w' => e = .returned (.bool (isTitleB s)) ∧ w = w' := by
  unfold maxLen at hs
  go_enter Tryz.func158, Tryz.ntmps158
  go_wp2
  go_loop [3, 6] (fun _ i => ∃ k : Nat, k ≤ s.size ∧ i = .int .i64 k ∧ (s.data.toList.take k).all titleB = true) (fun _ i => s.size - (intOf i).toNat)
  case atStart => exact ⟨0, by omega, rfl, by simp⟩
  case round =>
    obtain ⟨k, hk, rfl, hall⟩ := hrel
    by_cases hlt : k < s.size
    · have HA := Lib.hid (fun hb => all_take hlt hall hb)
      have HN := Lib.hid (fun hb => all_not (f := titleB) hlt hb)
      have hb : s[k].toNat < 256 := s[k].toNat_lt
      cases ht : titleB s[k]
      all_goals
        have HT := Lib.hid ht
        have hi := ht
        unfold titleB at hi
        clear hall ht
        go_wp2_with (go_at_call 191; refine (recordIn_any _ _ _ _).mono ?_; rintro e w' ⟨rfl, rfl⟩)
      · go_ret
        exact ⟨ret_bool (by unfold isTitleB; rw [HN.out HT.out]; rfl), rfl⟩
      · go_round
        case rel => exact ⟨k + 1, by omega, by go_num, HA.out HT.out⟩
        case measure => simp [intOf]; omega
    · have HA := Lib.hid hall
      clear hall
      obtain rfl : k = s.size := by omega
      clear hk
      go_wp2
      go_ret
      refine ⟨ret_bool ?_, rfl⟩
      have h := HA.out
      rw [List.take_of_length_le (by simp)] at h
      unfold isTitleB
      rw [h, Bool.eq_iff_iff]
      simp; try omega

def isShownB (s : ByteArray) : Bool := !s.data.toList.isEmpty && isTitleB s
theorem isShown_any (s : ByteArray) (w : World) (hs : s.size ≤ maxLen) :
    Calls Tryz.prog 114 #[.string s] w fun e w' => e = .returned (.bool (isShownB s)) ∧ w = w' := by
  have HS := Lib.hid hs
  clear hs
  cases he : s.data.toList.isEmpty
  all_goals
    have he2 := he
    rw [← ByteArray.toList_eq] at he2
    have HE := Lib.hid he
    clear he
    go_enter Tryz.func114, Tryz.ntmps114
    go_wp2_with (go_at_call 158; refine (isTitle_any _ _ HS.out).mono ?_; rintro e w' ⟨rfl, rfl⟩)
    go_ret
    exact ⟨ret_bool (by unfold isShownB; rw [HE.out]; rfl), rfl⟩

/-- One of n, by any number. -/
def pickN (x n : Int) : Int := wrap64 ((IntKind.u64.wrap x).tmod n)
theorem pickN_lt (x n : Int) (h1 : 1 ≤ n) (h2 : n ≤ 9223372036854775807) : 0 ≤ pickN x n ∧ pickN x n < n := by
  have h : 0 ≤ IntKind.u64.wrap x := Int.emod_nonneg _ (by decide)
  unfold pickN
  have a : 0 ≤ (IntKind.u64.wrap x).tmod n := Int.tmod_nonneg _ h
  have b : (IntKind.u64.wrap x).tmod n < n := Int.tmod_lt_of_pos _ (by omega)
  unfold wrap64
  omega
theorem wPick_any (x n : Int) (w : World) (hn : 1 ≤ n) (hn' : n ≤ 9223372036854775807) :
    Calls Tryz.prog 17 #[.int .i64 x, .int .i64 n] w fun e w' => e = .returned (.int .i64 (pickN x n)) ∧ w = w' := by
  go_enter Tryz.func17, Tryz.ntmps17
  go_wp2
  go_ret
  exact ⟨rfl, rfl⟩

theorem parts_n (N : Nat) : ∀ (d : Cd) (s : Sl) (w : World) (p : Nat → Prop), d.parts ≤ N → N ≤ 2000000 → CondAt p w d s → (∀ b, p b → b < w.heap.size) →
    Calls Tryz.prog 62 #[d.val s] w fun e w' => e = .returned (.int .i64 d.parts) ∧ Below w.heap.size w w' := by
  induction N with
  | zero => intro d s w p hd; have := d.parts_eq; omega
  | succ N ih =>
    intro d s w p hd hN hat hp
    cases hat with
    | nil k f l h t ht =>
      unfold Cd.val
      go_enter Tryz.func62, Tryz.ntmps62
      go_wp2
      go_loopw [3, 9] (fun n i wr => n = .int .i64 1 ∧ i = .int .i64 0 ∧ Below w.heap.size w wr) (fun _ _ _ => 0)
      case atStart => exact ⟨rfl, rfl, (Below.refl _ _).alloc (Nat.le_refl _) _⟩
      case round =>
        obtain ⟨rfl, rfl, hB⟩ := hrel
        go_wp2
        go_ret
        exact ⟨rfl, hB⟩
    | row k f l h t ks b off cap kv ht hb hcap hmax h6 hk =>
      have hsz : 1 + Cd.partsL ks ≤ N + 1 := hd
      have hkl : ks.length ≤ 9223372036854775807 := by unfold maxLen at hmax; omega
      have HR := Lib.hid (show (Cd.mk k f l h t ks).parts = 1 + Cd.partsL ks from rfl)
      clear hd
      unfold Cd.val
      go_enter Tryz.func62, Tryz.ntmps62
      go_wp2
      go_loopw [3, 9] (fun n i wr => ∃ j : Nat, j ≤ ks.length ∧ n = .int .i64 (1 + Cd.partsL (ks.take j)) ∧ i = .int .i64 j ∧ Below w.heap.size w wr) (fun _ i _ => ks.length - (intOf i).toNat)
      case atStart => exact ⟨0, by omega, rfl, rfl, (Below.refl _ _).alloc (Nat.le_refl _) _⟩
      case round =>
        obtain ⟨j, hj, rfl, rfl, hB⟩ := hrel
        by_cases hlt : j < ks.length
        · obtain ⟨d, hd⟩ : ∃ d, ks[j]? = some d := ⟨_, List.getElem?_eq_getElem hlt⟩
          have hm : ∀ b, p b → wr.heap[b]? = w.heap[b]? := fun b hb => hB.block b (hp b hb)
          obtain ⟨c0, c1, c2, c3, c4, c5⟩ := (h6 j d hd).move (hm b hb)
          have hle := Cd.partsL_mem hd
          have htl := Cd.partsL_take_le ks j
          have hpz : ∀ b, p b → b < wr.heap.size := fun b hb => Nat.lt_of_lt_of_le (hp b hb) hB.size
          have HT := Lib.hid (Cd.partsL_take hd)
          have HI := Lib.hid (fun W h2 h3 => ih d (kv j) W p (by omega) (by omega) h2 h3)
          have HK := Lib.hid ((hk j d hd).move hm)
          clear ih hk h6 hd
          go_wp2_with fail
          refine (HI.out _ (HK.out.toAlloc hpz _) (alloc_size _ hpz)).mono ?_
          rintro e w2 ⟨rfl, hb2⟩
          go_wp2_with fail
          go_roundw
          case rel => exact ⟨j + 1, by omega, by rw [HT.out]; go_num, by go_num, below_trans (below_alloc hB _) hb2⟩
          case measure => simp [intOf]; omega
        · obtain rfl : j = ks.length := by omega
          clear hj
          go_wp2
          go_ret
          exact ⟨ret_int (by rw [HR.out, List.take_length]; omega), hB⟩

theorem parts_any {d : Cd} {s : Sl} {w : World} {p : Nat → Prop} (h : CondAt p w d s) (hp : ∀ b, p b → b < w.heap.size) (hn : d.parts ≤ 2000000) :
    Calls Tryz.prog 62 #[d.val s] w fun e w' => e = .returned (.int .i64 d.parts) ∧ Below w.heap.size w w' := parts_n d.parts d s w p (Nat.le_refl _) hn h hp
end Go.Proofs.YtbdbmpmijmmbeaaGreatDoor
