/- Two answers held against each other: EqualFunc of groups, wAnswered. -/
import Derived.Test.YtbdbmpmijmmbeaaGreatDoorWkS
import Derived.Test.YtbdbmpmijmmbeaaGreatDoorRegT
namespace Go.Proofs.YtbdbmpmijmmbeaaGreatDoor
open Go.RowKit

theorem skipR {P : Program} {ops : Array Oper} {Q : Exit → Act → World → Prop} {R : World → World → Prop} {z : Nat} (hR : Chains R) (i : Nat) {oi : Oper} {fuel : Nat} {listed : Array Bool} {a : Act} {w : World} (hi : ops[i]? = some oi) (hc : canTake ops z listed i = true)
    (hQ : ∀ c a w, Q (.panic c) (a.put oi.dst undef) w → Q (.panic c) a w) (hw : Region.wanted oi (yielded ops a.tmps) = false)
    (h : wpR P ops Q R z fuel (listed.setIfInBounds i true) (a.put oi.dst undef) w) : wpR P ops Q R z (fuel + 1) listed a w := by
  unfold canTake at hc
  simp only [Bool.and_eq_true] at hc
  exact wpR_take hR hi hc.1.1.1 hc.1.1.2 hc.1.2 hc.2 hQ (.inr ⟨hw, rfl⟩) h

def gpB (a b : Gp) : Bool := decide (a.number = b.number) && decide (a.text = b.text) && decide (a.told = b.told)
theorem gpB_iff {a b : Gp} : gpB a b = true ↔ a = b := by
  obtain ⟨n, t, l⟩ := a; obtain ⟨n', t', l'⟩ := b
  simp [gpB, and_assoc]
instance : DecidableEq Gp := fun a b => if h : gpB a b = true then .isTrue (gpB_iff.1 h) else .isFalse fun e => h (gpB_iff.2 e)

set_option maxHeartbeats 2000000 in
theorem gpEq_any (a b : Gp) (sa sb : Sl) (w : World) (p : Nat → Prop) (h1 : TwosAt p w a.told sa) (h2 : TwosAt p w b.told sb) (hp : ∀ c, p c → c < w.heap.size) :
    Calls Tryz.prog 53 #[a.val sa, b.val sb] w fun e w' => e = .returned (.bool (gpB a b)) ∧ Below w.heap.size w w' := by
  have H1 := Lib.hid h1
  have H2 := Lib.hid h2
  clear h1 h2
  unfold gpB
  by_cases hn : a.number = b.number
  · by_cases ht : a.text = b.text
    · obtain ⟨n, x, l⟩ := a
      obtain ⟨n', x', l'⟩ := b
      dsimp only at hn ht H1 H2
      subst hn ht
      have HT := Lib.hid (fun (W : World) (hB : Below w.heap.size w W) => equal_any l l' sa sb W (fun c => c < W.heap.size) ((H1.out.to hp hB).imp (below_size hB hp)) ((H2.out.to hp hB).imp (below_size hB hp)) (fun _ h => h))
      clear H1 H2
      go_enter Tryz.func53, Tryz.ntmps53
      go_wp2_with fail
      have hB := below_alloc (below_alloc (below_refl w) (.cells #[.int .i64 n, .string x, .slice sa.a sa.n sa.c] 37)) (.cells #[.int .i64 n, .string x, .slice sb.a sb.n sb.c] 37)
      refine (HT.out _ hB).mono ?_
      rintro e W ⟨rfl, hb⟩
      go_wp2_with fail
      go_ret
      exact ⟨ret_bool (by simp), below_trans hB hb⟩
    · have h1 : (a.text == b.text) = false := by rw [beq_eq_false_iff_ne]; exact ht
      have h2 : (a.number == b.number) = true := by rw [beq_iff_eq]; exact hn
      have HN := Lib.hid hn
      have HT := Lib.hid ht
      have h3 : ¬ a.text.toList = b.text.toList := fun e => by rw [ByteArray.toList_eq, ByteArray.toList_eq] at e; exact ht (Go.WideShapes.bytes_inj e)
      clear hn ht h1
      go_enter Tryz.func53, Tryz.ntmps53
      go_wp2_with fail
      go_ret
      exact ⟨ret_bool (by simp [HT.out]), below_alloc (below_alloc (below_refl w) _) _⟩
  · have h2 : (a.number == b.number) = false := by rw [beq_eq_false_iff_ne]; exact hn
    have HN := Lib.hid hn
    clear hn
    go_enter Tryz.func53, Tryz.ntmps53
    go_wp2_with fail
    go_ret
    exact ⟨ret_bool (by simp [HN.out]), below_alloc (below_alloc (below_refl w) _) _⟩

theorem groups_choose {p : Nat → Prop} {w : World} {l : List Gp} {t : Sl} (h : GroupsAt p w l t) : t.n = l.length ∧ t.n ≤ t.c ∧ t.c ≤ maxLen ∧
    ∀ i g, l[i]? = some g → ∃ b off u, t.a = some ⟨b, off, none⟩ ∧ p b ∧ ThreeAt w b (off + i * 3) g u ∧ TwosAt p w g.told u := by
  cases h with
  | nil => exact ⟨rfl, Nat.le_refl _, Nat.zero_le _, fun i x h => by simp at h⟩
  | row xs b off cap hp hn hc hR =>
    refine ⟨rfl, hn, hc, fun i g hg => ?_⟩
    obtain ⟨u, h1, h2⟩ := hR i g hg
    exact ⟨b, off, u, rfl, hp, h1, h2⟩

set_option maxHeartbeats 2000000 in
theorem equalGroups_any (l1 l2 : List Gp) (s1 s2 : Sl) (w : World) (p : Nat → Prop) (h1 : GroupsAt p w l1 s1) (h2 : GroupsAt p w l2 s2) (hp : ∀ b, p b → b < w.heap.size) :
    Calls Tryz.prog 52 #[.slice s1.a s1.n s1.c, .slice s2.a s2.n s2.c, .func (.func 53) #[] #[]] w fun e w' => e = .returned (.bool (decide (l1 = l2))) ∧ Below w.heap.size w w' := by
  obtain ⟨a1, a2, a3, a4⟩ := groups_choose h1
  obtain ⟨b1, b2, b3, b4⟩ := groups_choose h2
  obtain ⟨sa, sn, sc⟩ := s1
  obtain ⟨ta, tn, tc⟩ := s2
  dsimp only at a1 a2 a3 a4 b1 b2 b3 b4
  subst a1; subst b1
  clear h1 h2
  have HA := Lib.hid a4
  have HB := Lib.hid b4
  clear a4 b4
  by_cases hl : l1.length = l2.length
  · have hk1 : l1.length ≤ 9223372036854775807 := by unfold maxLen at a3; omega
    have hl2 : l2.length ≤ 9223372036854775807 := by omega
    have HL := Lib.hid hl
    clear hl
    have hb1 : ((l1.length : Int) != (l2.length : Int)) = false := by rw [bne_eq_false_iff_eq]; have := HL.out; omega
    go_enter Tryz.func52, Tryz.ntmps52
    go_wp2_with fail
    go_loopw [7, 8, 9, 17] (fun _ _ _ i W => ∃ j : Nat, j ≤ l1.length ∧ i = .int .i64 j ∧ l1.take j = l2.take j ∧ Below w.heap.size w W) (fun _ _ _ i _ => l1.length - (intOf i).toNat)
    case atStart => exact ⟨0, by omega, rfl, rfl, below_refl w⟩
    case round =>
      obtain ⟨j, hj, rfl, htk, hB⟩ := hrel
      by_cases hlt : j < l1.length
      · obtain ⟨x, hx⟩ : ∃ x, l1[j]? = some x := ⟨_, List.getElem?_eq_getElem hlt⟩
        obtain ⟨y, hy⟩ : ∃ y, l2[j]? = some y := ⟨_, List.getElem?_eq_getElem (by have := HL.out; omega)⟩
        obtain ⟨b, o, u, rfl, hb, ⟨hc0, hc1, hc2⟩, ht1⟩ := HA.out j x hx
        obtain ⟨b', o', u', rfl, hb', ⟨hd0, hd1, hd2⟩, ht2⟩ := HB.out j y hy
        have HT := Lib.hid (fun (W : World) (hB : Below w.heap.size w W) => gpEq_any x y u u' W (fun c => c < W.heap.size) ((ht1.to hp hB).imp (below_size hB hp)) ((ht2.to hp hB).imp (below_size hB hp)) (fun _ h => h))
        have c0 := (cell_same (hB.block b (hp b hb)) _).trans hc0
        have c1 := (cell_same (hB.block b (hp b hb)) _).trans hc1
        have c2 := (cell_same (hB.block b (hp b hb)) _).trans hc2
        have d0 := (cell_same (hB.block b' (hp b' hb')) _).trans hd0
        have d1 := (cell_same (hB.block b' (hp b' hb')) _).trans hd1
        have d2 := (cell_same (hB.block b' (hp b' hb')) _).trans hd2
        have q1 : b < wr.heap.size := below_size hB hp b hb
        have q2 : b' < wr.heap.size := below_size hB hp b' hb'
        have HX := Lib.hid hx
        have HY := Lib.hid hy
        have HTK := Lib.hid htk
        have hlt2 : j < l2.length := by have := HL.out; omega
        clear hx hy hc0 hc1 hc2 hd0 hd1 hd2 htk ht1 ht2
        go_wp2_with fail
        have hB2 := below_alloc (below_alloc hB (.cells #[.int .i64 x.number, .string x.text, .slice u.a u.n u.c] 37)) (.cells #[.int .i64 y.number, .string y.text, .slice u'.a u'.n u'.c] 37)
        refine (HT.out _ hB2).mono ?_
        rintro e W ⟨rfl, hb3⟩
        have hB3 := below_trans hB2 hb3
        by_cases hxy : x = y
        · have hd : gpB x y = true := gpB_iff.2 hxy
          rw [hd]
          have HXY := Lib.hid hxy
          clear hxy hd c0 c1 c2 d0 d1 d2
          go_wp2_with fail
          go_roundw
          case rel => exact ⟨j + 1, by omega, by go_num, by rw [List.take_add_one, List.take_add_one, HX.out, HY.out, HTK.out, HXY.out], hB3⟩
          case measure => simp [intOf]; omega
        · have hd : gpB x y = false := by rw [Bool.eq_false_iff]; exact fun h => hxy (gpB_iff.1 h)
          rw [hd]
          have HXY := Lib.hid hxy
          clear hxy hd c0 c1 c2 d0 d1 d2
          go_wp2_with fail
          go_ret
          refine ⟨ret_bool ?_, hB3⟩
          symm; rw [decide_eq_false_iff_not]
          intro e; subst e
          have := HX.out.symm.trans HY.out
          simp at this; exact HXY.out this
      · obtain rfl : j = l1.length := by omega
        have HTK := Lib.hid htk
        clear htk
        go_wp2_with fail
        go_ret
        refine ⟨ret_bool ?_, hB⟩
        symm; rw [decide_eq_true_iff]
        have := HTK.out
        rwa [List.take_length, HL.out, List.take_length] at this
  · have HL := Lib.hid hl
    have hb1 : ((l1.length : Int) != (l2.length : Int)) = true := by rw [bne_iff_ne]; have := HL.out; omega
    have hb2 : ¬ (l1.length : Int) = (l2.length : Int) := by have := HL.out; omega
    clear hl
    go_enter Tryz.func52, Tryz.ntmps52
    go_wp2_with fail
    go_ret
    refine ⟨ret_bool ?_, below_refl _⟩
    symm; rw [decide_eq_false_iff_not]
    intro e; exact HL.out (by rw [e])

theorem answered_any (l1 l2 : List Gp) (s1 s2 : Sl) (w : World) (p : Nat → Prop) (h1 : GroupsAt p w l1 s1) (h2 : GroupsAt p w l2 s2) (hp : ∀ b, p b → b < w.heap.size) :
    Calls Tryz.prog 25 #[.slice s1.a s1.n s1.c, .slice s2.a s2.n s2.c] w fun e w' => e = .returned (.bool (decide (l1 = l2))) ∧ Below w.heap.size w w' := by
  have H := Lib.hid (equalGroups_any l1 l2 s1 s2 w p h1 h2 hp)
  clear h1 h2
  go_enter Tryz.func25, Tryz.ntmps25
  go_wp2_with fail
  refine H.out.mono ?_
  rintro e W ⟨rfl, hb⟩
  go_wp2_with fail
  go_ret
  exact ⟨rfl, hb⟩
end Go.Proofs.YtbdbmpmijmmbeaaGreatDoor
