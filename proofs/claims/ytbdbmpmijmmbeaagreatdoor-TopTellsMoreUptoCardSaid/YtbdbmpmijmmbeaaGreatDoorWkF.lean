/- checkRows of the package ask. -/
import Derived.Test.YtbdbmpmijmmbeaaGreatDoorWkE
import Derived.Test.YtbdbmpmijmmbeaaGreatDoorMapK
namespace Go.Proofs.YtbdbmpmijmmbeaaGreatDoor
open Go.RowKit

/-- For each row in order what is wrong with it; rows whose names are known. -/
def chkRowsFrom : List ByteArray → List Rw → Int
  | _, [] => 0
  | known, r :: l => if chkRow r ≠ 0 then chkRow r else if r.name ∈ known then 5 else chkRowsFrom (known ++ [r.name]) l
def chkRows (l : List Rw) : Int := if 5000 < l.length then 3 else chkRowsFrom [] l

theorem checkRows_big {l : List Rw} {s : Sl} {w : World} (h : 5000 < s.n) :
    Calls Tryz.prog 50 #[.slice s.a s.n s.c] w fun e w' => e = .returned (.int .i64 3) ∧ Below w.heap.size w w' := by
  go_enter Tryz.func50, Tryz.ntmps50
  go_wp2
  go_ret
  exact ⟨rfl, below_refl _⟩

theorem zeroB (w : World) : (zeroValue 4).run Tryz.prog w = .ok (.bool false) w := by kernel_rfl
theorem chkRowsFrom_step {kn : List ByteArray} {l : List Rw} {j : Nat} {r : Rw} (h : l[j]? = some r) :
    chkRowsFrom kn (l.drop j) = if chkRow r ≠ 0 then chkRow r else if r.name ∈ kn then 5 else chkRowsFrom (kn ++ [r.name]) (l.drop (j + 1)) := by
  have hl : j < l.length := (List.getElem?_eq_some_iff.1 h).1
  have ht : l[j] = r := (List.getElem?_eq_some_iff.1 h).2
  rw [List.drop_eq_getElem_cons hl, ht, chkRowsFrom]
theorem take_map {α β : Type} {f : α → β} {l : List α} {j : Nat} {x : α} (h : l[j]? = some x) : (l.take (j + 1)).map f = (l.take j).map f ++ [f x] := by
  rw [List.take_add_one, h]; simp

set_option maxHeartbeats 1000000 in
theorem checkRows_any {l : List Rw} {s : Sl} {w : World} {p : Nat → Prop} (h : RowsAt p w l s) (hp : ∀ b, p b → b < w.heap.size) (hsz : l.length ≤ 5000) :
    Calls Tryz.prog 50 #[.slice s.a s.n s.c] w fun e w' => e = .returned (.int .i64 (chkRowsFrom [] l)) ∧ Below w.heap.size w w' := by
  have hmm := @run_makeMap Tryz.prog
  cases h with
  | nil =>
    go_enter Tryz.func50, Tryz.ntmps50
    go_wp2_with fail
    refine wp_loop_rounds 1 ?_
    rw [rounds_succ]; go_wp2
    go_ret
    exact ⟨rfl, by repeat (first | exact below_refl _ | apply below_alloc)⟩
  | row xs b off cap hb hcap hmax hR =>
    go_enter Tryz.func50, Tryz.ntmps50
    go_wp2_with fail
    have hbw := hp b hb
    have hkl : l.length ≤ 9223372036854775807 := by omega
    go_loopw [5, 6, 13] (fun _ _ i wr => ∃ j : Nat, j ≤ l.length ∧ i = .int .i64 j ∧ chkRowsFrom [] l = chkRowsFrom ((l.take j).map Rw.name) (l.drop j) ∧ Below w.heap.size w wr ∧
       ∃ es, MapIs wr encS w.heap.size es ∧ es.map (·.1) = (l.take j).map Rw.name ∧ ∀ x ∈ es, x.2 = .bool true) (fun _ _ i _ => l.length - (intOf i).toNat)
    case atStart => exact ⟨0, by omega, rfl, rfl, below_alloc (below_refl w) _, [], MapIs.made w encS, rfl, fun _ h => by cases h⟩
    case round =>
      obtain ⟨j, hj, rfl, hz, hB, es, hM, hes, hvs⟩ := hrel
      by_cases hlt : j < l.length
      · obtain ⟨r, hx⟩ : ∃ r, l[j]? = some r := ⟨_, List.getElem?_eq_getElem hlt⟩
        obtain ⟨u, h8, hnm, htg⟩ := hR j r hx
        obtain ⟨c0, c1, c2, c3, c4, c5, c6, c7⟩ := h8.move (hB.block b hbw)
        have HI := Lib.hid (fun W (hW : Below w.heap.size w W) => checkRow_any hnm (htg.to hp hW) (below_size hW hp))
        have HZ := Lib.hid hz
        have HE := Lib.hid hes
        have HV := Lib.hid hvs
        have HM := Lib.hid hM
        have HX := Lib.hid hx
        clear hz hes hvs hM hx h8 htg hR
        go_wp2_with fail
        refine (HI.out _ (below_alloc hB _)).mono ?_
        rintro e w2 ⟨rfl, hb2⟩
        have hB2 := below_trans (below_alloc hB _) hb2
        have k0 := new_cell hb2 0 rfl
        cases hc : (chkRow r != 0)
        rotate_left
        · have HC := Lib.hid (bne_iff_ne.1 hc)
          go_wp2_with fail
          go_ret
          exact ⟨ret_int (by rw [HZ.out, chkRowsFrom_step HX.out, if_pos HC.out]), hB2⟩
        have HC := Lib.hid (bne_eq_false_iff_eq.1 hc)
        have hM2 : MapIs w2 encS w.heap.size es := (HM.out.alloc _).move (hb2.block _ (by have := hB.size; have := HM.out.lt; simp; omega))
        have HM2 := Lib.hid hM2
        clear hM2
        cases hk : (look es r.name).isSome
        · have HK := Lib.hid hk
          have hlk : lookV es r.name (.bool false) = .bool false := lookV_none hk
          go_wp2_with (first
            | (refine wpList_lookup_k rfl (.tmp 22) (.tmp 24) false rfl (string_kind Tryz.underlying9) Tryz.underlying108 (zeroB _) HM2.out r.name trivial (fun _ _ => trivial) rfl rfl ?_)
            | (refine wpList_update_k rfl (.tmp 26) (.tmp 28) _ rfl (string_kind Tryz.underlying9) Tryz.underlying108 HM2.out r.name trivial (fun _ _ => trivial) (.bool true) rfl rfl rfl ?_))
          go_roundw
          case rel =>
            refine ⟨j + 1, by omega, by go_num, ?_, setObj_below hB2 (Nat.le_refl _) _, _, mapIs_set (by have := hB2.size; have := HM2.out.lt; omega), ?_, putK_all (p := fun v => v = .bool true) HV.out rfl⟩
            · rw [HZ.out, chkRowsFrom_step HX.out, HC.out, take_map HX.out]
              have := HK.out
              rw [look_isSome, HE.out] at this
              rw [if_neg (by omega), if_neg (by simpa using this)]
            · rw [putK_keys, HK.out, HE.out, take_map HX.out]; rfl
          case measure => simp [intOf]; omega
        · have HK := Lib.hid hk
          have hlk : lookV es r.name (.bool false) = .bool true := by obtain ⟨x, h1, _, h3⟩ := lookV_mem (z := .bool false) hk; rw [h3]; exact HV.out x h1
          go_wp2_with (first
            | (refine wpList_lookup_k rfl (.tmp 22) (.tmp 24) false rfl (string_kind Tryz.underlying9) Tryz.underlying108 (zeroB _) HM2.out r.name trivial (fun _ _ => trivial) rfl rfl ?_))
          go_ret
          exact ⟨ret_int (by
            have := HK.out
            rw [look_isSome, HE.out] at this
            rw [HZ.out, chkRowsFrom_step HX.out, HC.out, if_neg (by omega), if_pos (by simpa using this)]), hB2⟩
      · obtain rfl : j = l.length := by omega
        have HZ := Lib.hid hz
        clear hj hz
        go_wp2
        go_ret
        exact ⟨ret_int (by rw [HZ.out, List.drop_length]; rfl), hB⟩

theorem checkRows_all {l : List Rw} {s : Sl} {w : World} {p : Nat → Prop} (h : RowsAt p w l s) (hp : ∀ b, p b → b < w.heap.size) :
    Calls Tryz.prog 50 #[.slice s.a s.n s.c] w fun e w' => e = .returned (.int .i64 (chkRows l)) ∧ Below w.heap.size w w' := by
  have hl := h.len
  by_cases h5 : 5000 < l.length
  · exact to_int (checkRows_big (l := l) (by omega)) (by rw [chkRows, if_pos h5])
  · exact to_int (checkRows_any h hp (by omega)) (by rw [chkRows, if_neg h5])
end Go.Proofs.YtbdbmpmijmmbeaaGreatDoor
