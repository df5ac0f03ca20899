/- slices.SortFunc of groups. -/
import Derived.Test.YtbdbmpmijmmbeaaGreatDoorSorts
import Derived.Test.YtbdbmpmijmmbeaaGreatDoorOrd
import Derived.Test.YtbdbmpmijmmbeaaGreatDoorPush
import Derived.Shelf.SlSortCmp.NoneTotal
namespace Go.Proofs.YtbdbmpmijmmbeaaGreatDoor
open Go.RowKit Go.Sort

theorem heap_sortWorldK {α : Type} [Inhabited α] (enc : α → List Value) (k : Nat) (w : World) (blk off m : Nat) (d : Array α) (os : Array Obj) {c : Nat} (hc : c ≠ blk) (hl : c < w.heap.size) : (sortWorldK enc k w blk off m d os).heap[c]? = w.heap[c]? := by
  have h1 : (putRowK enc k (Sort.ahead w m) blk off d).heap.size = w.heap.size := by simp [putRowK, putRow, mapBlock, Sort.ahead]
  unfold sortWorldK
  simp only [grow]
  rw [Array.getElem?_append_left (by rw [h1]; exact hl)]
  simp only [putRowK, putRow, mapBlock, Sort.ahead]
  rw [Array.getElem?_modify, if_neg (fun e => hc e.symm)]
theorem grown_sortWorldK {α : Type} [Inhabited α] (enc : α → List Value) (k : Nat) (w : World) (blk off m : Nat) (d : Array α) (os : Array Obj) : w.grownBy (sortWorldK enc k w blk off m d os) (some blk) :=
  ⟨rfl, rfl, rfl, size_sortWorldK_c enc k w blk off m d os, fun c hc hne => heap_sortWorldK enc k w blk off m d os (fun e => hne (by rw [e])) hc⟩

instance : Inhabited Gp := ⟨⟨0, ⟨#[]⟩, []⟩⟩
instance : Inhabited Sl := ⟨⟨none, 0, 0⟩⟩
/-- The cells of a group. -/
def gpCells (x : Gp × Sl) : List Value := [.int .i64 x.1.number, .string x.1.text, .slice x.2.a x.2.n x.2.c]
def gpKey (x : Gp × Sl) : Int × ByteArray := (x.1.number, x.1.text)
theorem gp_len (x : Gp × Sl) : (gpCells x).length = 3 := rfl
theorem gp_ones (x : Gp × Sl) : ∀ u ∈ gpCells x, u.oneCell' = true := by
  intro u hu; simp [gpCells] at hu; rcases hu with rfl | rfl | rfl <;> rfl
theorem swo_by {α β : Type} {cf : β → β → Int} (h : SWO (ltOf cf)) (f : α → β) : SWO (ltOf fun x y => cf (f x) (f y)) where
  irrefl x := h.irrefl (f x)
  trans x y z := h.trans (f x) (f y) (f z)
  ntrans x y z := h.ntrans (f x) (f y) (f z)

theorem owns_holds {α : Type} [Inhabited α] {W : World} {base : Nat} {e : TypeId} {k : Nat} {cells : α → List Value} (hk : ∀ x, (cells x).length = k) {g c : Nat} {gl : List α} (h : Owns W base e k cells (.slice (some ⟨g, 0, none⟩) gl.length c) gl) : HoldsK cells k W g 0 gl.toArray := by
  have hcs := h.cells (g := g) rfl
  rcases h.2 with ⟨hn, _⟩ | ⟨g', cap, cur, hv, hb, hgg, _⟩
  · cases hn
  · simp at hv
    obtain ⟨rfl, _⟩ := hv
    intro j hj
    rw [size_flatK] at hj
    simp only [List.size_toArray] at hj
    rw [get_flatK _ _ _ _ (by simpa using hj)]
    have k0 : 0 < k := by rcases Nat.eq_zero_or_pos k with h | h; · subst h; simp at hj
                          · exact h
    have hq : j / k < gl.length := Nat.div_lt_of_lt_mul (by rwa [Nat.mul_comm] at hj)
    have hm : j % k < k := Nat.mod_lt _ k0
    have h1 : gl[j / k]? = some gl.toArray[j / k]! := by
      rw [List.getElem?_eq_getElem hq, getElem!_pos gl.toArray (j / k) (by simpa using hq)]; simp
    have h2 : (cells gl.toArray[j / k]!)[j % k]? = some (cells gl.toArray[j / k]!)[j % k]! := by
      rw [getElem!_pos (cells gl.toArray[j / k]!) (j % k) (by rw [hk]; exact hm)]; exact List.getElem?_eq_getElem _
    have h3 := hcs (j / k * k + j % k) _ (flat_get hk h1 h2)
    have hadd : (⟨g, 0, none⟩ : Addr).add (j / k * k + j % k) = ⟨g, 0 + j, none⟩ := by
      rw [show j / k * k + j % k = j from by rw [Nat.mul_comm]; exact Nat.div_add_mod j k]; unfold Addr.add; split <;> simp_all
    rw [hadd] at h3
    exact ⟨h3, blk_free hgg _⟩

theorem cmp_lays (blk off size : Nat) (w : World) : CmpLays Tryz.prog 78 #[] gpCells 3 (fun x y => gpCmp (gpKey x) (gpKey y)) blk off size w :=
  fun _ _ _ _ x y => answer1_any x.1.number y.1.number x.1.text y.1.text x.2 y.2 _

/-- The groups behind the sort. -/
theorem sortGp_any {gl : List (Gp × Sl)} {v : Value} {base : Nat} {W : World} (h : Owns W base 37 3 gpCells v gl) (hn : gl.length ≤ 10000000) :
    Calls Tryz.prog 77 #[v, .func (.func 78) #[] #[]] W fun e w' => e = .returned (.tuple #[]) ∧ W.grownBy w' v.ownBlock ∧ ∃ (s : Sl) (gl' : List (Gp × Sl)), v = .slice s.a s.n s.c ∧ gl'.Perm gl ∧ gl'.Pairwise (fun x y => ¬ gpCmp (gpKey y) (gpKey x) < 0) ∧
      ArrAt (fun b => base ≤ b ∧ b < W.heap.size ∧ v.ownBlock = some b) 3 (fun b o x => ∀ j u, (gpCells x)[j]? = some u → w'.cell? ⟨b, o + j, none⟩ = some u) gl' s := by
  have hlt := h.lt
  obtain ⟨s, rfl, ha⟩ := h.arr gp_len
  cases ha with
  | nil =>
    refine (AnyF.slices_SortFunc_none Tryz.sortGp _ 0 (.func (.func 78) #[] #[]) W).mono ?_
    rintro e w' ⟨rfl, rfl⟩
    exact ⟨rfl, ⟨rfl, rfl, rfl, Nat.le_refl _, fun _ _ _ => rfl⟩, ⟨_, 0, 0⟩, [], rfl, .refl _, .nil, .nil⟩
  | row xs b off cap hp hcap hmax hR =>
    obtain ⟨hp1, hp2, hp3⟩ := hp
    have hoff : off = 0 := by
      rcases h.2 with ⟨hv, _⟩ | ⟨g', cap', cur, hv, _⟩
      · cases hv
      · simp at hv; exact hv.1.2
    subst hoff
    have hH := owns_holds gp_len h
    have eg : ∀ args w, (callFunc 78 args).run Tryz.prog w = .ok (.enter 78 args) w := enters_of Tryz.func78 (by kernel_rfl) rfl
    have hcon := AnyQ.slices_SortFunc Tryz.sortGp 3 Tryz.isAgg37 Tryz.sizeOf37 gpCells gp_len gp_ones (fun x y => gpCmp (gpKey x) (gpKey y)) (swo_by gpCmp_swo gpKey) 78 #[] b 0 cap gl.toArray W eg (cmp_lays b 0 gl.toArray.size W) hH hp2 (by simp; omega)
    change Calls Tryz.prog 77 _ _ _ at hcon
    rw [List.size_toArray] at hcon
    refine hcon.mono ?_
    rintro e w' ⟨rfl, d', n, os, hperm, hsort, rfl⟩
    obtain ⟨hsz, _, hpm⟩ := hperm
    simp only [List.size_toArray] at hsz hsort hpm
    refine ⟨rfl, grown_sortWorldK _ _ _ _ _ _ _ _, ⟨some ⟨b, 0, none⟩, gl.length, cap⟩, d'.toList, rfl, ?_, ?_, ?_⟩
    · have e1 : d'.extract 0 gl.length = d' := by rw [← hsz, Array.extract_size]
      have e2 : gl.toArray.extract 0 gl.length = gl.toArray := by rw [show gl.length = gl.toArray.size from by simp, Array.extract_size]
      rw [e1, e2] at hpm
      simpa using hpm
    · rw [List.pairwise_iff_getElem]
      intro i j hi hj hij
      have hj' : j < gl.length := by rw [← hsz]; simpa using hj
      have := hsort i j (Nat.zero_le _) hij hj'
      rw [getElem!_pos d' j (by omega), getElem!_pos d' i (by omega)] at this
      simpa [ltOf] using this
    · have hl : gl.length = d'.toList.length := by simp [hsz]
      have hh := holdsK_sortWorldK_c gpCells 3 W b 0 gl.toArray d' n os hH hp2 (by simpa using hsz)
      rw [hl]
      refine .row d'.toList b 0 cap ⟨hp1, hp2, rfl⟩ (by rw [← hl]; exact hcap) hmax fun i x hx j u hu => ?_
      have hi : i < d'.size := by have := (List.getElem?_eq_some_iff.1 hx).1; simpa using this
      have hxe : d'[i]! = x := by
        rw [getElem!_pos d' i hi]
        have := (List.getElem?_eq_some_iff.1 hx).2
        simpa using this
      have hj : j < 3 := by have := (List.getElem?_eq_some_iff.1 hu).1; simpa [gpCells] using this
      have h5 := (HoldsK.cell hh hi hj).1
      rw [hxe] at h5
      rw [h5, getElem!_pos (gpCells x) j (by rw [gp_len]; exact hj), ← hu]
      exact (List.getElem?_eq_getElem _).symm
end Go.Proofs.YtbdbmpmijmmbeaaGreatDoor
