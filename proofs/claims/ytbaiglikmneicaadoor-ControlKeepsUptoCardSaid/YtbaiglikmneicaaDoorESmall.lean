/- What control.small comes to, for every string: the capital letters made small. No conditions. -/
import Derived.Test.YtbaiglikmneicaaDoorPx0
import Derived.Lib.ConvBytes
set_option linter.unusedVariables false
set_option linter.unusedSimpArgs false
namespace Go.Proofs.YtbaiglikmneicaaDoor.P
open Go.RowKit Go.Proofs.YtbaiglikmneicaaDoorW.PrintWords Go.Proofs.YtbaiglikmneicaaDoorW.PrintLast Go.Proofs.YtbaiglikmneicaaDoorW.PrintMore

/-- A capital letter made small. -/
def lowI (c : Int) : Int := if 65 ≤ c ∧ c ≤ 90 then c + 32 else c
/-- What control.small comes to. -/
def control_small.f (a0 : ByteArray) : Option ByteArray := if a0.size ≤ 9223372036854775807 then some (strOfNums ((bytesOf a0).map lowI)) else none

/-- The row at block g holds xs, and what lies behind; it may be written. -/
def RowAt (W : World) (g : Nat) (xs : List Int) : Prop := ∃ (tl : List Value) (fr : Nat × Nat), xs.length + tl.length ≤ fr.1 ∧ W.heap[g]? = some (.cells (nums .u8 xs ++ tl).toArray 5 fr)
theorem RowAt.cell {W : World} {g : Nat} {xs : List Int} (h : RowAt W g xs) (i : Nat) (hi : i < xs.length) : W.cell? ⟨g, i, none⟩ = some (.int .u8 xs[i]) := by
  obtain ⟨tl, fr, _, hb⟩ := h
  rw [cell_of_row W g i _ 5 fr hb, List.getElem?_toArray, List.getElem?_append_left (by rw [nums_length]; exact hi)]
  unfold nums
  rw [List.getElem?_map, List.getElem?_eq_getElem hi]
  rfl
theorem RowAt.frozen {W : World} {g : Nat} {xs : List Int} (h : RowAt W g xs) (i : Nat) (hi : i < xs.length) : W.frozen? ⟨g, i, none⟩ = false := by
  obtain ⟨tl, fr, hl, hb⟩ := h
  obtain ⟨a, b⟩ := fr
  have hl' : xs.length + tl.length ≤ a := hl
  simp only [World.frozen?, hb]
  have : ¬ a ≤ i := by omega
  simp [this]
theorem RowAt.set {W : World} {g : Nat} {xs : List Int} (h : RowAt W g xs) (i : Nat) (hi : i < xs.length) (x : Int) : RowAt (W.setCell ⟨g, i, none⟩ (.int .u8 x)) g (xs.set i x) := by
  obtain ⟨tl, fr, hl, hb⟩ := h
  refine ⟨tl, fr, by simpa using hl, ?_⟩
  have e : (W.setCell ⟨g, i, none⟩ (.int .u8 x)).heap[g]? = some (.cells ((nums .u8 xs ++ tl).toArray.setIfInBounds i (.int .u8 x)) 5 fr) := by
    simp [World.setCell, Array.getElem?_modify, hb]
  rw [e]
  congr 2
  apply Array.ext'
  simp only [Array.toList_setIfInBounds]
  rw [List.set_append_left _ _ (by rw [nums_length]; exact hi)]
  unfold nums
  rw [List.map_set]
theorem RowAt.reads {W : World} {g : Nat} {xs : List Int} (h : RowAt W g xs) (n : Nat) (hn : xs.length = n) (hm : n ≤ 9223372036854775807) : ReadsInt W .u8 (some ⟨g, 0, none⟩) n xs :=
  ⟨hn, hm, fun _ => ⟨_, rfl, fun j hj => by
    rw [add_plain, h.cell j (by omega), List.getD_eq_getElem?_getD, List.getElem?_eq_getElem (by omega)]
    rfl⟩⟩
theorem RowAt.new (w : World) (s : ByteArray) : RowAt (Lib.bytesWorld w 5 s) w.heap.size (bytesOf s) := by
  have hsz : (Lib.bytesCells w 5 s).size = (bytesOf s).length + (List.replicate (grownCap w s.size 0 5 - s.size) (Value.int .u8 0)).length := by
    rw [bytesOf_length]
    simp [Lib.bytesCells]
  refine ⟨List.replicate (grownCap w s.size 0 5 - s.size) (.int .u8 0), ((Lib.bytesCells w 5 s).size, (Lib.bytesCells w 5 s).size + 1), by rw [hsz]; exact Nat.le_refl _, ?_⟩
  rw [Lib.bytesWorld_at_new]
  congr 2
  apply Array.ext'
  simp [Lib.bytesCells, nums, bytesOf]
theorem below_bytes (w : World) (s : ByteArray) : Below w.heap.size w (Lib.bytesWorld w 5 s) := by
  refine ⟨?_, ?_, ?_, by rw [Lib.bytesWorld_size]; omega, fun i hi => Lib.bytesWorld_at_old w 5 s i hi⟩
  all_goals simp [Lib.bytesWorld, World.freeze, World.alloc, World.drew, -World.alloc_eq, -World.drew_eq]

/-- The first k made small. -/
def lowTo (l : List Int) (k : Nat) : List Int := (l.take k).map lowI ++ l.drop k
theorem lowTo_length (l : List Int) (k : Nat) : (lowTo l k).length = l.length := by
  unfold lowTo; simp; omega
theorem lowTo_at (l : List Int) (k : Nat) (h : k < l.length) : (lowTo l k)[k]'(by rw [lowTo_length]; exact h) = l[k] := by
  unfold lowTo
  rw [List.getElem_append_right (by simp; omega)]
  simp
  congr 1
  omega
theorem lowTo_succ (l : List Int) (k : Nat) (h : k < l.length) : (lowTo l k).set k (lowI l[k]) = lowTo l (k + 1) := by
  unfold lowTo
  rw [List.set_append_right _ _ (by simp; omega), List.drop_eq_getElem_cons h, List.take_succ_eq_append_getElem h]
  have e : k - ((l.take k).map lowI).length = 0 := by simp; omega
  rw [e]
  simp only [List.set_cons_zero, List.map_append, List.map_cons, List.map_nil, List.append_assoc, List.cons_append, List.nil_append]
theorem lowTo_same (l : List Int) (k : Nat) (h : k < l.length) (hl : lowI l[k] = l[k]) : lowTo l k = lowTo l (k + 1) := by
  rw [← lowTo_succ l k h, hl]
  have := lowTo_at l k h
  rw [← this, List.set_getElem_self]
theorem bytesOf_range (s : ByteArray) : ∀ x ∈ bytesOf s, 0 ≤ x ∧ x ≤ 255 := by
  intro x hx
  unfold bytesOf at hx
  obtain ⟨b, _, rfl⟩ := List.mem_map.1 hx
  have := b.toNat_lt
  omega

set_option maxHeartbeats 1000000 in
theorem small_walk (s : ByteArray) (hs : s.size ≤ 9223372036854775807) (w : World) :
    Calls Tryd.prog 44 #[.string s] w fun e w' => e = .returned (.string (strOfNums ((bytesOf s).map lowI))) ∧ Below w.heap.size w w' := by
  have kb := fun W => print_bytes (P := Tryd.prog) 9 47 5 Tryd.underlying9 Tryd.underlying47 Tryd.underlying5 s W
  go_enter Tryd.func44, Tryd.ntmps44
  go_wp2
  go_loopw [4, 5, 10] (fun _ _ i wr => ∃ k : Nat, k ≤ s.size ∧ i = .int .i64 k ∧ Aside0 (RowAt wr w.heap.size (lowTo (bytesOf s) k)) ∧ Aside0 (Below w.heap.size w wr)) (fun _ _ i _ => s.size - (intOf i).toNat)
  case atStart => exact ⟨0, Nat.zero_le _, rfl, ⟨by simpa [lowTo] using RowAt.new w s⟩, ⟨below_bytes w s⟩⟩
  case round =>
    obtain ⟨k, hk, rfl, hA, hB⟩ := hrel
    by_cases hlt : k < s.size
    · have hkl : k < (bytesOf s).length := by rw [bytesOf_length]; exact hlt
      have hkl' : k < (lowTo (bytesOf s) k).length := by rw [lowTo_length]; exact hkl
      have hx := bytesOf_range s _ (List.getElem_mem hkl)
      obtain ⟨c, hc⟩ : ∃ c : Int, c = (bytesOf s)[k] := ⟨_, rfl⟩
      have hcell : wr.cell? ⟨w.heap.size, k, none⟩ = some (.int .u8 c) := by rw [hA.out.cell k hkl', lowTo_at _ _ hkl, hc]
      have hfr := hA.out.frozen k hkl'
      have hcA := Aside0.mk hc
      rw [← hc] at hx
      clear hc
      have h0 := hx.1
      have h1 := hx.2
      have hkI : (k : Int) < (s.size : Int) := by omega
      by_cases hcap : 65 ≤ c ∧ c ≤ 90
      · obtain ⟨h2, h3⟩ := hcap
        have hset := Aside0.mk (hA.out.set k hkl' (lowI c))
        have e1 : lowI c = c + 32 := by unfold lowI; rw [if_pos ⟨h2, h3⟩]
        rw [e1] at hset
        have hset' := Aside0.mk (show RowAt (wr.setCell ⟨w.heap.size, k, none⟩ (.int .u8 (c + 32))) w.heap.size (lowTo (bytesOf s) (k + 1)) by rw [← lowTo_succ _ _ hkl, ← hcA.out, e1]; exact hset.out)
        clear hset e1
        have hBs := Aside0.mk (show Below w.heap.size w (wr.setCell ⟨w.heap.size, k, none⟩ (.int .u8 (c + 32))) from hB.out.setCell (Nat.le_refl _) _)
        go_wp2
        go_round
        case rel =>
          refine ⟨k + 1, by omega, by go_num, ?_, ?_⟩
          · first | exact hset' | (rw [show (c + 97 - 65 : Int) = c + 32 by omega]; exact hset')
          · first | exact hBs | (rw [show (c + 97 - 65 : Int) = c + 32 by omega]; exact hBs)
        case measure => simp [intOf]; omega
      · have e1 : lowI c = c := by unfold lowI; rw [if_neg hcap]
        have hrow := Aside0.mk (show RowAt wr w.heap.size (lowTo (bytesOf s) (k + 1)) by rw [← lowTo_same _ _ hkl (by rw [← hcA.out]; exact e1)]; exact hA.out)
        clear e1
        by_cases hc65 : 65 ≤ c
        all_goals
          go_wp2
          go_round
          case rel => exact ⟨k + 1, by omega, by go_num, hrow, hB⟩
          case measure => simp [intOf]; omega
    · obtain rfl : k = s.size := by omega
      have hrd := hA.out.reads s.size (by rw [lowTo_length, bytesOf_length]) hs
      have hconv := fun c => string_of_reads (P := Tryd.prog) (src := 47) (dst := 9) (c := c) Tryd.underlying47 Tryd.underlying5 Tryd.underlying9 hrd
      clear hrd
      have e1 : lowTo (bytesOf s) s.size = (bytesOf s).map lowI := by
        unfold lowTo
        rw [List.take_of_length_le (by rw [bytesOf_length]; omega), List.drop_of_length_le (by rw [bytesOf_length]; omega), List.append_nil]
      rw [e1] at hconv
      clear e1
      go_wp2
      go_ret
      exact ⟨rfl, hB.out⟩

theorem control_small.calls (a0 : ByteArray) (r : ByteArray) (w : World) (h : control_small.f a0 = some r) :
    Calls Tryd.prog 44 #[.string a0] w fun e w' => e = .returned (.string r) ∧ Below w.heap.size w w' := by
  unfold control_small.f at h
  by_cases hs : a0.size ≤ 9223372036854775807
  · rw [if_pos hs] at h
    obtain rfl := Option.some.inj h
    exact small_walk a0 hs w
  · rw [if_neg hs] at h
    cases h
end Go.Proofs.YtbaiglikmneicaaDoor.P
