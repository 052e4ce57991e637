/- A region that draws its order and whose last operation waits for all others: a quiet walk of the others, then the last one. No conditions. Lean functions of the Go functions that the laws of this seat reach, and the proof that each call comes to them: written by a program of this session (wip/printx.sh) over the kit's print. No conditions. Rows that own their block: a prefix, a cell, a segment written, an element appended with the capacity told. No conditions. Rows that lie apart: marked, grown; what each step leaves. No conditions. An element appended to the row that grows: in place, or into a new block. No conditions. depotkit.ApartFields: true of rows that lie apart. No conditions. depotkit.ApartStanzas: true of rows that lie apart. No conditions. depotkit.ApartPapers: true of papers whose rows lie apart. No conditions. -/
import Derived.Deep.Quiet
import Derived.Below
import Derived.Test.YtbaiglikmneicaaDoorProg
import Derived.Deep.Draws
import Derived.Deep.AppendLies
import Derived.Maps.AppendAt
import Derived.OwnWalk
import Derived.Laws.BytesArg
import Derived.Laws.MakeOwn
import Derived.Laws.OwnMore
import Derived.Deep.OwnRows
import Derived.Tactics
import Derived.Lib.ConvBytes
import Derived.Laws.Slices
import Derived.WalkKit
import Derived.KernelRfl
import Derived.RowKit3
import Derived.Deep.LoopGhost
import Derived.Deep.QuietTactic
import Derived.BigQuiet
import Derived.WideLaws
import Derived.Deep.DeepCutAuto
import Derived.Deep.CutBlock
import Derived.Deep.RegionHeld3
import Derived.Laws.Rows
import Derived.Lib.AppendStr
import Derived.ArgAppend
import Derived.Laws.IdiomCopy
import Derived.OrdersHeld
import Derived.Laws.BitsLemmas
import Derived.RowKit
import Derived.Test.YtbaiglikmneicaaDoorWK
import Derived.Deep.DeepAppendRoom
import Derived.LoopN
set_option linter.unusedVariables false
set_option linter.unusedSimpArgs false
namespace Go.Proofs.YtbaiglikmneicaaDoor.KP
open Go Go.RowKit
variable {P : Program} {md : Region.Mode} {C : World → Prop}

/-- The last operation has no guard and waits for each of the n others. -/
def lastOn (md : Region.Mode) (n : Nat) (o : Oper) : Bool := o.guard.isNone && (List.range n).all (fun i => o.after.any fun e => Region.binds md e && e.on == i) && o.after.all fun e => decide (e.on < n)
/-- Each operation waits for earlier ones alone, its guard too. -/
def edgesOn (l : List Oper) : Bool := (List.range l.length).all fun i => match l[i]? with
  | some o => (o.after.all fun e => decide (e.on < i)) && (match o.guard with | none => true | some g => decide (g.1 < i))
  | none => true
theorem edgesOn_spec {l : List Oper} (h : edgesOn l = true) {i : Nat} {o : Oper} (hi : l[i]? = some o) : (∀ e ∈ o.after, e.on < i) ∧ ∀ g, o.guard = some g → g.1 < i := by
  have hl : i < l.length := (List.getElem?_eq_some_iff.1 hi).1
  have h1 := List.all_eq_true.1 h i (List.mem_range.2 hl)
  rw [hi] at h1
  simp only [Bool.and_eq_true] at h1
  refine ⟨fun e he => ?_, fun g hg => ?_⟩
  · exact of_decide_eq_true (Array.all_eq_true'.1 h1.1 e he)
  · have h2 := h1.2
    rw [hg] at h2
    exact of_decide_eq_true h2
theorem at_lt {l : List Oper} {o : Oper} {i : Nat} (hi : i < l.length) : (l ++ [o]).toArray[i]? = l.toArray[i]? := by
  rw [List.getElem?_toArray, List.getElem?_toArray, List.getElem?_append_left hi]
theorem at_last {l : List Oper} {o : Oper} : (l ++ [o]).toArray[l.length]? = some o := by
  rw [List.getElem?_toArray, List.getElem?_append_right (Nat.le_refl _), Nat.sub_self]
  rfl
theorem getD_push {listed : Array Bool} {x d : Bool} {j : Nat} : (listed.push x).getD j d = if j = listed.size then x else listed.getD j d := by
  rw [Array.getD_eq_getD_getElem?, Array.getD_eq_getD_getElem?, Array.getElem?_push]
  split <;> rfl
theorem getD_other {listed : Array Bool} {j : Nat} (h : listed.getD j true = true) (hj : j < listed.size) : listed.getD j false = true := by
  rw [Array.getD_eq_getD_getElem?, Array.getElem?_eq_getElem hj] at h
  rw [Array.getD_eq_getD_getElem?, Array.getElem?_eq_getElem hj]
  exact h
theorem getD_false {listed : Array Bool} {j : Nat} (h : listed.getD j false = true) : j < listed.size ∧ listed.getD j true = true := by
  rcases Nat.lt_or_ge j listed.size with hj | hj
  · refine ⟨hj, ?_⟩
    rw [Array.getD_eq_getD_getElem?, Array.getElem?_eq_getElem hj] at h
    rw [Array.getD_eq_getD_getElem?, Array.getElem?_eq_getElem hj]
    exact h
  · rw [Array.getD_eq_getD_getElem?, Array.getElem?_eq_none hj] at h
    cases h
theorem ready_lt {l : List Oper} {o : Oper} {listed : Array Bool} (hs : listed.size = l.length) {i : Nat} (hi : i < l.length) :
    i ∈ Region.ready md (l ++ [o]).toArray (listed.push false) ↔ i ∈ Region.ready md l.toArray listed := by
  rw [mem_ready, mem_ready, at_lt hi, getD_push, if_neg (by omega)]
  have hd : ∀ j : Nat, (listed.push false).getD j false = listed.getD j false := fun j => by
    rw [getD_push]
    split
    · rename_i h
      rw [Array.getD_eq_getD_getElem?, Array.getElem?_eq_none (by omega)]
      rfl
    · rfl
  simp only [hd]
theorem all_listed {l : List Oper} (hE : edgesOn l = true) {listed : Array Bool} (hs : listed.size = l.length) (h : Region.ready md l.toArray listed = []) : ∀ i : Nat, listed.getD i true = true := by
  intro i
  induction i using Nat.strongRecOn with
  | _ i ih =>
    rcases Nat.lt_or_ge i l.length with hi | hi
    · cases hb : listed.getD i true with
      | true => rfl
      | false =>
        have hm : i ∈ Region.ready md l.toArray listed := mem_ready.2 ⟨hb, l[i], by rw [List.getElem?_toArray]; exact List.getElem?_eq_getElem hi, fun e he _ => by
          have h1 := (edgesOn_spec hE (List.getElem?_eq_getElem hi)).1 e he
          exact getD_other (ih e.on h1) (by omega)⟩
        rw [h] at hm
        cases hm
    · rw [Array.getD_eq_getD_getElem?, Array.getElem?_eq_none (by omega)]
      rfl
theorem ready_last {l : List Oper} {o : Oper} (hO : lastOn md l.length o = true) {listed : Array Bool} (hs : listed.size = l.length) :
    l.length ∈ Region.ready md (l ++ [o]).toArray (listed.push false) ↔ ∀ i : Nat, listed.getD i true = true := by
  simp only [lastOn, Bool.and_eq_true] at hO
  obtain ⟨⟨_, hc⟩, hb⟩ := hO
  rw [mem_ready, at_last, getD_push, if_pos hs.symm]
  constructor
  · rintro ⟨_, o', ho, h⟩ i
    obtain rfl := Option.some.inj ho
    rcases Nat.lt_or_ge i l.length with hi | hi
    · have h1 := List.all_eq_true.1 hc i (List.mem_range.2 hi)
      obtain ⟨e, he, h2⟩ := Array.any_eq_true'.1 h1
      rw [Bool.and_eq_true] at h2
      have h3 := h e he h2.1
      have h4 : e.on = i := by simpa using h2.2
      rw [h4, getD_push, if_neg (by omega)] at h3
      exact (getD_false h3).2
    · rw [Array.getD_eq_getD_getElem?, Array.getElem?_eq_none (by omega)]
      rfl
  · intro h
    refine ⟨rfl, o, rfl, fun e he _ => ?_⟩
    have h1 : e.on < l.length := of_decide_eq_true (Array.all_eq_true'.1 hb e he)
    rw [getD_push, if_neg (by omega)]
    exact getD_other (h e.on) (by omega)
theorem ready_done {l : List Oper} {o : Oper} {listed : Array Bool} (h : ∀ i : Nat, listed.getD i true = true) : Region.ready md (l ++ [o]).toArray (listed.push true) = [] := by
  rw [List.eq_nil_iff_forall_not_mem]
  intro i hi
  have h1 := (mem_ready.1 hi).1
  rw [getD_push] at h1
  split at h1
  · cases h1
  · rw [h i] at h1; cases h1
theorem set_push_lt {listed : Array Bool} {i : Nat} (hi : i < listed.size) : (listed.push false).setIfInBounds i true = (listed.setIfInBounds i true).push false := by
  apply Array.ext_getElem?
  intro j
  rw [Array.getElem?_setIfInBounds, Array.getElem?_push, Array.getElem?_push, Array.getElem?_setIfInBounds, Array.size_push, Array.size_setIfInBounds]
  by_cases hij : i = j
  · subst hij
    rw [if_pos rfl, if_pos (by omega), if_neg (by omega), if_pos rfl, if_pos hi]
  · rw [if_neg hij, if_neg hij]
theorem set_push_last {listed : Array Bool} : (listed.push false).setIfInBounds listed.size true = listed.push true := by
  apply Array.ext_getElem?
  intro j
  rw [Array.getElem?_setIfInBounds, Array.getElem?_push, Array.getElem?_push, Array.size_push]
  by_cases hij : listed.size = j
  · rw [if_pos hij, if_pos (by omega), if_pos hij.symm]
  · rw [if_neg hij, if_neg (fun h => hij h.symm), if_neg (fun h => hij h.symm)]
/-- What is asked ahead of the last operation. -/
def lastQ (P : Program) (o : Oper) (Q : Exit → Act → World → Prop) : Exit → Act → World → Prop
  | .normal, a, w => o.wp P a w (fun a w => Q .normal a w) Q
  | .ret, a, w => Q .ret a w
  | .exit i, a, w => Q (.exit i) a w
  | .goto i, a, w => Q (.goto i) a w
  | .panic c, a, w => Q (.panic c) a w
  | .outgrown, a, w => Q .outgrown a w
theorem wp_lastQ {o oi : Oper} {Q : Exit → Act → World → Prop} {a : Act} {w : World} {K K' : Act → World → Prop} (hK : ∀ a w, K a w → K' a w) (h : oi.wp P a w K (lastQ P o Q)) : oi.wp P a w K' Q := by
  unfold Oper.wp at h ⊢
  generalize Sem.run P (execOp a.eval oi) w = r at h ⊢
  cases r with
  | ok x w' =>
    cases x <;> simp only [Oper.upon] at h ⊢
    case value => exact hK _ _ h
    case skip => exact hK _ _ h
    case defer => exact hK _ _ h
    case enter =>
      refine h.mono fun e w'' he => ?_
      cases e with
      | returned v => exact hK _ _ he
      | panicked c => exact he
      | outgrown => exact he
    case row => exact h.mono fun v w'' he => hK _ _ he
  | halt x w' => cases x <;> simp only [Oper.upon] at h ⊢ <;> first | exact h | exact h.elim
theorem yielded_at {l : List Oper} {o : Oper} {ts : Array Value} {j : Nat} (hj : j < l.length) : yielded (l ++ [o]).toArray ts j = yielded l.toArray ts j := by
  unfold yielded
  rw [at_lt hj]
theorem wpOp_last {l : List Oper} {o : Oper} (hE : edgesOn l = true) {Q : Exit → Act → World → Prop} {a : Act} {w : World} {i : Nat} (hi : i < l.length) {K K' : Act → World → Prop} (hK : ∀ a w, K a w → K' a w)
    (h : wpOp P l.toArray (lastQ P o Q) i K a w) : wpOp P (l ++ [o]).toArray Q i K' a w := by
  unfold wpOp at h ⊢
  rw [at_lt hi]
  have he : l.toArray[i]? = some l[i] := by rw [List.getElem?_toArray]; exact List.getElem?_eq_getElem hi
  rw [he] at h ⊢
  simp only at h ⊢
  have hw : Region.wanted l[i] (yielded (l ++ [o]).toArray a.tmps) = Region.wanted l[i] (yielded l.toArray a.tmps) := by
    unfold Region.wanted
    split
    · rfl
    · rename_i j want hg
      have hj := (edgesOn_spec hE (List.getElem?_eq_getElem hi)).2 _ hg
      rw [yielded_at (by simp only at hj; omega)]
  rw [hw]
  split
  · rename_i hwt
    rw [if_pos hwt] at h
    rcases h with h | ⟨h1, h2⟩
    · exact .inl (wp_lastQ hK h)
    · exact .inr ⟨h1, by obtain ⟨a', w', h3⟩ := h2; exact ⟨a', w', h3⟩⟩
  · rename_i hwt
    rw [if_neg hwt] at h
    exact hK _ _ h
theorem wpAny_last {l : List Oper} {o : Oper} (hE : edgesOn l = true) (hO : lastOn md l.length o = true) {Q : Exit → Act → World → Prop} : ∀ (fuel : Nat) (listed : Array Bool) (a : Act) (w : World), listed.size = l.length →
    wpAny P md l.toArray (lastQ P o Q) fuel listed a w → wpAny P md (l ++ [o]).toArray Q (fuel + 1) (listed.push false) a w := by
  have hg : o.guard = none := by
    simp only [lastOn, Bool.and_eq_true] at hO
    simpa using hO.1.1
  -- the last one
  have last : ∀ (fuel : Nat) (listed : Array Bool) (a : Act) (w : World), listed.size = l.length → (∀ i : Nat, listed.getD i true = true) → lastQ P o Q .normal a w →
      wpOp P (l ++ [o]).toArray Q l.length (wpAny P md (l ++ [o]).toArray Q fuel ((listed.push false).setIfInBounds l.length true)) a w := by
    intro fuel listed a w hs hall h
    unfold wpOp
    rw [at_last]
    simp only
    have hw : Region.wanted o (yielded (l ++ [o]).toArray a.tmps) = true := by
      unfold Region.wanted
      rw [hg]
    rw [if_pos hw, ← hs, set_push_last]
    refine .inl ?_
    have h1 : o.wp P a w (fun a w => Q .normal a w) Q := h
    refine Oper.wp_mono (fun a' w' hq => ?_) h1
    have hd := ready_done (md := md) (l := l) (o := o) hall
    cases fuel with
    | zero => exact ⟨hd, hq⟩
    | succ fuel => exact ⟨fun _ => hq, fun i hi => by rw [hd] at hi; cases hi⟩
  intro fuel
  induction fuel with
  | zero =>
    intro listed a w hs h
    have hall := all_listed (md := md) hE hs h.1
    refine ⟨fun h0 => ?_, fun i hi => ?_⟩
    · have := (ready_last hO hs).2 hall
      rw [h0] at this
      cases this
    · by_cases hil : i < l.length
      · have := (ready_lt (md := md) hs hil).1 hi
        rw [h.1] at this
        cases this
      · have hil2 : i = l.length := by
          obtain ⟨_, o', ho, _⟩ := mem_ready.1 hi
          have := (Array.getElem?_eq_some_iff.1 ho).1
          simp at this
          omega
        subst hil2
        exact last 0 listed a w hs hall h.2
  | succ fuel ih =>
    intro listed a w hs h
    refine ⟨fun h0 => ?_, fun i hi => ?_⟩
    · have hr : Region.ready md l.toArray listed = [] := by
        rw [List.eq_nil_iff_forall_not_mem]
        intro i hi
        have hil : i < l.length := by
          obtain ⟨_, o', ho, _⟩ := mem_ready.1 hi
          have := (Array.getElem?_eq_some_iff.1 ho).1
          simpa using this
        have := (ready_lt (md := md) (o := o) hs hil).2 hi
        rw [h0] at this
        cases this
      have := (ready_last hO hs).2 (all_listed (md := md) hE hs hr)
      rw [h0] at this
      cases this
    · by_cases hil : i < l.length
      · have h1 := (ready_lt (md := md) hs hil).1 hi
        rw [set_push_lt (by omega)]
        exact wpOp_last hE hil (fun a' w' hk => ih _ a' w' (by simpa using hs) hk) (h.2 i h1)
      · have hil2 : i = l.length := by
          obtain ⟨_, o', ho, _⟩ := mem_ready.1 hi
          have := (Array.getElem?_eq_some_iff.1 ho).1
          simp at this
          omega
        subst hil2
        have hall := (ready_last hO hs).1 hi
        have hr : Region.ready md l.toArray listed = [] := by
          rw [List.eq_nil_iff_forall_not_mem]
          intro i hi
          have := (mem_ready.1 hi).1
          rw [hall i] at this
          cases this
        exact last (fuel + 1) listed a w hs hall (h.1 hr)
/-- A world in which what lay still lies. -/
structure Wb (A : World) where
  val : World
  bel : Below A.heap.size A val
/-- The region: a quiet walk of all but the last, in the class 'what lay still lies'; then the last. -/
theorem region_lastK {id : Nat} {Q : Exit → Act → World → Prop} {a : Act} {w : World} (l : List Oper) (o : Oper) (hm : P.follows .mixedOrders = true) (hE : edgesOn l = true) (hO : lastOn .any l.length o = true) (hB : Region.lexB .any l.toArray = true)
    (h : wpQuiet P l.toArray (fun w' => ∃ i : Wb w, w' = i.val) (fun a' => ∀ w', (∃ i : Wb w, w' = i.val) → o.wp P a' w' (fun a w => Q .normal a w) Q) l a) : (Code.region id (l ++ [o]).toArray true).wp P Q a w := by
  simp only [Region.lexB, Bool.and_eq_true] at hB
  have hC : (fun w' => ∃ i : Wb w, w' = i.val) { w with drawn := w.drawn + 1 } := ⟨⟨{ w with drawn := w.drawn + 1 }, ⟨rfl, rfl, rfl, Nat.le_refl _, fun _ _ => rfl⟩⟩, rfl⟩
  have h1 := wpAnyQ_lex (P := P) (C := fun w' => ∃ i : Wb w, w' = i.val) (md := .any) hB.1 l 0 (Array.replicate l.toArray.size false) a (by simp) (by simpa using hB.2) h
  have h2 := wpAny_of_quiet (Q' := lastQ P o Q) (fun a' w' hw' hq => hq w' hw') _ _ a _ hC h1
  have h3 := wpAny_last hE hO _ _ a _ (by simp) h2
  refine wp_region_any hm ?_
  have e1 : (Array.replicate l.toArray.size false).push false = Array.replicate (l ++ [o]).toArray.size false := by
    rw [← Array.replicate_succ]
    simp
  rw [e1] at h3
  have e2 : l.length + 1 = (l ++ [o]).toArray.size := by simp
  rw [e2] at h3
  exact h3
theorem region_lastL {id : Nat} {Q : Exit → Act → World → Prop} {a : Act} {w : World} {ops : List Oper} (hne : ops ≠ []) (hm : P.follows .mixedOrders = true) (hE : edgesOn ops.dropLast = true) (hO : lastOn .any ops.dropLast.length (ops.getLast hne) = true) (hB : Region.lexB .any ops.dropLast.toArray = true)
    (h : wpQuiet P ops.dropLast.toArray (fun w' => ∃ i : Wb w, w' = i.val) (fun a' => ∀ w', (∃ i : Wb w, w' = i.val) → (ops.getLast hne).wp P a' w' (fun a w => Q .normal a w) Q) ops.dropLast a) : (Code.region id ops.toArray true).wp P Q a w := by
  have h1 := region_lastK (id := id) ops.dropLast (ops.getLast hne) hm hE hO hB h
  rwa [List.dropLast_concat_getLast hne] at h1
end Go.Proofs.YtbaiglikmneicaaDoor.KP

namespace Go.Proofs.YtbaiglikmneicaaDoor.KM
open Go.RowKit Go.Proofs.YtbaiglikmneicaaDoorW.PrintWords Go.Proofs.YtbaiglikmneicaaDoorW.PrintLast Go.Proofs.YtbaiglikmneicaaDoorW.PrintMore
attribute [local go_sem] max2_int min2_int max_two min_two max_three min_three max_four min_four   -- for this text's walks alone
set_option linter.unusedVariables false
set_option linter.unusedSimpArgs false

def errW : Option Int → Value
  | none => .nilIface
  | some c => .iface 0 (.int .i64 c)
theorem errW_none : errW none = .nilIface := rfl
theorem errW_some (c : Int) : errW (some c) = .iface 0 (.int .i64 c) := rfl

theorem info5 : (Tryd.prog.info? 5).map (fun i => (i.zero, i.size, i.bytes)) = some (some (.int .u8 0), 1, 1) := by kernel_rfl
-- the values' own types

end Go.Proofs.YtbaiglikmneicaaDoor.KM

namespace Go.Proofs.YtbaiglikmneicaaDoor.KM
open Go.RowKit Go.Proofs.YtbaiglikmneicaaDoorW.PrintWords Go.Proofs.YtbaiglikmneicaaDoorW.PrintLast Go.Proofs.YtbaiglikmneicaaDoorW.PrintMore
attribute [local go_sem] max2_int min2_int max_two min_two max_three min_three max_four min_four   -- for this text's walks alone
set_option linter.unusedVariables false
set_option linter.unusedSimpArgs false

/-! ### depotkit_markText: function 75 -/
def depotkit_markText.f (a0 : Int) (a1 : Int) : Option (ByteArray) := some (strOfNums (([35, (a0) % 256, (a0 / 256) % 256, (a0 / 65536) % 256, 47, (a1) % 256, (a1 / 256) % 256, (a1 / 65536) % 256] : List Int)))
set_option maxHeartbeats 8000000 in
set_option maxRecDepth 100000 in
theorem depotkit_markText.calls (a0 : Int) (a1 : Int) (r : ByteArray) (w : World) (h : depotkit_markText.f a0 a1 = some r) :
    Calls Tryd.prog 75 #[.int .i64 a0, .int .i64 a1] w fun e w' => e = .returned (.string r) ∧ Below w.heap.size w w' := by
  have HB := Aside0.mk (Below.refl w.heap.size w)
  have H : (some (strOfNums (([35, (a0) % 256, (a0 / 256) % 256, (a0 / 65536) % 256, 47, (a1) % 256, (a1 / 256) % 256, (a1 / 65536) % 256] : List Int)))) = some r := h
  clear h
  obtain ⟨y101, hy101⟩ : ∃ y_ : List Int, y_ = (([35, (a0) % 256, (a0 / 256) % 256, (a0 / 65536) % 256, 47, (a1) % 256, (a1 / 256) % 256, (a1 / 65536) % 256] : List Int)) := ⟨_, rfl⟩
  replace H : (some (strOfNums y101)) = some r := by first | (rw [hy101]; with_reducible exact H) | (have H2_ := (Option.bind_some _ _).symm.trans H; rw [hy101]; with_reducible exact H2_) | (have H2_ := (Option.bind_some _ _).symm.trans H; with_reducible exact H2_) | with_reducible exact H | (rw [hy101]; exact H) | exact H
  have Ny101 := Aside0.mk hy101
  clear hy101
  obtain rfl := Option.some.inj H
  go_enter Tryd.func75, Tryd.ntmps75
  go_wp2_with (first | ((with_reducible refine gate_dst (N := 21) rfl ?_); refine Kd.R_lit (Kd.int .u8) _ 5 ?hg (N := 21) ?hd (xs := ([35, (a0) % 256, (a0 / 256) % 256, (a0 / 65536) % 256, 47, (a1) % 256, (a1 / 256) % 256, (a1 / 65536) % 256] : List Int)) (inner := [.int .u8 35, .int .u8 ((a0) % 256), .int .u8 ((a0 / 256) % 256), .int .u8 ((a0 / 65536) % 256), .int .u8 47, .int .u8 ((a1) % 256), .int .u8 ((a1 / 256) % 256), .int .u8 ((a1 / 65536) % 256)]) (ok := fun _ => True) (okp := fun _ => True) ?hr ?hp (fun _ hk => hk) trivial (Below.refl _ _) (Nat.le_refl _) (by simp) ?_; (case hd => rfl); (case hg => rfl); (case hr => first | (go_simp; done) | (go_simp; rfl)); (case hp => exact (Reps.one (show Kd.M (Kd.int .u8) _ _ _ 35 [.int .u8 35] from rfl) (Reps.one (show Kd.M (Kd.int .u8) _ _ _ ((a0) % 256) [.int .u8 ((a0) % 256)] from rfl) (Reps.one (show Kd.M (Kd.int .u8) _ _ _ ((a0 / 256) % 256) [.int .u8 ((a0 / 256) % 256)] from rfl) (Reps.one (show Kd.M (Kd.int .u8) _ _ _ ((a0 / 65536) % 256) [.int .u8 ((a0 / 65536) % 256)] from rfl) (Reps.one (show Kd.M (Kd.int .u8) _ _ _ 47 [.int .u8 47] from rfl) (Reps.one (show Kd.M (Kd.int .u8) _ _ _ ((a1) % 256) [.int .u8 ((a1) % 256)] from rfl) (Reps.one (show Kd.M (Kd.int .u8) _ _ _ ((a1 / 256) % 256) [.int .u8 ((a1 / 256) % 256)] from rfl) (Reps.one (show Kd.M (Kd.int .u8) _ _ _ ((a1 / 65536) % 256) [.int .u8 ((a1 / 65536) % 256)] from rfl) (Reps.none _ _)))))))))); intro v102 w3 ho4 hb hg_ hnew_; clear hg_ hnew_; (first | rw [← Ny101.out] at ho4 | (simp only [Int.reduceToNat] at ho4; rw [← Ny101.out] at ho4)); have n0_ := Aside0.mk (Kd.R_lower ho4 (below_size (by repeat (first | (with_reducible first | exact HB.out | apply below_alloc | apply pw_below_drewN | apply below_drew1) | exact HB.out)))); have n1_ := Aside0.mk (below_step (by repeat (first | (with_reducible first | exact HB.out | apply below_alloc | apply pw_below_drewN | apply below_drew1) | exact HB.out)) hb); clear HB; have HO103 := n0_; have HB := n1_; clear n0_ n1_; clear hb ho4; have hcv5 := own_string (P := Tryd.prog) Tryd.underlying47 Tryd.underlying5 Tryd.underlying9 (Kd.own_of_R HO103.out)))
  go_ret
  exact ⟨by first | rfl | (simp [errW_none, errW_some] <;> rfl) | (simp [*, errW_none, errW_some] <;> rfl), by repeat (first | (with_reducible first | exact HB.out | apply below_alloc | apply pw_below_drewN | apply below_drew1) | exact HB.out)⟩

/-! ### depotkit_mark: function 76 -/
def depotkit_mark.f (a0 : Int) (a1 : Int) : Option (Int) := some (wrap64 ((wrap64 (1000003 * (wrap64 (a0 + 7)))) + a1))
set_option maxHeartbeats 8000000 in
set_option maxRecDepth 100000 in
theorem depotkit_mark.calls (a0 : Int) (a1 : Int) (r : Int) (w : World) (h : depotkit_mark.f a0 a1 = some r) :
    Calls Tryd.prog 76 #[.int .i64 a0, .int .i64 a1] w fun e w' => e = .returned (.int .i64 r) ∧ Drawn0 w w' := by
  have H : (some (wrap64 ((wrap64 (1000003 * (wrap64 (a0 + 7)))) + a1))) = some r := h
  clear h
  obtain rfl := Option.some.inj H
  go_enter Tryd.func76, Tryd.ntmps76
  go_wp2
  go_ret
  exact ⟨by first | rfl | (simp; done) | (simp [*]; done), by repeat (first | exact Drawn0.refl _ | apply Drawn0.step)⟩

end Go.Proofs.YtbaiglikmneicaaDoor.KM

set_option linter.unusedVariables false
set_option linter.unusedSimpArgs false
namespace Go.Proofs.YtbaiglikmneicaaDoor.KP
open Go Go.RowKit Go.Proofs.YtbaiglikmneicaaDoorW.PrintWords Go.Proofs.YtbaiglikmneicaaDoorW.PrintLast Go.Proofs.YtbaiglikmneicaaDoorW.PrintMore

section
variable {w W : World} {base e size g n m cap : Nat} {xs ys : List Value} {v : Value}
theorem own_at (h : w.ownsRow base e size (.slice (some ⟨g, 0, none⟩) n cap) n xs) : ∃ cur, w.heap[g]? = some (.cells cur e (0, 0)) ∧ base ≤ g ∧ n ≤ cap ∧ cap ≤ maxLen ∧ cur.size = cap * size ∧ cur.toList.take (n * size) = xs ∧ xs.length = n * size := by
  rcases h.2 with ⟨h0, _⟩ | ⟨g', cap', cur, hv, hb, hg, hn, hc, hs, ht⟩
  · cases h0
  · injection hv with h1 _ h2
    injection h1 with h1
    injection h1 with h1
    subst h1
    subst h2
    exact ⟨cur, hg, hb, hn, hc, hs, ht, h.1⟩
theorem own_mk {cur : Array Value} (hg : w.heap[g]? = some (.cells cur e (0, 0))) (hb : base ≤ g) (hn : n ≤ cap) (hc : cap ≤ maxLen) (hs : cur.size = cap * size) (ht : cur.toList.take (n * size) = xs) (hx : xs.length = n * size) : w.ownsRow base e size (.slice (some ⟨g, 0, none⟩) n cap) n xs :=
  ⟨hx, .inr ⟨g, cap, cur, rfl, hb, hg, hn, hc, hs, ht⟩⟩
theorem own_len (h : w.ownsRow base e size v n xs) : xs.length = n * size := h.1
theorem own_slice (h : w.ownsRow base e size v n xs) : ∃ A c, v = .slice A n c := by
  rcases h.2 with ⟨h0, h1⟩ | ⟨g', cap', cur, hv, _⟩
  · exact ⟨_, _, by rw [h0, h1]⟩
  · exact ⟨_, _, hv⟩
theorem own_prefix (h : w.ownsRow base e size (.slice (some ⟨g, 0, none⟩) (n + m) cap) (n + m) (xs ++ ys)) (hx : xs.length = n * size) : w.ownsRow base e size (.slice (some ⟨g, 0, none⟩) n cap) n xs := by
  obtain ⟨cur, hg, hb, hn, hc, hs, ht, _⟩ := own_at h
  refine own_mk hg hb (by omega) hc hs ?_ hx
  have h1 : (cur.toList.take ((n + m) * size)).take (n * size) = (xs ++ ys).take (n * size) := by rw [ht]
  have h2 : (xs ++ ys).take (n * size) = xs := by rw [← hx]; exact List.take_left
  rw [List.take_take, Nat.min_eq_left (Nat.mul_le_mul_right _ (by omega))] at h1
  exact h1.trans h2
theorem own_cell (h : w.ownsRow base e size (.slice (some ⟨g, 0, none⟩) n cap) n xs) {i : Nat} (hi : i < n * size) : w.cell? ⟨g, i, none⟩ = xs[i]? := by
  obtain ⟨cur, hg, hb, hn, hc, hs, ht, hl⟩ := own_at h
  have hle : n * size ≤ cap * size := Nat.mul_le_mul_right _ hn
  rw [blk_cell hg, ← ht, List.getElem?_take, if_pos hi, Array.getElem?_toList]
theorem own_keep (h : w.ownsRow base e size v n xs) (hk : ∀ k, v.ownBlock = some k → W.heap[k]? = w.heap[k]?) : W.ownsRow base e size v n xs := by
  refine ⟨h.1, ?_⟩
  rcases h.2 with h0 | ⟨g', cap', cur, hv, hb, hg, hr⟩
  · exact .inl h0
  · exact .inr ⟨g', cap', cur, hv, hb, (hk g' (by rw [hv]; rfl)).trans hg, hr⟩
theorem own_below (h : w.ownsRow base e size v n xs) (hb : Below w.heap.size w W) : W.ownsRow base e size v n xs := by
  refine own_keep h fun k hk => ?_
  rcases h.2 with ⟨h0, _⟩ | ⟨g', cap', cur, hv, _, hg, _⟩
  · rw [h0] at hk; cases hk
  · rw [hv] at hk
    injection hk with hk
    rw [← hk]
    exact hb.block _ (blk_lt hg)
theorem own_lt (h : w.ownsRow base e size v n xs) : ∀ k, v.ownBlock = some k → base ≤ k ∧ k < w.heap.size := by
  intro k hk
  rcases h.2 with ⟨h0, _⟩ | ⟨g', cap', cur, hv, hb, hg, _⟩
  · rw [h0] at hk; cases hk
  · rw [hv] at hk
    injection hk with hk
    rw [← hk]
    exact ⟨hb, blk_lt hg⟩
theorem own_typed (h : w.ownsRow base e size v n xs) : ∀ k, v.ownBlock = some k → ∃ cur, w.heap[k]? = some (.cells cur e (0, 0)) := by
  intro k hk
  rcases h.2 with ⟨h0, _⟩ | ⟨g', cap', cur, hv, hb, hg, _⟩
  · rw [h0] at hk; cases hk
  · rw [hv] at hk
    injection hk with hk
    rw [← hk]
    exact ⟨cur, hg⟩
/-- A segment within the row is written. -/
theorem own_seg (h : w.ownsRow base e size (.slice (some ⟨g, 0, none⟩) n cap) n xs) {o : Nat} {seg : List Value} (ho : o + seg.length ≤ n * size) : (w.setCells g o seg).ownsRow base e size (.slice (some ⟨g, 0, none⟩) n cap) n (xs.take o ++ seg ++ xs.drop (o + seg.length)) := by
  obtain ⟨cur, hg, hb, hn, hc, hs, ht, hl⟩ := own_at h
  have hle : n * size ≤ cap * size := Nat.mul_le_mul_right _ hn
  obtain ⟨cur', h3, h4, h5⟩ := setCells_row (e := e) seg o w cur hg (by omega)
  refine own_mk h3 hb hn hc (by rw [h4, hs]) ?_ (by simp only [List.length_append, List.length_take, List.length_drop]; omega)
  rw [h5, ← ht]
  have hcl : cur.toList.length = cap * size := by rw [Array.length_toList, hs]
  apply List.ext_getElem?
  intro j
  simp only [List.getElem?_take, List.getElem?_append, List.getElem?_drop, List.length_append, List.length_take, hcl]
  have e1 : min o (cap * size) = o := by omega
  have e2 : min o (min (n * size) (cap * size)) = o := by omega
  simp only [e1, e2]
  by_cases hj : j < n * size
  · by_cases h1 : j < o
    · simp [h1, hj, show j < o + seg.length by omega]
    · by_cases h2 : j < o + seg.length
      · simp [h1, h2, hj]
      · simp [h1, h2, hj, show o + seg.length + (j - (o + seg.length)) = j by omega]
  · have h2 : ¬ j < o + seg.length := by omega
    simp [hj, h2, show ¬ o + seg.length + (j - (o + seg.length)) < n * size by omega]
end
/-- The law of a store into such a row, at the operation. -/
theorem wp_store_own {P : Program} {w : World} {base e size g n cap : Nat} {xs : List Value} {o : Oper} {a : Act} {K : Act → World → Prop} {Q : Exit → Act → World → Prop} (t : TypeId) (p x : Operand) (ho : o.op = .store t p x) {off : Nat} (u : Value) (seg : List Value)
    (haddr : a.eval p = .pointer (some ⟨g, off, none⟩)) (hx : a.eval x = u) (hu : u.cells.toList = seg) (ht : (P.info? t).map (·.size) = some seg.length) (h1 : ∀ q ∈ seg, q.oneCell' = true)
    (hown : w.ownsRow base e size (.slice (some ⟨g, 0, none⟩) n cap) n xs) (hoff : off + seg.length ≤ n * size) (h : K (a.put o.dst undef) (w.setCells g off seg)) : o.wp P a w K Q := by
  obtain ⟨cur, hg, hb, hn, hc, hs, _, _⟩ := own_at hown
  have hle : n * size ≤ cap * size := Nat.mul_le_mul_right _ hn
  have hrun : (Instr.storeAt t (.pointer (some ⟨g, off, none⟩)) u).run P w = .ok () (w.setCells g off seg) := run_store_run t u seg hg hu ht (by omega) h1
  unfold Oper.wp execOp
  simp only [ho, haddr, hx, Sem.run_bind, Sem.run_pure, Result.andThen_ok, hrun]
  exact h
end Go.Proofs.YtbaiglikmneicaaDoor.KP

set_option linter.unusedVariables false
set_option linter.unusedSimpArgs false
namespace Go.Proofs.YtbaiglikmneicaaDoor.KP
open Go Go.RowKit Go.Proofs.YtbaiglikmneicaaDoorW.PrintWords Go.Proofs.YtbaiglikmneicaaDoorW.PrintLast Go.Proofs.YtbaiglikmneicaaDoorW.PrintMore

def lenV : Value → Nat
  | .slice _ n _ => n
  | _ => 0
/-- The marks of a row's first n places. -/
def marks (M : Nat → Nat → List Value) (k n : Nat) : List Value := (List.range n).flatMap (M k)
theorem marks_succ (M : Nat → Nat → List Value) (k n : Nat) : marks M k (n + 1) = marks M k n ++ M k n := by
  unfold marks
  rw [List.range_succ, List.flatMap_append]
  simp
theorem marks_len {M : Nat → Nat → List Value} {sz : Nat} (hM : ∀ k i, (M k i).length = sz) (k n : Nat) : (marks M k n).length = n * sz := by
  induction n with
  | zero => simp [marks]
  | succ n ih => rw [marks_succ, List.length_append, ih, hM, Nat.succ_mul]
/-- Rows that lie apart. -/
def apart (vs : List Value) : Prop := ∀ (j k : Nat) (v u : Value), vs[j]? = some v → vs[k]? = some u → j ≠ k → ∀ b, v.ownBlock = some b → u.ownBlock ≠ some b
/-- Whatever lay and is none of the rows' blocks lies as it lay. -/
structure Rest (vs : List Value) (w W : World) : Prop where
  os : W.os = w.os
  tape : W.tape = w.tape
  output : W.output = w.output
  size : w.heap.size ≤ W.heap.size
  same : ∀ b, b < w.heap.size → (∀ v ∈ vs, v.ownBlock ≠ some b) → W.heap[b]? = w.heap[b]?
theorem Rest.refl (vs : List Value) (w : World) : Rest vs w w := ⟨rfl, rfl, rfl, Nat.le_refl _, fun _ _ _ => rfl⟩
theorem Rest.below {vs : List Value} {w A B : World} (h : Rest vs w A) (q : Below A.heap.size A B) : Rest vs w B :=
  ⟨q.os.trans h.os, q.tape.trans h.tape, q.output.trans h.output, Nat.le_trans h.size q.size, fun b hb hv => (q.block b (Nat.lt_of_lt_of_le hb h.size)).trans (h.same b hb hv)⟩
theorem Rest.seg {vs : List Value} {w A : World} (h : Rest vs w A) {v : Value} {g o : Nat} {seg : List Value} (hv : v ∈ vs) (hg : v.ownBlock = some g) : Rest vs w (A.setCells g o seg) := by
  obtain ⟨s1, s2, s3, s4⟩ := setCells_same g seg o A
  refine ⟨s1.trans h.os, s2.trans h.tape, s3.trans h.output, by rw [s4]; exact h.size, fun b hb hn => ?_⟩
  have hne : b ≠ g := by
    rintro rfl
    exact hn v hv hg
  exact (setCells_far seg o b hne).trans (h.same b hb hn)
theorem below_seg {A : World} {g o : Nat} {seg : List Value} {k : Nat} (hk : k ≠ g) : (A.setCells g o seg).heap[k]? = A.heap[k]? := setCells_far seg o k hk
/-- The rows, the first k of them marked, i places of row k too. -/
structure P1 (M : Nat → Nat → List Value) (e sz : Nat) (vs : List Value) (k i : Nat) (W : World) : Prop where
  row : ∀ (j : Nat) (v : Value), vs[j]? = some v → ∃ xs, W.ownsRow 0 e sz v (lenV v) xs ∧ (j < k → xs = marks M j (lenV v)) ∧ (j = k → xs.take (i * sz) = marks M k i)
theorem P1.below {M : Nat → Nat → List Value} {e sz : Nat} {vs : List Value} {k i : Nat} {A B : World} (h : P1 M e sz vs k i A) (q : Below A.heap.size A B) : P1 M e sz vs k i B :=
  ⟨fun j v hv => by obtain ⟨xs, h1, h2⟩ := h.row j v hv; exact ⟨xs, own_below h1 q, h2⟩⟩
theorem P1.start {M : Nat → Nat → List Value} {e sz : Nat} {vs : List Value} {W : World} (h : ∀ (j : Nat) (v : Value), vs[j]? = some v → ∃ xs, W.ownsRow 0 e sz v (lenV v) xs) : P1 M e sz vs 0 0 W :=
  ⟨fun j v hv => by
    obtain ⟨xs, h1⟩ := h j v hv
    exact ⟨xs, h1, fun h => absurd h (Nat.not_lt_zero _), fun _ => by simp [marks]⟩⟩
theorem P1.next {M : Nat → Nat → List Value} {e sz : Nat} {vs : List Value} {k : Nat} {v : Value} {W : World} (hv : vs[k]? = some v) (h : P1 M e sz vs k (lenV v) W) : P1 M e sz vs (k + 1) 0 W :=
  ⟨fun j u hu => by
    obtain ⟨xs, h1, h2, h3⟩ := h.row j u hu
    refine ⟨xs, h1, fun hj => ?_, fun _ => by simp [marks]⟩
    by_cases hjk : j = k
    · subst hjk
      have e : u = v := Option.some.inj (hu.symm.trans hv)
      subst e
      have h4 := h3 rfl
      rwa [← own_len h1, List.take_length] at h4
    · exact h2 (by omega)⟩
/-- One place more. -/
theorem P1.seg {M : Nat → Nat → List Value} {e sz : Nat} (hM : ∀ k i, (M k i).length = sz) {vs : List Value} (hap : apart vs) {k i g n c : Nat} {W : World} (hv : vs[k]? = some (.slice (some ⟨g, 0, none⟩) n c)) (hi : i < n) (h : P1 M e sz vs k i W) :
    P1 M e sz vs k (i + 1) (W.setCells g (i * sz) (M k i)) :=
  ⟨fun j u hu => by
    obtain ⟨xs, h1, h2, h3⟩ := h.row j u hu
    by_cases hjk : j = k
    · subst hjk
      have e0 : u = .slice (some ⟨g, 0, none⟩) n c := Option.some.inj (hu.symm.trans hv)
      subst e0
      have hle : i * sz + sz ≤ n * sz := by rw [← Nat.succ_mul]; exact Nat.mul_le_mul_right _ hi
      have hl := own_len h1
      simp only [lenV] at h1 hl
      refine ⟨_, own_seg h1 (o := i * sz) (seg := M j i) (by rw [hM]; exact hle), fun h => absurd h (Nat.lt_irrefl _), fun _ => ?_⟩
      rw [h3 rfl, marks_succ, Nat.succ_mul, ← marks_len hM j i, ← hM j i, ← List.length_append, List.take_left]
    · refine ⟨xs, own_keep h1 fun b hb => below_seg ?_, h2, fun h => absurd h hjk⟩
      rintro rfl
      exact hap j k u _ hu hv hjk b hb rfl⟩
/-- A block of index j's rows. -/
def OwnB (vs us : List Value) (j b : Nat) : Prop := (∃ v, vs[j]? = some v ∧ v.ownBlock = some b) ∨ (∃ u, us[j]? = some u ∧ u.ownBlock = some b)
/-- All rows marked; the grown ones of the first indexes hold what R tells. -/
structure P2 (M : Nat → Nat → List Value) (R : Nat → Nat → List Value → Prop) (e sz : Nat) (vs us : List Value) (W : World) : Prop where
  row : ∀ (j : Nat) (v : Value), vs[j]? = some v → W.ownsRow 0 e sz v (lenV v) (marks M j (lenV v))
  got : ∀ (j : Nat) (u v : Value), us[j]? = some u → vs[j]? = some v → ∃ xs, W.ownsRow 0 e sz u (lenV v + 64) xs ∧ R j (lenV v) xs
  sep : ∀ j j' b, OwnB vs us j b → OwnB vs us j' b → j = j'
  len : us.length ≤ vs.length
section
variable {M : Nat → Nat → List Value} {R : Nat → Nat → List Value → Prop} {e sz B : Nat} {vs us : List Value} {A W : World}
theorem P2.keep (h : P2 M R e sz vs us A) (hk : ∀ j b, OwnB vs us j b → b < A.heap.size → W.heap[b]? = A.heap[b]?) : P2 M R e sz vs us W :=
  ⟨fun j v hv => own_keep (h.row j v hv) fun b hb => hk j b (.inl ⟨v, hv, hb⟩) (own_lt (h.row j v hv) b hb).2,
   fun j u v hu hv => by
    obtain ⟨xs, h1, h2⟩ := h.got j u v hu hv
    exact ⟨xs, own_keep h1 fun b hb => hk j b (.inr ⟨u, hu, hb⟩) (own_lt h1 b hb).2, h2⟩, h.sep, h.len⟩
theorem P2.below (h : P2 M R e sz vs us A) (q : Below A.heap.size A W) : P2 M R e sz vs us W := h.keep fun _ b _ hb => q.block b hb
theorem P2.lt (h : P2 M R e sz vs us A) {j b : Nat} (hb : OwnB vs us j b) : b < A.heap.size ∧ ∃ cur, A.heap[b]? = some (.cells cur e (0, 0)) := by
  rcases hb with ⟨v, hv, hb⟩ | ⟨u, hu, hb⟩
  · exact ⟨(own_lt (h.row j v hv) b hb).2, own_typed (h.row j v hv) b hb⟩
  · have hj : j < vs.length := Nat.lt_of_lt_of_le (List.getElem?_eq_some_iff.1 hu).1 h.len
    obtain ⟨xs, hr, _⟩ := h.got j u _ hu (List.getElem?_eq_getElem hj)
    exact ⟨(own_lt hr b hb).2, own_typed hr b hb⟩
/-- Forget the grown ones. -/
theorem P2.rows {R' : Nat → Nat → List Value → Prop} (h : P2 M R e sz vs us W) : P2 M R' e sz vs [] W := by
  refine ⟨h.row, fun j u v hu => by simp at hu, fun j j' b h1 h2 => ?_, Nat.zero_le _⟩
  rcases h1 with ⟨v, hv, hb⟩ | ⟨u, hu, _⟩
  · rcases h2 with ⟨v', hv', hb'⟩ | ⟨u, hu, _⟩
    · exact h.sep j j' b (.inl ⟨v, hv, hb⟩) (.inl ⟨v', hv', hb'⟩)
    · simp at hu
  · simp at hu
theorem P2.start (hap : apart vs) (h : P1 M e sz vs vs.length 0 W) : P2 M R e sz vs [] W := by
  refine ⟨fun j v hv => ?_, fun j u v hu => by simp at hu, fun j j' b h1 h2 => ?_, Nat.zero_le _⟩
  · obtain ⟨xs, h1, h2, _⟩ := h.row j v hv
    rw [← h2 (List.getElem?_eq_some_iff.1 hv).1]
    exact h1
  · rcases h1 with ⟨v, hv, hb⟩ | ⟨u, hu, _⟩
    · rcases h2 with ⟨v', hv', hb'⟩ | ⟨u, hu, _⟩
      · by_cases hjj : j = j'
        · exact hjj
        · exact absurd hb' (hap j j' v v' hv hv' hjj b hb)
      · simp at hu
    · simp at hu
theorem own_zero {w : World} {base e size n : Nat} {v : Value} {xs : List Value} (h : w.ownsRow base e size v n xs) : w.ownsRow 0 e size v n xs := by
  refine ⟨h.1, ?_⟩
  rcases h.2 with h0 | ⟨g, cap, cur, hv, _, hr⟩
  · exact .inl h0
  · exact .inr ⟨g, cap, cur, hv, Nat.zero_le _, hr⟩
theorem marks_split (M : Nat → Nat → List Value) (k n m : Nat) : ∃ ys, marks M k (n + m) = marks M k n ++ ys := by
  induction m with
  | zero => exact ⟨[], by simp⟩
  | succ m ih =>
    obtain ⟨ys, hy⟩ := ih
    exact ⟨ys ++ M k (n + m), by rw [← Nat.add_assoc, marks_succ, hy, List.append_assoc]⟩
/-- Index k's row has grown in place: what follows for all. -/
theorem P2.inplace (hM : ∀ k i, (M k i).length = sz) {k n m g c : Nat} {ys : List Value} (hul : us.length ≤ k) (h : P2 M R e sz vs us A) (hv : vs[k]? = some (.slice (some ⟨g, 0, none⟩) n c))
    (hW : W.ownsRow 0 e sz (.slice (some ⟨g, 0, none⟩) (n + m) c) (n + m) (marks M k n ++ ys)) (hg : A.grownBy W (some g)) : P2 M R e sz vs us W := by
  have hok : OwnB vs us k g := .inl ⟨_, hv, rfl⟩
  refine ⟨fun j v hvj => ?_, fun j u v hu hvj => ?_, h.sep, h.len⟩
  · by_cases hjk : j = k
    · subst hjk
      obtain rfl : v = .slice (some ⟨g, 0, none⟩) n c := Option.some.inj (hvj.symm.trans hv)
      exact own_prefix hW (marks_len hM j n)
    · exact own_keep (h.row j v hvj) fun b hb => hg.block b (own_lt (h.row j v hvj) b hb).2 (by
        intro e
        injection e with e
        subst e
        exact hjk (h.sep j k b (.inl ⟨v, hvj, hb⟩) hok))
  · have hj : j < us.length := (List.getElem?_eq_some_iff.1 hu).1
    obtain ⟨xs, h1, h2⟩ := h.got j u v hu hvj
    exact ⟨xs, own_keep h1 fun b hb => hg.block b (own_lt h1 b hb).2 (by
      intro e
      injection e with e
      subst e
      have := h.sep j k b (.inr ⟨u, hu, hb⟩) hok
      omega), h2⟩
/-- A grown row joins the list. -/
theorem P2.snoc {k n : Nat} {gv v : Value} {xs : List Value} (hul : us.length = k) (hv : vs[k]? = some v) (hn : lenV v = n) (h : P2 M R e sz vs us W) (hg : W.ownsRow 0 e sz gv (n + 64) xs) (hR : R k n xs)
    (hl : (∃ m, gv.ownBlock = some m ∧ v.ownBlock = some m) ∨ (∃ b, gv.ownBlock = some b ∧ ∀ j, ¬ OwnB vs us j b)) : P2 M R e sz vs (us ++ [gv]) W := by
  have hk : k < vs.length := (List.getElem?_eq_some_iff.1 hv).1
  have hat : ∀ j u, (us ++ [gv])[j]? = some u → us[j]? = some u ∨ (j = k ∧ u = gv) := by
    intro j u hu
    rcases Nat.lt_or_ge j us.length with hj | hj
    · rw [List.getElem?_append_left hj] at hu
      exact .inl hu
    · rw [List.getElem?_append_right hj] at hu
      have h0 : j - us.length = 0 := by
        have := (List.getElem?_eq_some_iff.1 hu).1
        simp at this
        omega
      rw [h0] at hu
      exact .inr ⟨by omega, (Option.some.inj hu).symm⟩
  have hown : ∀ j b, OwnB vs (us ++ [gv]) j b → OwnB vs us j b ∨ (j = k ∧ gv.ownBlock = some b) := by
    intro j b hb
    rcases hb with hb | ⟨u, hu, hb⟩
    · exact .inl (.inl hb)
    · rcases hat j u hu with h1 | ⟨h1, h2⟩
      · exact .inl (.inr ⟨u, h1, hb⟩)
      · exact .inr ⟨h1, by rw [← h2]; exact hb⟩
  have hgb : ∀ j b, OwnB vs us j b → gv.ownBlock = some b → j = k := by
    intro j b hb hgo
    rcases hl with ⟨m, h1, h2⟩ | ⟨b', hb', hf⟩
    · rw [h1] at hgo
      injection hgo with hgo
      subst hgo
      exact h.sep j k m hb (.inl ⟨v, hv, h2⟩)
    · rw [hb'] at hgo
      injection hgo with hgo
      subst hgo
      exact absurd hb (hf j)
  refine ⟨h.row, fun j u v' hu hv' => ?_, fun j j' b h1 h2 => ?_, by simp; omega⟩
  · rcases hat j u hu with h1 | ⟨rfl, rfl⟩
    · exact h.got j u v' h1 hv'
    · obtain rfl : v' = v := Option.some.inj (hv'.symm.trans hv)
      rw [hn]
      exact ⟨xs, hg, hR⟩
  · rcases hown j b h1 with h1 | ⟨rfl, h1⟩
    · rcases hown j' b h2 with h2 | ⟨rfl, h2⟩
      · exact h.sep j j' b h1 h2
      · exact hgb j b h1 h2
    · rcases hown j' b h2 with h2 | ⟨rfl, h2⟩
      · exact (hgb j' b h2 h1).symm
      · rfl
end
/-- While a row grows: index k's, or one that is made now. -/
structure PG (M : Nat → Nat → List Value) (R : Nat → Nat → List Value → Prop) (e sz B : Nat) (vs us : List Value) (k n i : Nat) (gv : Value) (W : World) : Prop where
  p : P2 M R e sz vs us W
  g : W.ownsRow 0 e sz gv (n + i) (marks M k (n + i))
  lies : (∃ A c, vs[k]? = some (.slice A n c) ∧ gv = .slice A (n + i) c) ∨ (∃ b, gv.ownBlock = some b ∧ B ≤ b ∧ ∀ j, ¬ OwnB vs us j b) ∨ gv = .slice none 0 0
section
variable {M : Nat → Nat → List Value} {R : Nat → Nat → List Value → Prop} {e sz B : Nat} {vs us : List Value} {k n i : Nat} {gv : Value} {A W : World}
theorem PG.below (h : PG M R e sz B vs us k n i gv A) (q : Below A.heap.size A W) : PG M R e sz B vs us k n i gv W := ⟨h.p.below q, own_below h.g q, h.lies⟩
theorem PG.start {c : Nat} {Ad : Option Addr} (hv : vs[k]? = some (.slice Ad n c)) (h : P2 M R e sz vs us W) : PG M R e sz B vs us k n 0 (.slice Ad n c) W :=
  ⟨h, h.row k _ hv, .inl ⟨Ad, c, hv, rfl⟩⟩
theorem PG.nil (h : P2 M R e sz vs us W) : PG M R e sz B vs us k 0 0 (.slice none 0 0) W := ⟨h, by simpa [marks] using World.ownsRow_nil W 0 e sz, .inr (.inr rfl)⟩
theorem PG.fits (hM : ∀ k i, (M k i).length = sz) {g c : Nat} (hul : us.length ≤ k) (h : PG M R e sz B vs us k n i (.slice (some ⟨g, 0, none⟩) (n + i) c) A)
    (hW : W.ownsRow 0 e sz (.slice (some ⟨g, 0, none⟩) (n + i + 1) c) (n + i + 1) (marks M k (n + i) ++ M k (n + i))) (hg : A.grownBy W (some g)) : PG M R e sz B vs us k n (i + 1) (.slice (some ⟨g, 0, none⟩) (n + i + 1) c) W := by
  rw [← marks_succ] at hW
  rcases h.lies with ⟨A', c', hv, he⟩ | ⟨b, hb, hB, hf⟩ | h0
  · injection he with e1 _ e3
    subst e1
    subst e3
    obtain ⟨ys, hy⟩ := marks_split M k n (i + 1)
    have hW2 : W.ownsRow 0 e sz (.slice (some ⟨g, 0, none⟩) (n + (i + 1)) c) (n + (i + 1)) (marks M k n ++ ys) := by rw [← hy]; exact hW
    exact ⟨h.p.inplace hM hul hv hW2 hg, hW, .inl ⟨_, _, hv, rfl⟩⟩
  · injection hb with hb
    have hb2 : g = b := hb
    subst hb2
    refine ⟨h.p.keep fun j b hj hlt => hg.block b hlt (by
      intro e
      injection e with e
      subst e
      exact hf j hj), hW, .inr (.inl ⟨g, rfl, hB, hf⟩)⟩
  · injection h0 with h0 _ _
    cases h0
theorem PG.grows {v' : Value} (hB : B ≤ A.heap.size) (h : PG M R e sz B vs us k n i gv A)
    (hW : W.ownsRow A.heap.size e sz v' (n + i + 1) (marks M k (n + i) ++ M k (n + i))) (hg : A.grownBy W none) : PG M R e sz B vs us k n (i + 1) v' W := by
  rw [← marks_succ] at hW
  obtain ⟨g, cap, rfl, hge, _⟩ := hW.form (by omega)
  refine ⟨h.p.keep fun j b hj hlt => hg.block b hlt (by simp), own_zero hW, .inr (.inl ⟨g, rfl, by omega, fun j hj => ?_⟩)⟩
  have := (h.p.lt hj).1
  omega
/-- The grown row joins the list. -/
theorem PG.done {v : Value} (hul : us.length = k) (hv : vs[k]? = some v) (hn : lenV v = n) (h : PG M R e sz B vs us k n 64 gv W) (hR : R k n (marks M k (n + 64))) : P2 M R e sz vs (us ++ [gv]) W := by
  refine h.p.snoc hul hv hn h.g hR ?_
  obtain ⟨g, cap, rfl, _, _⟩ := h.g.form (by omega)
  rcases h.lies with ⟨A, c, hvk, he⟩ | ⟨b, hb, _, hf⟩ | h0
  · injection he with e1 _ _
    subst e1
    obtain rfl : v = .slice (some ⟨g, 0, none⟩) n c := Option.some.inj (hv.symm.trans hvk)
    exact .inl ⟨g, rfl, rfl⟩
  · exact .inr ⟨b, hb, hf⟩
  · injection h0 with h0 _ _
    cases h0
end
end Go.Proofs.YtbaiglikmneicaaDoor.KP

set_option linter.unusedVariables false
set_option linter.unusedSimpArgs false
namespace Go.Proofs.YtbaiglikmneicaaDoor.KP
open Go Go.RowKit Go.Proofs.YtbaiglikmneicaaDoorW.PrintWords Go.Proofs.YtbaiglikmneicaaDoorW.PrintLast Go.Proofs.YtbaiglikmneicaaDoorW.PrintMore

theorem grown_alloc {w w' : World} {o : Obj} {r : Option Nat} (h : (w.alloc o).grownBy w' r) : w.grownBy w' r :=
  ⟨h.os, h.tape, h.output, by have := h.size; rw [World.size_alloc] at this; omega, fun k hk hr => (h.block k (by rw [World.size_alloc]; omega) hr).trans (Below.heap_alloc w o k hk)⟩
theorem alloc_below (w : World) (o : Obj) : Below w.heap.size w (w.alloc o) := (Below.refl _ w).alloc (Nat.le_refl _) o
theorem news_cell {w : World} {cs : List Value} {e : TypeId} : ∀ (j : Nat) (u : Value), cs[j]? = some u → (w.alloc (.cells cs.toArray e)).cell? ((⟨w.heap.size, 0, none⟩ : Addr).add j) = some u :=
  fun j u hu => World.news_of_block (blk_new w (.cells cs.toArray e (0, 0))) j u (by simpa using hu)
theorem Rest.grown {M : Nat → Nat → List Value} {R : Nat → Nat → List Value → Prop} {e sz : Nat} {vs us : List Value} {k n i : Nat} {gV : Value} {w0 A W : World} (h : Rest vs w0 A) (hP : PG M R e sz w0.heap.size vs us k n i gV A) (hg : A.grownBy W gV.ownBlock) : Rest vs w0 W := by
  refine ⟨hg.os.trans h.os, hg.tape.trans h.tape, hg.output.trans h.output, Nat.le_trans h.size hg.size, fun b hb hn => ?_⟩
  refine (hg.block b (Nat.lt_of_lt_of_le hb h.size) fun e => ?_).trans (h.same b hb hn)
  rcases hP.lies with ⟨A', c, hv, he⟩ | ⟨b', hb', hB, _⟩ | h0
  · refine hn _ (List.mem_of_getElem? hv) ?_
    rw [he] at e
    cases A' with
    | none => cases e
    | some a => exact e.symm
  · rw [hb'] at e
    injection e with e
    omega
  · rw [h0] at e
    cases e
theorem Rest.val {vs us : List Value} {e sz n : Nat} {gsV : Value} {w0 A W : World} (h : Rest vs w0 A) (hown : A.ownsRow w0.heap.size e sz gsV n us) (hg : A.grownBy W gsV.ownBlock) : Rest vs w0 W :=
  ⟨hg.os.trans h.os, hg.tape.trans h.tape, hg.output.trans h.output, Nat.le_trans h.size hg.size, fun b hb hn => (hg.block b (Nat.lt_of_lt_of_le hb h.size) fun e => by
    have := (own_lt hown b e.symm).1
    omega).trans (h.same b hb hn)⟩
theorem Rest.vrow {vs : List Value} {v : Value} {w0 A W : World} (h : Rest vs w0 A) (hv : v ∈ vs) (hg : A.grownBy W v.ownBlock) : Rest vs w0 W :=
  ⟨hg.os.trans h.os, hg.tape.trans h.tape, hg.output.trans h.output, Nat.le_trans h.size hg.size, fun b hb hn => (hg.block b (Nat.lt_of_lt_of_le hb h.size) fun e => hn v hv e.symm).trans (h.same b hb hn)⟩
theorem Rest.far {vs : List Value} {w0 A : World} (h : Rest vs w0 A) {g o : Nat} {seg : List Value} (hg : w0.heap.size ≤ g) : Rest vs w0 (A.setCells g o seg) := by
  obtain ⟨s1, s2, s3, s4⟩ := setCells_same g seg o A
  exact ⟨s1.trans h.os, s2.trans h.tape, s3.trans h.output, by rw [s4]; exact h.size, fun b hb hn => (setCells_far seg o b (by omega)).trans (h.same b hb hn)⟩
theorem P2.val {M : Nat → Nat → List Value} {R : Nat → Nat → List Value → Prop} {e sz e2 sz2 n base : Nat} {vs us xs : List Value} {gsV : Value} {A W : World} (hne : e ≠ e2) (h : P2 M R e sz vs us A) (hown : A.ownsRow base e2 sz2 gsV n xs) (hg : A.grownBy W gsV.ownBlock) : P2 M R e sz vs us W :=
  h.keep fun j b hb hlt => hg.block b hlt fun q => by
    obtain ⟨c1, h1⟩ := (h.lt hb).2
    obtain ⟨c2, h2⟩ := own_typed hown b q.symm
    exact blk_ne h1 h2 hne rfl
theorem marks_one {M : Nat → Nat → List Value} (h : ∀ k i, ∀ q ∈ M k i, q.oneCell' = true) (k n : Nat) : ∀ q ∈ marks M k n, q.oneCell' = true := by
  intro q hq
  obtain ⟨i, _, hi⟩ := List.mem_flatMap.1 hq
  exact h k i q hi
theorem marks_get {M : Nat → Nat → List Value} {sz : Nat} (hM : ∀ k i, (M k i).length = sz) (k : Nat) : ∀ (n i q : Nat), i < n → q < sz → (marks M k n)[i * sz + q]? = (M k i)[q]?
  | 0, i, q, hi, _ => absurd hi (Nat.not_lt_zero _)
  | n + 1, i, q, hi, hq => by
    rw [marks_succ]
    have hl := marks_len hM k n
    by_cases hin : i < n
    · have h1 : i * sz + sz ≤ n * sz := by rw [← Nat.succ_mul]; exact Nat.mul_le_mul_right _ hin
      rw [List.getElem?_append_left (by omega), marks_get hM k n i q hin hq]
    · have hie : i = n := by omega
      subst hie
      rw [List.getElem?_append_right (by omega), hl, Nat.add_sub_cancel_left]
theorem own_mark {M : Nat → Nat → List Value} {e sz : Nat} (hM : ∀ k i, (M k i).length = sz) {w : World} {g n m c k i q : Nat} (h : w.ownsRow 0 e sz (.slice (some ⟨g, 0, none⟩) n c) m (marks M k m)) (hnm : n = m) (hi : i < n) (hq : q < sz) : w.cell? ⟨g, i * sz + q, none⟩ = (M k i)[q]? := by
  subst hnm
  have h1 : i * sz + sz ≤ n * sz := by rw [← Nat.succ_mul]; exact Nat.mul_le_mul_right _ hi
  rw [own_cell h (by omega), marks_get hM k n i q hi hq]
/-- A region of calls that lets whatever lay lie. -/
theorem region_clsK {P : Program} {id : Nat} {Q : Exit → Act → World → Prop} {a : Act} {w : World} {l : List Oper} (hm : P.follows .mixedOrders = true) (hB : Region.lexB .any l.toArray = true)
    (h : wpQuiet P l.toArray (fun w' => ∃ i : Wb w, w' = i.val) (fun a' => ∀ w', (∃ i : Wb w, w' = i.val) → Q .normal a' w') l a) : (Code.region id l.toArray true).wp P Q a w :=
  wp_region_quiet (C := fun w' => ∃ i : Wb w, w' = i.val) hm hB ⟨⟨{ w with drawn := w.drawn + 1 }, ⟨rfl, rfl, rfl, Nat.le_refl _, fun _ _ => rfl⟩⟩, rfl⟩ (by simpa using h)
section
variable {P : Program} {ops : Array Oper} {rest : List Oper} {o : Oper} {a : Act} {Q : Exit → Act → World → Prop}
theorem wpList_append_PG {M : Nat → Nat → List Value} {R : Nat → Nat → List Value → Prop} {e sz bytes B : Nat} {z : Value} (hM : ∀ k i, (M k i).length = sz) (hgd : o.guard = none) (s x : Operand) (t : TypeId)
    (ho : o.op = .call { callee := .builtin .append, args := #[s, x], argTypes := #[t, t] }) (ht : P.underlying t = some (.slice e)) (hinfo : (P.info? e).map (fun i => (i.zero, i.size, i.bytes)) = some (some z, sz, bytes)) (hz : z.cells.size = sz) (hs0 : 0 < sz)
    {vs us : List Value} {k n i m : Nat} {gV : Value} {w : World} (hm : m = n + i) (hul : us.length ≤ k) (hs : a.eval s = gV) (hx : a.eval x = .slice (some ⟨w.heap.size, 0, none⟩) 1 1) (h1 : ∀ q ∈ M k m, q.oneCell' = true)
    (hP : PG M R e sz B vs us k n i gV w) (hB : B ≤ w.heap.size) (hl : n + i + 1 ≤ maxLen) (hby : (n + i + 1) * bytes ≤ 140737488355328)
    (h : ∀ gV' w', PG M R e sz B vs us k n (i + 1) gV' w' → w.grownBy w' gV.ownBlock → wpList P ops Q rest (a.put o.dst gV') w') : wpList P ops Q (o :: rest) a (w.alloc (.cells (M k m).toArray e)) := by
  subst hm
  obtain ⟨ti, hti, hq⟩ := Option.map_eq_some_iff.1 hinfo
  simp only [Prod.mk.injEq] at hq
  obtain ⟨q1, q2, q3⟩ := hq
  obtain ⟨Ag, cg, eg⟩ := own_slice hP.g
  subst eg
  have hPa := hP.below (alloc_below w (.cells (M k (n + i)).toArray e))
  by_cases hroom : n + i + 1 ≤ cg
  · obtain ⟨g, eA⟩ : ∃ g, Ag = some ⟨g, 0, none⟩ := by
      rcases hP.g.2 with ⟨h0, _⟩ | ⟨g, cap, cur, hv, _⟩
      · injection h0 with _ _ h0
        omega
      · injection hv with hv _ _
        exact ⟨g, hv⟩
    subst eA
    refine wpList_append_own_spare _ hgd s x t ho 0 e ti sz ht hti q2 g (n + i) cg _ hs hPa.g ⟨w.heap.size, 0, none⟩ 1 1 (M k (n + i)) hx (by rw [hM, Nat.one_mul]) news_cell h1 hroom ?_
    intro w' ho' hg'
    exact h _ w' (hPa.fits hM hul ho' hg') (grown_alloc hg')
  · have hnone : Ag = none → n + i = 0 ∧ cg = 0 := fun hA => by
      subst hA
      rcases hP.g.2 with ⟨h0, _⟩ | ⟨g, cap, cur, hv, _⟩
      · injection h0 with _ h1 h2
        exact ⟨h1, h2⟩
      · cases hv
    refine wpList_append_grows _ hgd s x t ho e ti z sz bytes ht hti q1 q2 q3 hz hs0 Ag (n + i) cg (marks M k (n + i)) hs hnone (marks_len hM k (n + i)) ?_ ⟨w.heap.size, 0, none⟩ 1 1 (M k (n + i)) hx (by rw [hM, Nat.one_mul]) news_cell h1 (by omega) hl hby ?_
    · intro b hb j u hu
      have hown := hPa.g
      rcases hown.2 with ⟨h0, _⟩ | ⟨g, cap, cur, hv, _⟩
      · injection h0 with h0 _ _
        rw [h0] at hb
        cases hb
      · injection hv with hv _ _
        subst hv
        injection hb with hb
        subst hb
        have hj : j < (n + i) * sz := by
          have := (List.getElem?_eq_some_iff.1 hu).1
          rwa [marks_len hM] at this
        have hc := own_cell hown hj
        rw [hu] at hc
        have ea : (Addr.add ⟨g, 0, none⟩ j) = ⟨g, j, none⟩ := by
          simp only [Addr.add, Nat.zero_add]
          split
          · rename_i h0; rw [h0]
          · rfl
        rw [ea]
        exact hc
    · intro v' w' ho' hg'
      exact h v' w' (hPa.grows (by rw [World.size_alloc]; omega) ho' hg') (grown_alloc ⟨hg'.os, hg'.tape, hg'.output, hg'.size, fun k hk _ => hg'.block k hk (by simp)⟩)
theorem own_news {w : World} {base e size g n c : Nat} {xs : List Value} (h : w.ownsRow base e size (.slice (some ⟨g, 0, none⟩) n c) n xs) : ∀ (j : Nat) (u : Value), xs[j]? = some u → w.cell? ((⟨g, 0, none⟩ : Addr).add j) = some u := by
  intro j u hu
  have hj : j < n * size := by
    have := (List.getElem?_eq_some_iff.1 hu).1
    rwa [own_len h] at this
  have hc := own_cell h hj
  rw [hu] at hc
  have ea : (Addr.add ⟨g, 0, none⟩ j) = ⟨g, j, none⟩ := by
    simp only [Addr.add, Nat.zero_add]
    split
    · rename_i h0; rw [h0]
    · rfl
  rw [ea]
  exact hc
/-- 64 elements appended to index k's row. -/
theorem wpList_append_many {M : Nat → Nat → List Value} {R : Nat → Nat → List Value → Prop} {e sz bytes : Nat} {z : Value} (hM : ∀ k i, (M k i).length = sz) (hgd : o.guard = none) (s x : Operand) (t : TypeId)
    (ho : o.op = .call { callee := .builtin .append, args := #[s, x], argTypes := #[t, t] }) (ht : P.underlying t = some (.slice e)) (hinfo : (P.info? e).map (fun i => (i.zero, i.size, i.bytes)) = some (some z, sz, bytes)) (hz : z.cells.size = sz) (hs0 : 0 < sz)
    {vs us ms : List Value} {k n c gm cm : Nat} {Av : Option Addr} {w : World} (hul : us.length = k) (hv : vs[k]? = some (.slice Av n c)) (hs : a.eval s = .slice Av n c) (hx : a.eval x = .slice (some ⟨gm, 0, none⟩) 64 cm)
    (hm : w.ownsRow 0 e sz (.slice (some ⟨gm, 0, none⟩) 64 cm) 64 ms) (h1 : ∀ q ∈ ms, q.oneCell' = true) (hP : P2 M R e sz vs us w) (hR : R k n (marks M k n ++ ms)) (hl : n + 64 ≤ maxLen) (hby : (n + 64) * bytes ≤ 140737488355328)
    (h : ∀ gV' w', P2 M R e sz vs (us ++ [gV']) w' → w.grownBy w' (Value.slice Av n c).ownBlock → gV'.oneCell' = true → wpList P ops Q rest (a.put o.dst gV') w') : wpList P ops Q (o :: rest) a w := by
  obtain ⟨ti, hti, hq⟩ := Option.map_eq_some_iff.1 hinfo
  simp only [Prod.mk.injEq] at hq
  obtain ⟨q1, q2, q3⟩ := hq
  have hrow := hP.row k _ hv
  have hrow2 : w.ownsRow 0 e sz (.slice Av n c) n (marks M k n) := hrow
  by_cases hroom : n + 64 ≤ c
  · obtain ⟨g, eA⟩ : ∃ g, Av = some ⟨g, 0, none⟩ := by
      rcases hrow2.2 with ⟨h0, _⟩ | ⟨g, cap, cur, hv, _⟩
      · injection h0 with _ _ h0
        omega
      · injection hv with hv _ _
        exact ⟨g, hv⟩
    subst eA
    refine wpList_append_own_spare _ hgd s x t ho 0 e ti sz ht hti q2 g n c _ hs hrow2 ⟨gm, 0, none⟩ 64 cm ms hx (own_len hm) (own_news hm) h1 hroom ?_
    intro w' ho' hg'
    exact h _ w' ((hP.inplace hM (Nat.le_of_eq hul) hv ho' hg').snoc hul hv rfl ho' hR (.inl ⟨g, rfl, rfl⟩)) hg' rfl
  · have hnone : Av = none → n = 0 ∧ c = 0 := fun hA => by
      subst hA
      rcases hrow2.2 with ⟨h0, _⟩ | ⟨g, cap, cur, hv, _⟩
      · injection h0 with _ h1 h2
        exact ⟨h1, h2⟩
      · cases hv
    refine wpList_append_grows _ hgd s x t ho e ti z sz bytes ht hti q1 q2 q3 hz hs0 Av n c (marks M k n) hs hnone (marks_len hM k n) ?_ ⟨gm, 0, none⟩ 64 cm ms hx (own_len hm) (own_news hm) h1 (by omega) hl hby ?_
    · intro b hb j u hu
      rcases hrow2.2 with ⟨h0, _⟩ | ⟨g, cap, cur, hv, _⟩
      · injection h0 with h0 _ _
        rw [h0] at hb
        cases hb
      · injection hv with hv _ _
        subst hv
        injection hb with hb
        subst hb
        exact own_news hrow2 j u hu
    · intro v' w' ho' hg'
      obtain ⟨g, cap, rfl, hge, _⟩ := ho'.form (by omega)
      have hk2 : P2 M R e sz vs us w' := hP.keep fun j b hj hlt => hg'.block b hlt (by simp)
      refine h _ w' (hk2.snoc hul hv rfl (own_zero ho') hR (.inr ⟨g, rfl, fun j hj => ?_⟩)) ⟨hg'.os, hg'.tape, hg'.output, hg'.size, fun k hk _ => hg'.block k hk (by simp)⟩ rfl
      have := (hP.lt hj).1
      omega
/-- A value appended to a list of values. -/
theorem wpList_append_val {e bytes base : Nat} {z : Value} (hgd : o.guard = none) (s x : Operand) (t : TypeId)
    (ho : o.op = .call { callee := .builtin .append, args := #[s, x], argTypes := #[t, t] }) (ht : P.underlying t = some (.slice e)) (hinfo : (P.info? e).map (fun i => (i.zero, i.size, i.bytes)) = some (some z, 1, bytes)) (hz : z.cells.size = 1)
    {us : List Value} {k : Nat} {gsV gv : Value} {w : World} (hs : a.eval s = gsV) (hx : a.eval x = .slice (some ⟨w.heap.size, 0, none⟩) 1 1) (h1 : gv.oneCell' = true)
    (hown : w.ownsRow base e 1 gsV k us) (hB : base ≤ w.heap.size) (hl : k + 1 ≤ maxLen) (hby : (k + 1) * bytes ≤ 140737488355328)
    (h : ∀ v' w', w'.ownsRow base e 1 v' (k + 1) (us ++ [gv]) → w.grownBy w' gsV.ownBlock → wpList P ops Q rest (a.put o.dst v') w') : wpList P ops Q (o :: rest) a (w.alloc (.cells #[gv] e)) := by
  obtain ⟨ti, hti, hq⟩ := Option.map_eq_some_iff.1 hinfo
  simp only [Prod.mk.injEq] at hq
  obtain ⟨q1, q2, q3⟩ := hq
  refine wpList_append_own_at _ hgd s x t ho base e ti z 1 bytes ht hti q1 q2 q3 hz (by decide) gsV k us hs (own_below hown (alloc_below w (.cells #[gv] e))) ⟨w.heap.size, 0, none⟩ 1 1 [gv] hx rfl (news_cell (cs := [gv])) (by intro u hu; simp at hu; rw [hu]; exact h1) hl hby (by rw [World.size_alloc]; omega) ?_
  intro v' w' ho' hg' _ _
  exact h v' w' ho' (grown_alloc hg')
end
end Go.Proofs.YtbaiglikmneicaaDoor.KP

set_option linter.unusedVariables false
set_option linter.unusedSimpArgs false
namespace Go.Proofs.YtbaiglikmneicaaDoor.KP
open Go Go.RowKit Go.Proofs.YtbaiglikmneicaaDoorW.PrintWords Go.Proofs.YtbaiglikmneicaaDoorW.PrintLast Go.Proofs.YtbaiglikmneicaaDoorW.PrintMore
open Go.Proofs.YtbaiglikmneicaaDoor.KM (depotkit_markText.f depotkit_markText.calls)

/-- The marks of ApartFields. -/
def MF (k i : Nat) : List Value := [.string (strOfNums [35, (k : Int) % 256, ((k : Int) / 256) % 256, ((k : Int) / 65536) % 256, 47, (i : Int) % 256, ((i : Int) / 256) % 256, ((i : Int) / 65536) % 256]), .string ⟨#[110, 111]⟩]
theorem MF_len (k i : Nat) : (MF k i).length = 2 := rfl
/-- What the grown rows hold, in the second and third loop. -/
def RM (j n : Nat) (xs : List Value) : Prop := xs = marks MF j (n + 64)
/-- .. in the fourth and fifth. -/
def RT (j n : Nat) (xs : List Value) : Prop := ∃ ys, xs = marks MF j n ++ ys
theorem MF_one (k i : Nat) : ∀ q ∈ MF k i, q.oneCell' = true := by
  intro q hq
  simp only [MF, List.mem_cons, List.not_mem_nil, or_false] at hq
  rcases hq with rfl | rfl <;> rfl
theorem info50K : (Tryd.prog.info? 50).map (fun i => (i.zero, i.size, i.bytes)) = some (some (.agg #[.string ⟨#[]⟩, .string ⟨#[]⟩]), 2, 32) := by kernel_rfl
theorem info39K : (Tryd.prog.info? 39).map (fun i => (i.zero, i.size, i.bytes)) = some (some (.slice none 0 0), 1, 24) := by kernel_rfl
theorem eqK50 (d : Nat) (w : World) (x0 y0 : ByteArray) (x1 y1 : ByteArray) :
    (Op.equalIn (d + 2) 50 (.agg #[.string x0, .string x1]) (.agg #[.string y0, .string y1])).run Tryd.prog w = .ok (x0.toList == y0.toList && (x1.toList == y1.toList)) w := by
  refine eqA_of Tryd.underlying50 (by kernel_rfl) ?_
  refine eqf_cons (by rfl) (by go_simp; rfl) (by go_simp; rfl) (by go_simp) ?_
  exact eqf_last (by rfl) (by go_simp; rfl) (by go_simp; rfl) (by go_simp)
theorem eqS50 (w : World) (x0 x1 : ByteArray) : (Op.equalIn 10000 50 (.agg #[.string x0, .string x1]) (.agg #[.string x0, .string x1])).run Tryd.prog w = .ok true w :=
  (eqK50 9998 w x0 x0 x1 x1).trans (by simp)
def MFs (k i : Nat) : ByteArray := strOfNums [35, (k : Int) % 256, ((k : Int) / 256) % 256, ((k : Int) / 65536) % 256, 47, (i : Int) % 256, ((i : Int) / 256) % 256, ((i : Int) / 65536) % 256]
theorem markText_calls (k i : Nat) (ki ii : Int) (hk : ki = (k : Int)) (hi : ii = (i : Int)) (w : World) : Calls Tryd.prog 75 #[.int .i64 ki, .int .i64 ii] w fun e w' => e = .returned (.string (MFs k i)) ∧ Below w.heap.size w w' := by
  subst hk hi
  exact depotkit_markText.calls k i _ w rfl
set_option maxHeartbeats 16000000 in
set_option maxRecDepth 100000 in
theorem apartFields_calls (V : Value) (vs : List Value) (bO : Nat) (w0 : World) (hO : w0.ownsRow bO 39 1 V vs.length vs) (hrows : ∀ (j : Nat) (v : Value), vs[j]? = some v → ∃ xs, w0.ownsRow 0 50 2 v (lenV v) xs) (hap : apart vs) (hlen : vs.length ≤ 1000000000) (hln : ∀ v ∈ vs, lenV v ≤ 1000000000) :
    Calls Tryd.prog 62 #[V] w0 fun e w' => e = .returned (.bool true) ∧ Rest vs w0 w' := by
  obtain ⟨AO, cO, rfl⟩ := own_slice hO
  have HO := Aside0.mk hO
  have HP := Aside0.mk (P1.start (M := MF) hrows)
  have HAP := Aside0.mk hap
  have HLN := Aside0.mk hln
  have HR := Aside0.mk (Rest.refl vs w0)
  -- the outer row lies through all
  have houter := fun (W : World) (h : Rest vs w0 W) => own_keep hO (fun k hk => h.same k (own_lt hO k hk).2 (fun v hv hb => by
    obtain ⟨j, hj⟩ := List.mem_iff_getElem?.1 hv
    obtain ⟨xs, hx⟩ := hrows j v hj
    obtain ⟨c1, h1⟩ := own_typed hO k hk
    obtain ⟨c2, h2⟩ := own_typed hx k hb
    exact blk_ne h1 h2 (by decide) rfl))
  have HOU := Aside0.mk houter
  clear hO hrows hap hln houter
  go_enter Tryd.func62, Tryd.ntmps62
  go_wp2
  go_loopw [3] (fun kv wr => ∃ k : Nat, kv = .int .i64 (k : Nat) ∧ k ≤ vs.length ∧ Aside0 (P1 MF 50 2 vs k 0 wr) ∧ Aside0 (Rest vs w0 wr)) (fun kv _ => vs.length - (RowKit.intOf kv).toNat)
  case atStart => exact ⟨0, rfl, Nat.zero_le _, HP, HR⟩
  case round =>
    obtain ⟨k, rfl, hk, HPk, HRk⟩ := hrel
    by_cases hlt : k < vs.length
    · have hov := HOU.out _ HRk.out
      have hvk : vs[k]? = some vs[k] := List.getElem?_eq_getElem hlt
      obtain ⟨v, hv⟩ : ∃ v, vs[k] = v := ⟨_, rfl⟩
      rw [hv] at hvk
      obtain ⟨GO, capO, eO, _, _⟩ := hov.form (by omega)
      have eA : AO = some ⟨GO, 0, none⟩ := by injection eO
      have xk : wr.cell? ⟨GO, k, none⟩ = some v := by
        rw [eA] at hov
        exact (own_cell hov (by omega)).trans hvk
      obtain ⟨xs0, hx0, _⟩ := HPk.out.row k v hvk
      obtain ⟨Av, cv, ev⟩ := own_slice hx0
      obtain ⟨n, hn⟩ : ∃ n, lenV v = n := ⟨_, rfl⟩
      have hnl : n ≤ 1000000000 := by rw [← hn]; exact HLN.out v (by rw [← hv]; exact List.getElem_mem hlt)
      rw [hn] at ev
      have HVK := Aside0.mk hvk
      have HXK := Aside0.mk xk
      have EA := Aside0.mk eA
      subst ev
      clear hx0 hv hov eO hn
      rw [EA.out]
      clear xk hvk eA
      have xk := HXK.out
      go_wp2
      go_loopw [4] (fun iv wr => ∃ i : Nat, iv = .int .i64 (i : Nat) ∧ i ≤ n ∧ Aside0 (P1 MF 50 2 vs k i wr) ∧ Aside0 (Rest vs w0 wr)) (fun iv _ => n - (RowKit.intOf iv).toNat)
      case atStart => exact ⟨0, rfl, Nat.zero_le _, HPk, HRk⟩
      case round =>
        obtain ⟨i, rfl, hi, HPi, HRi⟩ := hrel
        clear xk
        have hov := HOU.out _ HRi.out
        have xk : wr.cell? ⟨GO, k, none⟩ = some (.slice Av n cv) := by
          rw [EA.out] at hov
          exact (own_cell hov (by omega)).trans HVK.out
        clear hov
        by_cases hin : i < n
        · obtain ⟨xs, hx, _, _⟩ := HPi.out.row k _ HVK.out
          obtain ⟨g, cap, eg, _, _⟩ := hx.form (by show 0 < n; omega)
          have eg2 : Av = some ⟨g, 0, none⟩ := by injection eg
          subst eg2
          have HX := Aside0.mk hx
          have hxk : ∀ j : Wb wr, j.val.cell? ⟨GO, k, none⟩ = some (.slice (some ⟨g, 0, none⟩) n cv) := fun j => Kd.cell_heap (fun b hb => j.bel.block b hb) xk
          have hMT : ∀ j : Wb wr, Calls Tryd.prog 75 #[.int .i64 (k : Nat), .int .i64 (i : Nat)] j.val fun e w' => e = .returned (.string (strOfNums [35, (k : Int) % 256, ((k : Int) / 256) % 256, ((k : Int) / 65536) % 256, 47, (i : Int) % 256, ((i : Int) / 256) % 256, ((i : Int) / 65536) % 256])) ∧ ∃ q : Wb wr, w' = q.val := fun j =>
            (depotkit_markText.calls k i _ j.val rfl).mono fun e w' h => ⟨h.1, ⟨⟨w', j.bel.trans (h.2.mono j.bel.size)⟩, rfl⟩⟩
          have hnw : Nonempty (Wb wr) := ⟨⟨wr, Below.refl _ _⟩⟩
          have HMT := Aside0.mk hMT
          clear hx eg hMT
          go_wp2
          refine region_lastL (by simp) (by kernel_rfl) (by kernel_rfl) (by kernel_rfl) (by kernel_rfl) ?_
          simp only [List.dropLast, List.getLast]
          repeat (go_big_quiet_step (first | (go_at_call 75; exact HMT.out _)))
          refine wpQuiet_nil ?_
          intro _ hw'
          obtain ⟨j, hw''⟩ := hw'
          subst hw''
          clear hxk xk
          refine wp_store_own (e := 50) (size := 2) 50 (.tmp 40) (.tmp 39) rfl (off := i * 2) _ (MF k i) rfl rfl rfl (by kernel_rfl) (MF_one k i) (own_below HX.out j.bel) (by show i * 2 + 2 ≤ n * 2; omega) ?_
          go_wp2
          go_roundw
          case rel => exact ⟨i + 1, by simp, by omega, ⟨(HPi.out.below j.bel).seg MF_len HAP.out HVK.out hin⟩, ⟨(HRi.out.below j.bel).seg (List.mem_of_getElem? HVK.out) rfl⟩⟩
          case measure => simp [RowKit.intOf]; omega
        · have hie : i = n := by omega
          subst hie
          go_wp2
          go_roundw
          case rel => exact ⟨k + 1, by simp, by omega, ⟨HPi.out.next HVK.out⟩, HRi⟩
          case measure => simp [RowKit.intOf]; omega
    · have hke : k = vs.length := by omega
      subst hke
      clear hk hlt
      have HP2 := Aside0.mk (P2.start (R := RM) HAP.out HPk.out)
      go_wp2
      go_loopw [5, 6] (fun gsv kv wr => ∃ (k : Nat) (us : List Value) (gsV : Value), gsV = gsv ∧ kv = .int .i64 (k : Nat) ∧ k ≤ vs.length ∧ Aside0 (us.length = k) ∧ Aside0 (wr.ownsRow w0.heap.size 39 1 gsV k us) ∧ Aside0 (P2 MF RM 50 2 vs us wr) ∧ Aside0 (Rest vs w0 wr)) (fun _ kv _ => vs.length - (RowKit.intOf kv).toNat)
      case atStart => exact ⟨0, [], _, rfl, rfl, Nat.zero_le _, ⟨rfl⟩, ⟨World.ownsRow_nil _ _ _ _⟩, HP2, HRk⟩
      case round =>
        clear HP2 HRk HPk
        obtain ⟨k, us, gsV, rfl, rfl, hk, HUL, HGS, HP2, HR2⟩ := hrel
        by_cases hlt : k < vs.length
        · have hov := HOU.out _ HR2.out
          have hvk : vs[k]? = some vs[k] := List.getElem?_eq_getElem hlt
          obtain ⟨v, hv⟩ : ∃ v, vs[k] = v := ⟨_, rfl⟩
          rw [hv] at hvk
          obtain ⟨GO, capO, eO, _, _⟩ := hov.form (by omega)
          have eA : AO = some ⟨GO, 0, none⟩ := by injection eO
          have hx0 := HP2.out.row k v hvk
          obtain ⟨Av, cv, ev⟩ := own_slice hx0
          obtain ⟨n, hn⟩ : ∃ n, lenV v = n := ⟨_, rfl⟩
          have hnl : n ≤ 1000000000 := by rw [← hn]; exact HLN.out v (by rw [← hv]; exact List.getElem_mem hlt)
          rw [hn] at ev
          subst ev
          have HVK := Aside0.mk hvk
          have EA := Aside0.mk eA
          have xkk : ∀ W, Rest vs w0 W → W.cell? ⟨GO, k, none⟩ = some (.slice Av n cv) := fun W h => by
            have h1 := HOU.out W h
            rw [EA.out] at h1
            exact (own_cell h1 (by omega)).trans HVK.out
          have XKK := Aside0.mk xkk
          have xk := XKK.out _ HR2.out
          clear hx0 hv hov eO hn hvk eA xkk
          rw [EA.out]
          go_wp2
          go_loopw [7, 8] (fun gv iv wr => ∃ (i : Nat) (gV : Value), gV = gv ∧ iv = .int .i64 (i : Nat) ∧ i ≤ 64 ∧ Aside0 (PG MF RM 50 2 w0.heap.size vs us k n i gV wr) ∧ Aside0 (wr.ownsRow w0.heap.size 39 1 gsV k us) ∧ Aside0 (Rest vs w0 wr)) (fun _ iv _ => 64 - (RowKit.intOf iv).toNat)
          case atStart => exact ⟨0, _, rfl, rfl, Nat.zero_le _, ⟨PG.start HVK.out HP2.out⟩, HGS, HR2⟩
          case round =>
            clear xk
            obtain ⟨i, gV, rfl, rfl, hi, HPG, HGS2, HR3⟩ := hrel
            by_cases hin : i < 64
            · have xk := XKK.out _ HR3.out
              have hmt := markText_calls k (n + i) (k : Nat) ((n : Int) + (i : Int)) rfl (by simp) wr
              have HMT := Aside0.mk hmt
              obtain ⟨Ag, cg, eg⟩ := own_slice HPG.out.g
              subst eg
              clear hmt
              go_wp2_with fail
              refine HMT.out.mono ?_
              rintro e wm ⟨rfl, hbm⟩
              have HPGm := Aside0.mk (HPG.out.below hbm)
              have HGSm := Aside0.mk (own_below HGS2.out hbm)
              have HRm := Aside0.mk (HR3.out.below hbm)
              clear hbm xk
              go_wp2_with (first | (at_builtin; refine wpList_append_PG (M := MF) (e := 50) (sz := 2) (bytes := 32) MF_len rfl (.tmp 55) (.tmp 66) 39 rfl Tryd.underlying39 info50K rfl (by decide) (m := n + i) rfl (Nat.le_of_eq HUL.out) rfl rfl (MF_one _ _) HPGm.out HRm.out.size (by unfold maxLen; omega) (by omega) ?_))
              intro gV2 w2 hPG2 hg2
              have HR2b := Aside0.mk (HRm.out.grown HPGm.out hg2)
              have HGS2b := Aside0.mk (own_keep HGSm.out fun b hb => hg2.block b (own_lt HGSm.out b hb).2 (fun e => by
                obtain ⟨c1, h1⟩ := own_typed HGSm.out b hb
                obtain ⟨c2, h2⟩ := own_typed HPGm.out.g b e.symm
                exact blk_ne h1 h2 (by decide) rfl))
              have HPG2 := Aside0.mk hPG2
              clear hPG2 hg2
              go_wp2_with fail
              go_roundw
              case rel => exact ⟨i + 1, gV2, rfl, by simp, by omega, HPG2, HGS2b, HR2b⟩
              case measure => simp [RowKit.intOf]; omega
            · have hie : i = 64 := by omega
              subst hie
              obtain ⟨Ag, cg, eg⟩ := own_slice HPG.out.g
              subst eg
              have hpd := HPG.out.done HUL.out HVK.out rfl rfl
              have HPD := Aside0.mk hpd
              clear hpd
              go_wp2_with (first | (at_builtin; refine wpList_append_val (e := 39) (bytes := 24) rfl (.tmp 68) (.tmp 70) 33 rfl Tryd.underlying33 info39K rfl (gsV := gsV) rfl rfl rfl HGS2.out HR3.out.size (by unfold maxLen; omega) (by omega) ?_))
              intro gsV2 w2 hgs2 hg2
              have HP2b := Aside0.mk (HPD.out.val (by decide) HGS2.out hg2)
              have HR2b := Aside0.mk (HR3.out.val HGS2.out hg2)
              have HGS2b := Aside0.mk hgs2
              have HUL2 := Aside0.mk (show (us ++ [Value.slice Ag (n + 64) cg]).length = k + 1 by rw [List.length_append, HUL.out]; rfl)
              clear hgs2 hg2
              go_wp2_with fail
              go_roundw
              case rel => exact ⟨k + 1, _, gsV2, rfl, by simp, by omega, HUL2, HGS2b, HP2b, HR2b⟩
              case measure => simp [RowKit.intOf]; omega
        · have hke : k = vs.length := by omega
          subst hke
          clear hk hlt
          go_wp2
          go_loopw [9] (fun kv wr => ∃ k : Nat, kv = .int .i64 (k : Nat) ∧ k ≤ vs.length ∧ Aside0 (wr.ownsRow w0.heap.size 39 1 gsV vs.length us) ∧ Aside0 (P2 MF RM 50 2 vs us wr) ∧ Aside0 (Rest vs w0 wr)) (fun kv _ => vs.length - (RowKit.intOf kv).toNat)
          case atStart => exact ⟨0, rfl, Nat.zero_le _, HGS, HP2, HR2⟩
          case round =>
            clear HP2 HR2 HGS
            obtain ⟨k, rfl, hk, HGS, HP2, HR2⟩ := hrel
            obtain ⟨Ags, cgs, egs⟩ := own_slice HGS.out
            subst egs
            by_cases hlt : k < vs.length
            · have hov := HOU.out _ HR2.out
              have hvk : vs[k]? = some vs[k] := List.getElem?_eq_getElem hlt
              obtain ⟨v, hv⟩ : ∃ v, vs[k] = v := ⟨_, rfl⟩
              rw [hv] at hvk
              have huk : us[k]? = some (us[k]'(by rw [HUL.out]; exact hlt)) := List.getElem?_eq_getElem _
              obtain ⟨u, hu⟩ : ∃ u, us[k]'(by rw [HUL.out]; exact hlt) = u := ⟨_, rfl⟩
              rw [hu] at huk
              obtain ⟨GO, capO, eO, _, _⟩ := hov.form (by omega)
              have eA : AO = some ⟨GO, 0, none⟩ := by injection eO
              obtain ⟨GG, capG, eG, _, _⟩ := HGS.out.form (by omega)
              have eAG : Ags = some ⟨GG, 0, none⟩ := by injection eG
              subst eAG
              have hx0 := HP2.out.row k v hvk
              obtain ⟨Av, cv, ev⟩ := own_slice hx0
              obtain ⟨xg, hg0, hxg⟩ := HP2.out.got k u v huk hvk
              clear hxg
              obtain ⟨n, hn⟩ : ∃ n, lenV v = n := ⟨_, rfl⟩
              have hnl : n ≤ 1000000000 := by rw [← hn]; exact HLN.out v (by rw [← hv]; exact List.getElem_mem hlt)
              rw [hn] at ev hg0
              subst ev
              obtain ⟨g, cu, eu, _, _⟩ := hg0.form (by omega)
              subst eu
              have HVK := Aside0.mk hvk
              have HUK := Aside0.mk huk
              have EA := Aside0.mk eA
              have XKK := Aside0.mk (fun (W : World) (h : Rest vs w0 W) => show W.cell? ⟨GO, k, none⟩ = some (.slice Av n cv) by
                have h1 := HOU.out W h
                rw [EA.out] at h1
                exact (own_cell h1 (by omega)).trans HVK.out)
              have YKK := Aside0.mk (fun (W : World) (h : W.ownsRow w0.heap.size 39 1 (.slice (some ⟨GG, 0, none⟩) vs.length cgs) vs.length us) => show W.cell? ⟨GG, k, none⟩ = some (.slice (some ⟨g, 0, none⟩) (n + 64) cu) from (own_cell h (by omega)).trans HUK.out)
              have xk := XKK.out _ HR2.out
              have yk := YKK.out _ HGS.out
              clear hx0 hg0 hv hu hov eO eG hn hvk huk eA
              rw [EA.out]
              go_wp2
              go_loopw [10] (fun iv wr => ∃ i : Nat, iv = .int .i64 (i : Nat) ∧ i ≤ n + 64 ∧ Aside0 (wr.ownsRow w0.heap.size 39 1 (.slice (some ⟨GG, 0, none⟩) vs.length cgs) vs.length us) ∧ Aside0 (P2 MF RM 50 2 vs us wr) ∧ Aside0 (Rest vs w0 wr)) (fun iv _ => n + 64 - (RowKit.intOf iv).toNat)
              case atStart => exact ⟨0, rfl, Nat.zero_le _, HGS, HP2, HR2⟩
              case round =>
                clear xk yk
                obtain ⟨i, rfl, hi, HGS3, HP3, HR3⟩ := hrel
                have xk := XKK.out _ HR3.out
                have yk := YKK.out _ HGS3.out
                by_cases hin : i < n + 64
                · obtain ⟨xg3, hg3, hxg3⟩ := HP3.out.got k _ _ HUK.out HVK.out
                  have hxg4 : xg3 = marks MF k (n + 64) := hxg3
                  subst hxg4
                  clear hxg3
                  have hv3 := HP3.out.row k _ HVK.out
                  have hu0 : ∀ j : Wb wr, j.val.cell? ⟨g, i * 2, none⟩ = some (.string (MFs k i)) := fun j => Kd.cell_heap (fun b hb => j.bel.block b hb) ((own_mark (q := 0) MF_len hg3 rfl hin (by decide)).trans rfl)
                  have hu1 : ∀ j : Wb wr, j.val.cell? ⟨g, i * 2 + 1, none⟩ = some (.string ⟨#[110, 111]⟩) := fun j => Kd.cell_heap (fun b hb => j.bel.block b hb) ((own_mark (q := 1) MF_len hg3 rfl hin (by decide)).trans rfl)
                  have hxk : ∀ j : Wb wr, j.val.cell? ⟨GO, k, none⟩ = some (.slice Av n cv) := fun j => Kd.cell_heap (fun b hb => j.bel.block b hb) xk
                  have hyk : ∀ j : Wb wr, j.val.cell? ⟨GG, k, none⟩ = some (.slice (some ⟨g, 0, none⟩) (n + 64) cu) := fun j => Kd.cell_heap (fun b hb => j.bel.block b hb) yk
                  have HMT := Aside0.mk (fun j : Wb wr => show Calls Tryd.prog 75 #[.int .i64 (k : Nat), .int .i64 (i : Nat)] j.val fun e w' => e = .returned (.string (MFs k i)) ∧ ∃ q : Wb wr, w' = q.val from
                    (markText_calls k i k i rfl rfl j.val).mono fun e w' h => ⟨h.1, ⟨⟨w', j.bel.trans (h.2.mono j.bel.size)⟩, rfl⟩⟩)
                  have hnw : Nonempty (Wb wr) := ⟨⟨wr, Below.refl _ _⟩⟩
                  have heq := fun w : World => eqS50 w (MFs k i) ⟨#[110, 111]⟩
                  by_cases hiv : i < n
                  case' pos =>
                    obtain ⟨g1, c1, e1, _, _⟩ := hv3.form (by show 0 < n; omega)
                    have e2 : Av = some ⟨g1, 0, none⟩ := by injection e1
                    subst e2
                    have hv0 : ∀ j : Wb wr, j.val.cell? ⟨g1, i * 2, none⟩ = some (.string (MFs k i)) := fun j => Kd.cell_heap (fun b hb => j.bel.block b hb) ((own_mark (q := 0) MF_len hv3 rfl hiv (by decide)).trans rfl)
                    have hv1 : ∀ j : Wb wr, j.val.cell? ⟨g1, i * 2 + 1, none⟩ = some (.string ⟨#[110, 111]⟩) := fun j => Kd.cell_heap (fun b hb => j.bel.block b hb) ((own_mark (q := 1) MF_len hv3 rfl hiv (by decide)).trans rfl)
                    have hd0 : decide (i < n) = true := decide_eq_true hiv
                    have hd1 : decide ((i : Int) < (n : Int)) = true := decide_eq_true (by omega)
                    clear e1
                  case' neg =>
                    have hd0 : decide (i < n) = false := decide_eq_false hiv
                    have hd1 : decide ((i : Int) < (n : Int)) = false := decide_eq_false (by omega)
                  all_goals
                    clear hg3 hv3
                    go_wp2
                    refine region_clsK (by kernel_rfl) (by kernel_rfl) ?_
                    repeat (go_big_quiet_step (first | (go_at_call 75; exact HMT.out _)))
                    refine wpQuiet_nil ?_
                    intro _ hw'
                    obtain ⟨j, hw''⟩ := hw'
                    subst hw''
                    have HGS4 := Aside0.mk (own_below HGS3.out j.bel)
                    have HP4 := Aside0.mk (HP3.out.below j.bel)
                    have HR4 := Aside0.mk (HR3.out.below j.bel)
                    clear hu0 hu1 hxk hyk xk yk heq
                    go_wp2
                    go_roundw
                    case rel => exact ⟨i + 1, by simp, by omega, HGS4, HP4, HR4⟩
                    case measure => simp [RowKit.intOf]; omega
                · have hie : i = n + 64 := by omega
                  subst hie
                  go_wp2
                  go_roundw
                  case rel => exact ⟨k + 1, by simp, by omega, HGS3, HP3, HR3⟩
                  case measure => simp [RowKit.intOf]; omega
            · have hke : k = vs.length := by omega
              subst hke
              have HP0 := Aside0.mk (HP2.out.rows (R' := RT))
              clear hk hlt HP2
              go_wp2
              go_loopw [11] (fun kv wr => ∃ (k : Nat) (us : List Value), kv = .int .i64 (k : Nat) ∧ k ≤ vs.length ∧ Aside0 (us.length = vs.length) ∧ Aside0 (wr.ownsRow w0.heap.size 39 1 (.slice Ags vs.length cgs) vs.length us) ∧ Aside0 (P2 MF RT 50 2 vs (us.take k) wr) ∧ Aside0 (Rest vs w0 wr)) (fun kv _ => vs.length - (RowKit.intOf kv).toNat)
              case atStart => exact ⟨0, us, rfl, Nat.zero_le _, HUL, HGS, HP0, HR2⟩
              case round =>
                clear HP0 HR2 HGS HUL
                obtain ⟨k, us, rfl, hk, HUL, HGS, HP2, HR2⟩ := hrel
                by_cases hlt : k < vs.length
                · have HTL := Aside0.mk (show (us.take k).length = k by rw [List.length_take, HUL.out]; omega)
                  obtain ⟨GO, capO, eO, _, _⟩ := (HOU.out _ HR2.out).form (by omega)
                  have eA : AO = some ⟨GO, 0, none⟩ := by injection eO
                  obtain ⟨GG, capG, eG, _, _⟩ := HGS.out.form (by omega)
                  have eAG : Ags = some ⟨GG, 0, none⟩ := by injection eG
                  subst eAG
                  have EA := Aside0.mk eA
                  clear eO eG eA
                  rw [EA.out]
                  go_wp2
                  go_loopw [12, 13] (fun mv iv wr => ∃ (i : Nat) (mV : Value), mV = mv ∧ iv = .int .i64 (i : Nat) ∧ i ≤ 64 ∧ Aside0 (PG MF RT 50 2 w0.heap.size vs (us.take k) (k + vs.length) 0 i mV wr) ∧ Aside0 (wr.ownsRow w0.heap.size 39 1 (.slice (some ⟨GG, 0, none⟩) vs.length cgs) vs.length us) ∧ Aside0 (Rest vs w0 wr)) (fun _ iv _ => 64 - (RowKit.intOf iv).toNat)
                  case atStart => exact ⟨0, _, rfl, rfl, Nat.zero_le _, ⟨PG.nil HP2.out⟩, HGS, HR2⟩
                  case round =>
                    clear HP2 HGS HR2
                    obtain ⟨i, mV, rfl, rfl, hi, HPG, HGS2, HR3⟩ := hrel
                    by_cases hin : i < 64
                    · have HMT := Aside0.mk (markText_calls (k + vs.length) i ((k : Int) + (vs.length : Int)) (i : Nat) (by simp) rfl wr)
                      go_wp2_with fail
                      refine HMT.out.mono ?_
                      rintro e wm ⟨rfl, hbm⟩
                      have HPGm := Aside0.mk (HPG.out.below hbm)
                      have HGSm := Aside0.mk (own_below HGS2.out hbm)
                      have HRm := Aside0.mk (HR3.out.below hbm)
                      clear hbm
                      obtain ⟨Am, cm, em⟩ := own_slice HPGm.out.g
                      rw [Nat.zero_add] at em
                      subst em
                      go_wp2_with (first | (at_builtin; refine wpList_append_PG (M := MF) (e := 50) (sz := 2) (bytes := 32) MF_len rfl (.tmp 134) (.tmp 142) 39 rfl Tryd.underlying39 info50K rfl (by decide) (m := i) (Nat.zero_add i).symm (by rw [HTL.out]; omega) rfl rfl (MF_one _ _) HPGm.out HRm.out.size (by unfold maxLen; omega) (by omega) ?_))
                      intro mV2 w2 hPG2 hg2
                      have HR2b := Aside0.mk (HRm.out.grown HPGm.out hg2)
                      have HGS2b := Aside0.mk (own_keep HGSm.out fun b hb => hg2.block b (own_lt HGSm.out b hb).2 (fun e => by
                        obtain ⟨c1, h1⟩ := own_typed HGSm.out b hb
                        obtain ⟨c2, h2⟩ := own_typed HPGm.out.g b e.symm
                        exact blk_ne h1 h2 (by decide) rfl))
                      have HPG2 := Aside0.mk hPG2
                      clear hPG2 hg2
                      go_wp2_with fail
                      go_roundw
                      case rel => exact ⟨i + 1, mV2, rfl, by simp, by omega, HPG2, HGS2b, HR2b⟩
                      case measure => simp [RowKit.intOf]; omega
                    · have hie : i = 64 := by omega
                      subst hie
                      have hmg : wr.ownsRow 0 50 2 mV 64 (marks MF (k + vs.length) 64) := by
                        have h := HPG.out.g
                        rwa [Nat.zero_add] at h
                      obtain ⟨gm, cm, em, _, _⟩ := hmg.form (by decide)
                      subst em
                      have HMG := Aside0.mk hmg
                      have hvk : vs[k]? = some vs[k] := List.getElem?_eq_getElem hlt
                      obtain ⟨v, hv⟩ : ∃ v, vs[k] = v := ⟨_, rfl⟩
                      rw [hv] at hvk
                      have hov := HOU.out _ HR3.out
                      have hx0 := HPG.out.p.row k v hvk
                      obtain ⟨Av, cv, ev⟩ := own_slice hx0
                      obtain ⟨n, hn⟩ : ∃ n, lenV v = n := ⟨_, rfl⟩
                      have hnl : n ≤ 1000000000 := by rw [← hn]; exact HLN.out v (by rw [← hv]; exact List.getElem_mem hlt)
                      rw [hn] at ev
                      subst ev
                      have HVK := Aside0.mk hvk
                      have xk : wr.cell? ⟨GO, k, none⟩ = some (.slice Av n cv) := by
                        rw [EA.out] at hov
                        exact (own_cell hov (by omega)).trans HVK.out
                      clear hmg hv hov hx0 hn hvk
                      go_wp2_with (first | (at_builtin; refine wpList_append_many (M := MF) (e := 50) (sz := 2) (bytes := 32) MF_len rfl (.tmp 149) (.tmp 150) 39 rfl Tryd.underlying39 info50K rfl (by decide) HTL.out HVK.out rfl rfl HMG.out (marks_one MF_one _ _) HPG.out.p ⟨_, rfl⟩ (by unfold maxLen; omega) (by omega) ?_))
                      intro gV2 w2 hP2 hg2 ho2
                      have hkk : (us.take k ++ [gV2])[k]? = some gV2 := by
                        have h := HTL.out
                        rw [List.getElem?_append_right (by omega), h, Nat.sub_self]
                        rfl
                      obtain ⟨xs2, hx2, _⟩ := hP2.got k gV2 _ hkk HVK.out
                      obtain ⟨A2, c2, e2⟩ := own_slice hx2
                      have hgs : w2.ownsRow w0.heap.size 39 1 (.slice (some ⟨GG, 0, none⟩) vs.length cgs) vs.length us := own_keep HGS2.out fun b hb => hg2.block b (own_lt HGS2.out b hb).2 (fun e => by
                        obtain ⟨c1, h1⟩ := own_typed HGS2.out b hb
                        obtain ⟨c2, h2⟩ := own_typed (HPG.out.p.row k _ HVK.out) b e.symm
                        exact blk_ne h1 h2 (by decide) rfl)
                      have yk : w2.cell? ⟨GG, k, none⟩ = us[k]? := own_cell hgs (by omega)
                      rw [List.getElem?_eq_getElem (show k < us.length by rw [HUL.out]; exact hlt)] at yk
                      obtain ⟨curG, hcG, hBG, _⟩ := own_at hgs
                      have fk := blk_frozen hcG k
                      have HR4 := Aside0.mk (HR3.out.vrow (List.mem_of_getElem? HVK.out) hg2)
                      have HGS4 := Aside0.mk hgs
                      have HP4 := Aside0.mk hP2
                      have HCG := Aside0.mk hcG
                      have HBG := Aside0.mk hBG
                      subst e2
                      clear hP2 hg2 ho2 hkk hx2 hgs hcG hBG xk
                      go_wp2_with fail
                      have hseg := own_seg HGS4.out (o := k) (seg := [Value.slice A2 (lenV (.slice Av n cv) + 64) c2]) (by show k + 1 ≤ vs.length * 1; omega)
                      have hut : (us.take k ++ [Value.slice A2 (lenV (.slice Av n cv) + 64) c2] ++ us.drop (k + [Value.slice A2 (lenV (.slice Av n cv) + 64) c2].length)).take (k + 1) = us.take k ++ [Value.slice A2 (lenV (.slice Av n cv) + 64) c2] := by
                        have h := HTL.out
                        rw [List.take_append_of_le_length (by rw [List.length_append, h]; simp), List.take_of_length_le (by rw [List.length_append, h]; simp)]
                      have hP5 : P2 MF RT 50 2 vs (us.take k ++ [Value.slice A2 (lenV (.slice Av n cv) + 64) c2]) (w2.setCells GG k [Value.slice A2 (lenV (.slice Av n cv) + 64) c2]) := HP4.out.keep fun j b hj hb => below_seg (by
                        rintro rfl
                        obtain ⟨c1, h1⟩ := (HP4.out.lt hj).2
                        exact blk_ne h1 HCG.out (by decide) rfl)
                      go_roundw
                      case rel => exact ⟨k + 1, _, by simp, by omega, ⟨by have h := own_len hseg; rw [Nat.mul_one] at h; exact h⟩, ⟨hseg⟩, ⟨by rw [hut]; exact hP5⟩, ⟨show Rest vs w0 (w2.setCells GG k [Value.slice A2 (lenV (.slice Av n cv) + 64) c2]) from HR4.out.far HBG.out⟩⟩
                      case measure => simp [RowKit.intOf]; omega
                · have hke : k = vs.length := by omega
                  subst hke
                  have HP5 := Aside0.mk (show P2 MF RT 50 2 vs us wr by
                    have h := HP2.out
                    rwa [List.take_of_length_le (by rw [HUL.out]; exact Nat.le_refl _)] at h)
                  clear hk hlt HP2
                  go_wp2
                  go_loopw [14] (fun kv wr => ∃ k : Nat, kv = .int .i64 (k : Nat) ∧ k ≤ vs.length ∧ Aside0 (wr.ownsRow w0.heap.size 39 1 (.slice Ags vs.length cgs) vs.length us) ∧ Aside0 (P2 MF RT 50 2 vs us wr) ∧ Aside0 (Rest vs w0 wr)) (fun kv _ => vs.length - (RowKit.intOf kv).toNat)
                  case atStart => exact ⟨0, rfl, Nat.zero_le _, HGS, HP5, HR2⟩
                  case round =>
                    clear HP5 HR2 HGS
                    obtain ⟨k, rfl, hk, HGS, HP2, HR2⟩ := hrel
                    by_cases hlt : k < vs.length
                    · have hov := HOU.out _ HR2.out
                      have hvk : vs[k]? = some vs[k] := List.getElem?_eq_getElem hlt
                      obtain ⟨v, hv⟩ : ∃ v, vs[k] = v := ⟨_, rfl⟩
                      rw [hv] at hvk
                      have huk : us[k]? = some (us[k]'(by rw [HUL.out]; exact hlt)) := List.getElem?_eq_getElem _
                      obtain ⟨u, hu⟩ : ∃ u, us[k]'(by rw [HUL.out]; exact hlt) = u := ⟨_, rfl⟩
                      rw [hu] at huk
                      obtain ⟨GO, capO, eO, _, _⟩ := hov.form (by omega)
                      have eA : AO = some ⟨GO, 0, none⟩ := by injection eO
                      obtain ⟨GG, capG, eG, _, _⟩ := HGS.out.form (by omega)
                      have eAG : Ags = some ⟨GG, 0, none⟩ := by injection eG
                      subst eAG
                      have hx0 := HP2.out.row k v hvk
                      obtain ⟨Av, cv, ev⟩ := own_slice hx0
                      obtain ⟨xg, hg0, _⟩ := HP2.out.got k u v huk hvk
                      obtain ⟨n, hn⟩ : ∃ n, lenV v = n := ⟨_, rfl⟩
                      have hnl : n ≤ 1000000000 := by rw [← hn]; exact HLN.out v (by rw [← hv]; exact List.getElem_mem hlt)
                      rw [hn] at ev hg0
                      subst ev
                      obtain ⟨g, cu, eu, _, _⟩ := hg0.form (by omega)
                      subst eu
                      have HVK := Aside0.mk hvk
                      have HUK := Aside0.mk huk
                      have EA := Aside0.mk eA
                      have XKK := Aside0.mk (fun (W : World) (h : Rest vs w0 W) => show W.cell? ⟨GO, k, none⟩ = some (.slice Av n cv) by
                        have h1 := HOU.out W h
                        rw [EA.out] at h1
                        exact (own_cell h1 (by omega)).trans HVK.out)
                      have YKK := Aside0.mk (fun (W : World) (h : W.ownsRow w0.heap.size 39 1 (.slice (some ⟨GG, 0, none⟩) vs.length cgs) vs.length us) => show W.cell? ⟨GG, k, none⟩ = some (.slice (some ⟨g, 0, none⟩) (n + 64) cu) from (own_cell h (by omega)).trans HUK.out)
                      have xk := XKK.out _ HR2.out
                      clear hx0 hg0 hv hu hov eO eG hn hvk huk eA
                      rw [EA.out]
                      go_wp2
                      go_loopw [15] (fun iv wr => ∃ i : Nat, iv = .int .i64 (i : Nat) ∧ i ≤ n ∧ Aside0 (wr.ownsRow w0.heap.size 39 1 (.slice (some ⟨GG, 0, none⟩) vs.length cgs) vs.length us) ∧ Aside0 (P2 MF RT 50 2 vs us wr) ∧ Aside0 (Rest vs w0 wr)) (fun iv _ => n - (RowKit.intOf iv).toNat)
                      case atStart => exact ⟨0, rfl, Nat.zero_le _, HGS, HP2, HR2⟩
                      case round =>
                        clear xk
                        obtain ⟨i, rfl, hi, HGS3, HP3, HR3⟩ := hrel
                        have xk := XKK.out _ HR3.out
                        have yk := YKK.out _ HGS3.out
                        by_cases hin : i < n
                        · obtain ⟨xg3, hg3, ys3, hxg3⟩ := HP3.out.got k _ _ HUK.out HVK.out
                          subst hxg3
                          have hg4 := own_prefix hg3 (marks_len MF_len k n)
                          have hv3 := HP3.out.row k _ HVK.out
                          have hu0 : ∀ j : Wb wr, j.val.cell? ⟨g, i * 2, none⟩ = some (.string (MFs k i)) := fun j => Kd.cell_heap (fun b hb => j.bel.block b hb) ((own_mark (q := 0) MF_len hg4 rfl hin (by decide)).trans rfl)
                          have hu1 : ∀ j : Wb wr, j.val.cell? ⟨g, i * 2 + 1, none⟩ = some (.string ⟨#[110, 111]⟩) := fun j => Kd.cell_heap (fun b hb => j.bel.block b hb) ((own_mark (q := 1) MF_len hg4 rfl hin (by decide)).trans rfl)
                          have hxk : ∀ j : Wb wr, j.val.cell? ⟨GO, k, none⟩ = some (.slice Av n cv) := fun j => Kd.cell_heap (fun b hb => j.bel.block b hb) xk
                          have hyk : ∀ j : Wb wr, j.val.cell? ⟨GG, k, none⟩ = some (.slice (some ⟨g, 0, none⟩) (n + 64) cu) := fun j => Kd.cell_heap (fun b hb => j.bel.block b hb) yk
                          have HMT := Aside0.mk (fun j : Wb wr => show Calls Tryd.prog 75 #[.int .i64 (k : Nat), .int .i64 (i : Nat)] j.val fun e w' => e = .returned (.string (MFs k i)) ∧ ∃ q : Wb wr, w' = q.val from
                            (markText_calls k i k i rfl rfl j.val).mono fun e w' h => ⟨h.1, ⟨⟨w', j.bel.trans (h.2.mono j.bel.size)⟩, rfl⟩⟩)
                          have hnw : Nonempty (Wb wr) := ⟨⟨wr, Below.refl _ _⟩⟩
                          have heq := fun w : World => eqS50 w (MFs k i) ⟨#[110, 111]⟩
                          obtain ⟨g1, c1, e1, _, _⟩ := hv3.form (by show 0 < n; omega)
                          have e2 : Av = some ⟨g1, 0, none⟩ := by injection e1
                          subst e2
                          have hv0 : ∀ j : Wb wr, j.val.cell? ⟨g1, i * 2, none⟩ = some (.string (MFs k i)) := fun j => Kd.cell_heap (fun b hb => j.bel.block b hb) ((own_mark (q := 0) MF_len hv3 rfl hin (by decide)).trans rfl)
                          have hv1 : ∀ j : Wb wr, j.val.cell? ⟨g1, i * 2 + 1, none⟩ = some (.string ⟨#[110, 111]⟩) := fun j => Kd.cell_heap (fun b hb => j.bel.block b hb) ((own_mark (q := 1) MF_len hv3 rfl hin (by decide)).trans rfl)
                          clear e1 hg3 hg4 hv3
                          go_wp2
                          refine region_clsK (by kernel_rfl) (by kernel_rfl) ?_
                          repeat (go_big_quiet_step (first | (go_at_call 75; exact HMT.out _)))
                          refine wpQuiet_nil ?_
                          intro _ hw'
                          obtain ⟨j, hw''⟩ := hw'
                          subst hw''
                          have HGS4 := Aside0.mk (own_below HGS3.out j.bel)
                          have HP4 := Aside0.mk (HP3.out.below j.bel)
                          have HR4 := Aside0.mk (HR3.out.below j.bel)
                          clear hu0 hu1 hxk hyk xk yk heq hv0 hv1
                          go_wp2
                          go_roundw
                          case rel => exact ⟨i + 1, by simp, by omega, HGS4, HP4, HR4⟩
                          case measure => simp [RowKit.intOf]; omega
                        · have hie : i = n := by omega
                          subst hie
                          go_wp2
                          go_roundw
                          case rel => exact ⟨k + 1, by simp, by omega, HGS3, HP3, HR3⟩
                          case measure => simp [RowKit.intOf]; omega
                    · have hke : k = vs.length := by omega
                      subst hke
                      go_wp2
                      go_ret
                      exact ⟨rfl, HR2.out⟩
end Go.Proofs.YtbaiglikmneicaaDoor.KP

set_option linter.unusedVariables false
set_option linter.unusedSimpArgs false
namespace Go.Proofs.YtbaiglikmneicaaDoor.KP
open Go Go.RowKit Go.Proofs.YtbaiglikmneicaaDoorW.PrintWords Go.Proofs.YtbaiglikmneicaaDoorW.PrintLast Go.Proofs.YtbaiglikmneicaaDoorW.PrintMore
open Go.Proofs.YtbaiglikmneicaaDoor.KM (depotkit_mark.f depotkit_mark.calls)

/-- The marks of ApartStanzas. -/
def MSn (k i : Nat) : Int := wrap64 (wrap64 (1000003 * wrap64 ((k : Int) + 7)) + (i : Int))
def MS (k i : Nat) : List Value := [.int .i64 (MSn k i), .slice none 0 0]
theorem MS_len (k i : Nat) : (MS k i).length = 2 := rfl
/-- What the grown rows hold, in the second and third loop. -/
def RMS (j n : Nat) (xs : List Value) : Prop := xs = marks MS j (n + 64)
/-- .. in the fourth and fifth. -/
def RTS (j n : Nat) (xs : List Value) : Prop := ∃ ys, xs = marks MS j n ++ ys
theorem MS_one (k i : Nat) : ∀ q ∈ MS k i, q.oneCell' = true := by
  intro q hq
  simp only [MS, List.mem_cons, List.not_mem_nil, or_false] at hq
  rcases hq with rfl | rfl <;> rfl
theorem info41K : (Tryd.prog.info? 41).map (fun i => (i.zero, i.size, i.bytes)) = some (some (.agg #[.int .i64 0, .slice none 0 0]), 2, 32) := by kernel_rfl
theorem info23K : (Tryd.prog.info? 23).map (fun i => (i.zero, i.size, i.bytes)) = some (some (.slice none 0 0), 1, 24) := by kernel_rfl
theorem mark_calls (k i : Nat) (ki ii : Int) (hk : ki = (k : Int)) (hi : ii = (i : Int)) (w : World) : Calls Tryd.prog 76 #[.int .i64 ki, .int .i64 ii] w fun e w' => e = .returned (.int .i64 (MSn k i)) ∧ Below w.heap.size w w' := by
  subst hk hi
  exact (depotkit_mark.calls k i _ w rfl).mono fun e w' h => ⟨h.1, by obtain ⟨m, hm⟩ := h.2; rw [hm]; exact pw_below_drewN (Below.refl _ _) m⟩
set_option maxHeartbeats 16000000 in
set_option maxRecDepth 100000 in
theorem apartStanzas_calls (V : Value) (vs : List Value) (bO : Nat) (w0 : World) (hO : w0.ownsRow bO 23 1 V vs.length vs) (hrows : ∀ (j : Nat) (v : Value), vs[j]? = some v → ∃ xs, w0.ownsRow 0 41 2 v (lenV v) xs) (hap : apart vs) (hlen : vs.length ≤ 1000000000) (hln : ∀ v ∈ vs, lenV v ≤ 1000000000) :
    Calls Tryd.prog 63 #[V] w0 fun e w' => e = .returned (.bool true) ∧ Rest vs w0 w' := by
  obtain ⟨AO, cO, rfl⟩ := own_slice hO
  have HO := Aside0.mk hO
  have HP := Aside0.mk (P1.start (M := MS) hrows)
  have HAP := Aside0.mk hap
  have HLN := Aside0.mk hln
  have HR := Aside0.mk (Rest.refl vs w0)
  -- the outer row lies through all
  have houter := fun (W : World) (h : Rest vs w0 W) => own_keep hO (fun k hk => h.same k (own_lt hO k hk).2 (fun v hv hb => by
    obtain ⟨j, hj⟩ := List.mem_iff_getElem?.1 hv
    obtain ⟨xs, hx⟩ := hrows j v hj
    obtain ⟨c1, h1⟩ := own_typed hO k hk
    obtain ⟨c2, h2⟩ := own_typed hx k hb
    exact blk_ne h1 h2 (by decide) rfl))
  have HOU := Aside0.mk houter
  clear hO hrows hap hln houter
  go_enter Tryd.func63, Tryd.ntmps63
  go_wp2
  go_loopw [3] (fun kv wr => ∃ k : Nat, kv = .int .i64 (k : Nat) ∧ k ≤ vs.length ∧ Aside0 (P1 MS 41 2 vs k 0 wr) ∧ Aside0 (Rest vs w0 wr)) (fun kv _ => vs.length - (RowKit.intOf kv).toNat)
  case atStart => exact ⟨0, rfl, Nat.zero_le _, HP, HR⟩
  case round =>
    obtain ⟨k, rfl, hk, HPk, HRk⟩ := hrel
    by_cases hlt : k < vs.length
    · have hov := HOU.out _ HRk.out
      have hvk : vs[k]? = some vs[k] := List.getElem?_eq_getElem hlt
      obtain ⟨v, hv⟩ : ∃ v, vs[k] = v := ⟨_, rfl⟩
      rw [hv] at hvk
      obtain ⟨GO, capO, eO, _, _⟩ := hov.form (by omega)
      have eA : AO = some ⟨GO, 0, none⟩ := by injection eO
      have xk : wr.cell? ⟨GO, k, none⟩ = some v := by
        rw [eA] at hov
        exact (own_cell hov (by omega)).trans hvk
      obtain ⟨xs0, hx0, _⟩ := HPk.out.row k v hvk
      obtain ⟨Av, cv, ev⟩ := own_slice hx0
      obtain ⟨n, hn⟩ : ∃ n, lenV v = n := ⟨_, rfl⟩
      have hnl : n ≤ 1000000000 := by rw [← hn]; exact HLN.out v (by rw [← hv]; exact List.getElem_mem hlt)
      rw [hn] at ev
      have HVK := Aside0.mk hvk
      have HXK := Aside0.mk xk
      have EA := Aside0.mk eA
      subst ev
      clear hx0 hv hov eO hn
      rw [EA.out]
      clear xk hvk eA
      have xk := HXK.out
      go_wp2
      go_loopw [4] (fun iv wr => ∃ i : Nat, iv = .int .i64 (i : Nat) ∧ i ≤ n ∧ Aside0 (P1 MS 41 2 vs k i wr) ∧ Aside0 (Rest vs w0 wr)) (fun iv _ => n - (RowKit.intOf iv).toNat)
      case atStart => exact ⟨0, rfl, Nat.zero_le _, HPk, HRk⟩
      case round =>
        obtain ⟨i, rfl, hi, HPi, HRi⟩ := hrel
        clear xk
        have hov := HOU.out _ HRi.out
        have xk : wr.cell? ⟨GO, k, none⟩ = some (.slice Av n cv) := by
          rw [EA.out] at hov
          exact (own_cell hov (by omega)).trans HVK.out
        clear hov
        by_cases hin : i < n
        · obtain ⟨xs, hx, _, _⟩ := HPi.out.row k _ HVK.out
          obtain ⟨g, cap, eg, _, _⟩ := hx.form (by show 0 < n; omega)
          have eg2 : Av = some ⟨g, 0, none⟩ := by injection eg
          subst eg2
          have HX := Aside0.mk hx
          have hxk : ∀ j : Wb wr, j.val.cell? ⟨GO, k, none⟩ = some (.slice (some ⟨g, 0, none⟩) n cv) := fun j => Kd.cell_heap (fun b hb => j.bel.block b hb) xk
          have hMT : ∀ j : Wb wr, Calls Tryd.prog 76 #[.int .i64 (k : Nat), .int .i64 (i : Nat)] j.val fun e w' => e = .returned (.int .i64 (MSn k i)) ∧ ∃ q : Wb wr, w' = q.val := fun j =>
            (mark_calls k i k i rfl rfl j.val).mono fun e w' h => ⟨h.1, ⟨⟨w', j.bel.trans (h.2.mono j.bel.size)⟩, rfl⟩⟩
          have hnw : Nonempty (Wb wr) := ⟨⟨wr, Below.refl _ _⟩⟩
          have HMT := Aside0.mk hMT
          clear hx eg hMT
          go_wp2
          refine region_lastL (by simp) (by kernel_rfl) (by kernel_rfl) (by kernel_rfl) (by kernel_rfl) ?_
          simp only [List.dropLast, List.getLast]
          repeat (go_big_quiet_step (first | (go_at_call 76; exact HMT.out _)))
          refine wpQuiet_nil ?_
          intro _ hw'
          obtain ⟨j, hw''⟩ := hw'
          subst hw''
          clear hxk xk
          refine wp_store_own (e := 41) (size := 2) 41 (.tmp 40) (.tmp 39) rfl (off := i * 2) _ (MS k i) rfl rfl rfl (by kernel_rfl) (MS_one k i) (own_below HX.out j.bel) (by show i * 2 + 2 ≤ n * 2; omega) ?_
          go_wp2
          go_roundw
          case rel => exact ⟨i + 1, by simp, by omega, ⟨(HPi.out.below j.bel).seg MS_len HAP.out HVK.out hin⟩, ⟨(HRi.out.below j.bel).seg (List.mem_of_getElem? HVK.out) rfl⟩⟩
          case measure => simp [RowKit.intOf]; omega
        · have hie : i = n := by omega
          subst hie
          go_wp2
          go_roundw
          case rel => exact ⟨k + 1, by simp, by omega, ⟨HPi.out.next HVK.out⟩, HRi⟩
          case measure => simp [RowKit.intOf]; omega
    · have hke : k = vs.length := by omega
      subst hke
      clear hk hlt
      have HP2 := Aside0.mk (P2.start (R := RMS) HAP.out HPk.out)
      go_wp2
      go_loopw [5, 6] (fun gsv kv wr => ∃ (k : Nat) (us : List Value) (gsV : Value), gsV = gsv ∧ kv = .int .i64 (k : Nat) ∧ k ≤ vs.length ∧ Aside0 (us.length = k) ∧ Aside0 (wr.ownsRow w0.heap.size 23 1 gsV k us) ∧ Aside0 (P2 MS RMS 41 2 vs us wr) ∧ Aside0 (Rest vs w0 wr)) (fun _ kv _ => vs.length - (RowKit.intOf kv).toNat)
      case atStart => exact ⟨0, [], _, rfl, rfl, Nat.zero_le _, ⟨rfl⟩, ⟨World.ownsRow_nil _ _ _ _⟩, HP2, HRk⟩
      case round =>
        clear HP2 HRk HPk
        obtain ⟨k, us, gsV, rfl, rfl, hk, HUL, HGS, HP2, HR2⟩ := hrel
        by_cases hlt : k < vs.length
        · have hov := HOU.out _ HR2.out
          have hvk : vs[k]? = some vs[k] := List.getElem?_eq_getElem hlt
          obtain ⟨v, hv⟩ : ∃ v, vs[k] = v := ⟨_, rfl⟩
          rw [hv] at hvk
          obtain ⟨GO, capO, eO, _, _⟩ := hov.form (by omega)
          have eA : AO = some ⟨GO, 0, none⟩ := by injection eO
          have hx0 := HP2.out.row k v hvk
          obtain ⟨Av, cv, ev⟩ := own_slice hx0
          obtain ⟨n, hn⟩ : ∃ n, lenV v = n := ⟨_, rfl⟩
          have hnl : n ≤ 1000000000 := by rw [← hn]; exact HLN.out v (by rw [← hv]; exact List.getElem_mem hlt)
          rw [hn] at ev
          subst ev
          have HVK := Aside0.mk hvk
          have EA := Aside0.mk eA
          have xkk : ∀ W, Rest vs w0 W → W.cell? ⟨GO, k, none⟩ = some (.slice Av n cv) := fun W h => by
            have h1 := HOU.out W h
            rw [EA.out] at h1
            exact (own_cell h1 (by omega)).trans HVK.out
          have XKK := Aside0.mk xkk
          have xk := XKK.out _ HR2.out
          clear hx0 hv hov eO hn hvk eA xkk
          rw [EA.out]
          go_wp2
          go_loopw [7, 8] (fun gv iv wr => ∃ (i : Nat) (gV : Value), gV = gv ∧ iv = .int .i64 (i : Nat) ∧ i ≤ 64 ∧ Aside0 (PG MS RMS 41 2 w0.heap.size vs us k n i gV wr) ∧ Aside0 (wr.ownsRow w0.heap.size 23 1 gsV k us) ∧ Aside0 (Rest vs w0 wr)) (fun _ iv _ => 64 - (RowKit.intOf iv).toNat)
          case atStart => exact ⟨0, _, rfl, rfl, Nat.zero_le _, ⟨PG.start HVK.out HP2.out⟩, HGS, HR2⟩
          case round =>
            clear xk
            obtain ⟨i, gV, rfl, rfl, hi, HPG, HGS2, HR3⟩ := hrel
            by_cases hin : i < 64
            · have xk := XKK.out _ HR3.out
              have hmt := mark_calls k (n + i) (k : Nat) ((n : Int) + (i : Int)) rfl (by simp) wr
              have HMT := Aside0.mk hmt
              obtain ⟨Ag, cg, eg⟩ := own_slice HPG.out.g
              subst eg
              clear hmt
              go_wp2_with fail
              refine HMT.out.mono ?_
              rintro e wm ⟨rfl, hbm⟩
              have HPGm := Aside0.mk (HPG.out.below hbm)
              have HGSm := Aside0.mk (own_below HGS2.out hbm)
              have HRm := Aside0.mk (HR3.out.below hbm)
              clear hbm xk
              go_wp2_with (first | (at_builtin; refine wpList_append_PG (M := MS) (e := 41) (sz := 2) (bytes := 32) MS_len rfl (.tmp 55) (.tmp 66) 23 rfl Tryd.underlying23 info41K rfl (by decide) (m := n + i) rfl (Nat.le_of_eq HUL.out) rfl rfl (MS_one _ _) HPGm.out HRm.out.size (by unfold maxLen; omega) (by omega) ?_))
              intro gV2 w2 hPG2 hg2
              have HR2b := Aside0.mk (HRm.out.grown HPGm.out hg2)
              have HGS2b := Aside0.mk (own_keep HGSm.out fun b hb => hg2.block b (own_lt HGSm.out b hb).2 (fun e => by
                obtain ⟨c1, h1⟩ := own_typed HGSm.out b hb
                obtain ⟨c2, h2⟩ := own_typed HPGm.out.g b e.symm
                exact blk_ne h1 h2 (by decide) rfl))
              have HPG2 := Aside0.mk hPG2
              clear hPG2 hg2
              go_wp2_with fail
              go_roundw
              case rel => exact ⟨i + 1, gV2, rfl, by simp, by omega, HPG2, HGS2b, HR2b⟩
              case measure => simp [RowKit.intOf]; omega
            · have hie : i = 64 := by omega
              subst hie
              obtain ⟨Ag, cg, eg⟩ := own_slice HPG.out.g
              subst eg
              have hpd := HPG.out.done HUL.out HVK.out rfl rfl
              have HPD := Aside0.mk hpd
              clear hpd
              go_wp2_with (first | (at_builtin; refine wpList_append_val (e := 23) (bytes := 24) rfl (.tmp 68) (.tmp 70) 71 rfl Tryd.underlying71 info23K rfl (gsV := gsV) rfl rfl rfl HGS2.out HR3.out.size (by unfold maxLen; omega) (by omega) ?_))
              intro gsV2 w2 hgs2 hg2
              have HP2b := Aside0.mk (HPD.out.val (by decide) HGS2.out hg2)
              have HR2b := Aside0.mk (HR3.out.val HGS2.out hg2)
              have HGS2b := Aside0.mk hgs2
              have HUL2 := Aside0.mk (show (us ++ [Value.slice Ag (n + 64) cg]).length = k + 1 by rw [List.length_append, HUL.out]; rfl)
              clear hgs2 hg2
              go_wp2_with fail
              go_roundw
              case rel => exact ⟨k + 1, _, gsV2, rfl, by simp, by omega, HUL2, HGS2b, HP2b, HR2b⟩
              case measure => simp [RowKit.intOf]; omega
        · have hke : k = vs.length := by omega
          subst hke
          clear hk hlt
          go_wp2
          go_loopw [9] (fun kv wr => ∃ k : Nat, kv = .int .i64 (k : Nat) ∧ k ≤ vs.length ∧ Aside0 (wr.ownsRow w0.heap.size 23 1 gsV vs.length us) ∧ Aside0 (P2 MS RMS 41 2 vs us wr) ∧ Aside0 (Rest vs w0 wr)) (fun kv _ => vs.length - (RowKit.intOf kv).toNat)
          case atStart => exact ⟨0, rfl, Nat.zero_le _, HGS, HP2, HR2⟩
          case round =>
            clear HP2 HR2 HGS
            obtain ⟨k, rfl, hk, HGS, HP2, HR2⟩ := hrel
            obtain ⟨Ags, cgs, egs⟩ := own_slice HGS.out
            subst egs
            by_cases hlt : k < vs.length
            · have hov := HOU.out _ HR2.out
              have hvk : vs[k]? = some vs[k] := List.getElem?_eq_getElem hlt
              obtain ⟨v, hv⟩ : ∃ v, vs[k] = v := ⟨_, rfl⟩
              rw [hv] at hvk
              have huk : us[k]? = some (us[k]'(by rw [HUL.out]; exact hlt)) := List.getElem?_eq_getElem _
              obtain ⟨u, hu⟩ : ∃ u, us[k]'(by rw [HUL.out]; exact hlt) = u := ⟨_, rfl⟩
              rw [hu] at huk
              obtain ⟨GO, capO, eO, _, _⟩ := hov.form (by omega)
              have eA : AO = some ⟨GO, 0, none⟩ := by injection eO
              obtain ⟨GG, capG, eG, _, _⟩ := HGS.out.form (by omega)
              have eAG : Ags = some ⟨GG, 0, none⟩ := by injection eG
              subst eAG
              have hx0 := HP2.out.row k v hvk
              obtain ⟨Av, cv, ev⟩ := own_slice hx0
              obtain ⟨xg, hg0, hxg⟩ := HP2.out.got k u v huk hvk
              clear hxg
              obtain ⟨n, hn⟩ : ∃ n, lenV v = n := ⟨_, rfl⟩
              have hnl : n ≤ 1000000000 := by rw [← hn]; exact HLN.out v (by rw [← hv]; exact List.getElem_mem hlt)
              rw [hn] at ev hg0
              subst ev
              obtain ⟨g, cu, eu, _, _⟩ := hg0.form (by omega)
              subst eu
              have HVK := Aside0.mk hvk
              have HUK := Aside0.mk huk
              have EA := Aside0.mk eA
              have XKK := Aside0.mk (fun (W : World) (h : Rest vs w0 W) => show W.cell? ⟨GO, k, none⟩ = some (.slice Av n cv) by
                have h1 := HOU.out W h
                rw [EA.out] at h1
                exact (own_cell h1 (by omega)).trans HVK.out)
              have YKK := Aside0.mk (fun (W : World) (h : W.ownsRow w0.heap.size 23 1 (.slice (some ⟨GG, 0, none⟩) vs.length cgs) vs.length us) => show W.cell? ⟨GG, k, none⟩ = some (.slice (some ⟨g, 0, none⟩) (n + 64) cu) from (own_cell h (by omega)).trans HUK.out)
              have xk := XKK.out _ HR2.out
              have yk := YKK.out _ HGS.out
              clear hx0 hg0 hv hu hov eO eG hn hvk huk eA
              rw [EA.out]
              go_wp2
              go_loopw [10] (fun iv wr => ∃ i : Nat, iv = .int .i64 (i : Nat) ∧ i ≤ n + 64 ∧ Aside0 (wr.ownsRow w0.heap.size 23 1 (.slice (some ⟨GG, 0, none⟩) vs.length cgs) vs.length us) ∧ Aside0 (P2 MS RMS 41 2 vs us wr) ∧ Aside0 (Rest vs w0 wr)) (fun iv _ => n + 64 - (RowKit.intOf iv).toNat)
              case atStart => exact ⟨0, rfl, Nat.zero_le _, HGS, HP2, HR2⟩
              case round =>
                clear xk yk
                obtain ⟨i, rfl, hi, HGS3, HP3, HR3⟩ := hrel
                have xk := XKK.out _ HR3.out
                have yk := YKK.out _ HGS3.out
                by_cases hin : i < n + 64
                · obtain ⟨xg3, hg3, hxg3⟩ := HP3.out.got k _ _ HUK.out HVK.out
                  have hxg4 : xg3 = marks MS k (n + 64) := hxg3
                  subst hxg4
                  clear hxg3
                  have hv3 := HP3.out.row k _ HVK.out
                  have hu0 : ∀ j : Wb wr, j.val.cell? ⟨g, i * 2, none⟩ = some (.int .i64 (MSn k i)) := fun j => Kd.cell_heap (fun b hb => j.bel.block b hb) ((own_mark (q := 0) MS_len hg3 rfl hin (by decide)).trans rfl)
                  have hu1 : ∀ j : Wb wr, j.val.cell? ⟨g, i * 2 + 1, none⟩ = some (.slice none 0 0) := fun j => Kd.cell_heap (fun b hb => j.bel.block b hb) ((own_mark (q := 1) MS_len hg3 rfl hin (by decide)).trans rfl)
                  have hxk : ∀ j : Wb wr, j.val.cell? ⟨GO, k, none⟩ = some (.slice Av n cv) := fun j => Kd.cell_heap (fun b hb => j.bel.block b hb) xk
                  have hyk : ∀ j : Wb wr, j.val.cell? ⟨GG, k, none⟩ = some (.slice (some ⟨g, 0, none⟩) (n + 64) cu) := fun j => Kd.cell_heap (fun b hb => j.bel.block b hb) yk
                  have HMT := Aside0.mk (fun j : Wb wr => show Calls Tryd.prog 76 #[.int .i64 (k : Nat), .int .i64 (i : Nat)] j.val fun e w' => e = .returned (.int .i64 (MSn k i)) ∧ ∃ q : Wb wr, w' = q.val from
                    (mark_calls k i k i rfl rfl j.val).mono fun e w' h => ⟨h.1, ⟨⟨w', j.bel.trans (h.2.mono j.bel.size)⟩, rfl⟩⟩)
                  have hnw : Nonempty (Wb wr) := ⟨⟨wr, Below.refl _ _⟩⟩
                  by_cases hiv : i < n
                  case' pos =>
                    obtain ⟨g1, c1, e1, _, _⟩ := hv3.form (by show 0 < n; omega)
                    have e2 : Av = some ⟨g1, 0, none⟩ := by injection e1
                    subst e2
                    have hv0 : ∀ j : Wb wr, j.val.cell? ⟨g1, i * 2, none⟩ = some (.int .i64 (MSn k i)) := fun j => Kd.cell_heap (fun b hb => j.bel.block b hb) ((own_mark (q := 0) MS_len hv3 rfl hiv (by decide)).trans rfl)
                    have hv1 : ∀ j : Wb wr, j.val.cell? ⟨g1, i * 2 + 1, none⟩ = some (.slice none 0 0) := fun j => Kd.cell_heap (fun b hb => j.bel.block b hb) ((own_mark (q := 1) MS_len hv3 rfl hiv (by decide)).trans rfl)
                    have hd0 : decide (i < n) = true := decide_eq_true hiv
                    have hd1 : decide ((i : Int) < (n : Int)) = true := decide_eq_true (by omega)
                    clear e1
                  case' neg =>
                    have hd0 : decide (i < n) = false := decide_eq_false hiv
                    have hd1 : decide ((i : Int) < (n : Int)) = false := decide_eq_false (by omega)
                  all_goals
                    clear hg3 hv3
                    go_wp2
                    refine region_clsK (by kernel_rfl) (by kernel_rfl) ?_
                    repeat (go_big_quiet_step (first | (go_at_call 76; exact HMT.out _)))
                    refine wpQuiet_nil ?_
                    intro _ hw'
                    obtain ⟨j, hw''⟩ := hw'
                    subst hw''
                    have HGS4 := Aside0.mk (own_below HGS3.out j.bel)
                    have HP4 := Aside0.mk (HP3.out.below j.bel)
                    have HR4 := Aside0.mk (HR3.out.below j.bel)
                    clear hu0 hu1 hxk hyk xk yk
                    go_wp2
                    go_roundw
                    case rel => exact ⟨i + 1, by simp, by omega, HGS4, HP4, HR4⟩
                    case measure => simp [RowKit.intOf]; omega
                · have hie : i = n + 64 := by omega
                  subst hie
                  go_wp2
                  go_roundw
                  case rel => exact ⟨k + 1, by simp, by omega, HGS3, HP3, HR3⟩
                  case measure => simp [RowKit.intOf]; omega
            · have hke : k = vs.length := by omega
              subst hke
              have HP0 := Aside0.mk (HP2.out.rows (R' := RTS))
              clear hk hlt HP2
              go_wp2
              go_loopw [11] (fun kv wr => ∃ (k : Nat) (us : List Value), kv = .int .i64 (k : Nat) ∧ k ≤ vs.length ∧ Aside0 (us.length = vs.length) ∧ Aside0 (wr.ownsRow w0.heap.size 23 1 (.slice Ags vs.length cgs) vs.length us) ∧ Aside0 (P2 MS RTS 41 2 vs (us.take k) wr) ∧ Aside0 (Rest vs w0 wr)) (fun kv _ => vs.length - (RowKit.intOf kv).toNat)
              case atStart => exact ⟨0, us, rfl, Nat.zero_le _, HUL, HGS, HP0, HR2⟩
              case round =>
                clear HP0 HR2 HGS HUL
                obtain ⟨k, us, rfl, hk, HUL, HGS, HP2, HR2⟩ := hrel
                by_cases hlt : k < vs.length
                · have HTL := Aside0.mk (show (us.take k).length = k by rw [List.length_take, HUL.out]; omega)
                  obtain ⟨GO, capO, eO, _, _⟩ := (HOU.out _ HR2.out).form (by omega)
                  have eA : AO = some ⟨GO, 0, none⟩ := by injection eO
                  obtain ⟨GG, capG, eG, _, _⟩ := HGS.out.form (by omega)
                  have eAG : Ags = some ⟨GG, 0, none⟩ := by injection eG
                  subst eAG
                  have EA := Aside0.mk eA
                  clear eO eG eA
                  rw [EA.out]
                  go_wp2
                  go_loopw [12, 13] (fun mv iv wr => ∃ (i : Nat) (mV : Value), mV = mv ∧ iv = .int .i64 (i : Nat) ∧ i ≤ 64 ∧ Aside0 (PG MS RTS 41 2 w0.heap.size vs (us.take k) (k + vs.length) 0 i mV wr) ∧ Aside0 (wr.ownsRow w0.heap.size 23 1 (.slice (some ⟨GG, 0, none⟩) vs.length cgs) vs.length us) ∧ Aside0 (Rest vs w0 wr)) (fun _ iv _ => 64 - (RowKit.intOf iv).toNat)
                  case atStart => exact ⟨0, _, rfl, rfl, Nat.zero_le _, ⟨PG.nil HP2.out⟩, HGS, HR2⟩
                  case round =>
                    clear HP2 HGS HR2
                    obtain ⟨i, mV, rfl, rfl, hi, HPG, HGS2, HR3⟩ := hrel
                    by_cases hin : i < 64
                    · have HMT := Aside0.mk (mark_calls (k + vs.length) i ((k : Int) + (vs.length : Int)) (i : Nat) (by simp) rfl wr)
                      go_wp2_with fail
                      refine HMT.out.mono ?_
                      rintro e wm ⟨rfl, hbm⟩
                      have HPGm := Aside0.mk (HPG.out.below hbm)
                      have HGSm := Aside0.mk (own_below HGS2.out hbm)
                      have HRm := Aside0.mk (HR3.out.below hbm)
                      clear hbm
                      obtain ⟨Am, cm, em⟩ := own_slice HPGm.out.g
                      rw [Nat.zero_add] at em
                      subst em
                      go_wp2_with (first | (at_builtin; refine wpList_append_PG (M := MS) (e := 41) (sz := 2) (bytes := 32) MS_len rfl (.tmp 158) (.tmp 166) 23 rfl Tryd.underlying23 info41K rfl (by decide) (m := i) (Nat.zero_add i).symm (by rw [HTL.out]; omega) rfl rfl (MS_one _ _) HPGm.out HRm.out.size (by unfold maxLen; omega) (by omega) ?_))
                      intro mV2 w2 hPG2 hg2
                      have HR2b := Aside0.mk (HRm.out.grown HPGm.out hg2)
                      have HGS2b := Aside0.mk (own_keep HGSm.out fun b hb => hg2.block b (own_lt HGSm.out b hb).2 (fun e => by
                        obtain ⟨c1, h1⟩ := own_typed HGSm.out b hb
                        obtain ⟨c2, h2⟩ := own_typed HPGm.out.g b e.symm
                        exact blk_ne h1 h2 (by decide) rfl))
                      have HPG2 := Aside0.mk hPG2
                      clear hPG2 hg2
                      go_wp2_with fail
                      go_roundw
                      case rel => exact ⟨i + 1, mV2, rfl, by simp, by omega, HPG2, HGS2b, HR2b⟩
                      case measure => simp [RowKit.intOf]; omega
                    · have hie : i = 64 := by omega
                      subst hie
                      have hmg : wr.ownsRow 0 41 2 mV 64 (marks MS (k + vs.length) 64) := by
                        have h := HPG.out.g
                        rwa [Nat.zero_add] at h
                      obtain ⟨gm, cm, em, _, _⟩ := hmg.form (by decide)
                      subst em
                      have HMG := Aside0.mk hmg
                      have hvk : vs[k]? = some vs[k] := List.getElem?_eq_getElem hlt
                      obtain ⟨v, hv⟩ : ∃ v, vs[k] = v := ⟨_, rfl⟩
                      rw [hv] at hvk
                      have hov := HOU.out _ HR3.out
                      have hx0 := HPG.out.p.row k v hvk
                      obtain ⟨Av, cv, ev⟩ := own_slice hx0
                      obtain ⟨n, hn⟩ : ∃ n, lenV v = n := ⟨_, rfl⟩
                      have hnl : n ≤ 1000000000 := by rw [← hn]; exact HLN.out v (by rw [← hv]; exact List.getElem_mem hlt)
                      rw [hn] at ev
                      subst ev
                      have HVK := Aside0.mk hvk
                      have xk : wr.cell? ⟨GO, k, none⟩ = some (.slice Av n cv) := by
                        rw [EA.out] at hov
                        exact (own_cell hov (by omega)).trans HVK.out
                      clear hmg hv hov hx0 hn hvk
                      go_wp2_with (first | (at_builtin; refine wpList_append_many (M := MS) (e := 41) (sz := 2) (bytes := 32) MS_len rfl (.tmp 173) (.tmp 174) 23 rfl Tryd.underlying23 info41K rfl (by decide) HTL.out HVK.out rfl rfl HMG.out (marks_one MS_one _ _) HPG.out.p ⟨_, rfl⟩ (by unfold maxLen; omega) (by omega) ?_))
                      intro gV2 w2 hP2 hg2 ho2
                      have hkk : (us.take k ++ [gV2])[k]? = some gV2 := by
                        have h := HTL.out
                        rw [List.getElem?_append_right (by omega), h, Nat.sub_self]
                        rfl
                      obtain ⟨xs2, hx2, _⟩ := hP2.got k gV2 _ hkk HVK.out
                      obtain ⟨A2, c2, e2⟩ := own_slice hx2
                      have hgs : w2.ownsRow w0.heap.size 23 1 (.slice (some ⟨GG, 0, none⟩) vs.length cgs) vs.length us := own_keep HGS2.out fun b hb => hg2.block b (own_lt HGS2.out b hb).2 (fun e => by
                        obtain ⟨c1, h1⟩ := own_typed HGS2.out b hb
                        obtain ⟨c2, h2⟩ := own_typed (HPG.out.p.row k _ HVK.out) b e.symm
                        exact blk_ne h1 h2 (by decide) rfl)
                      have yk : w2.cell? ⟨GG, k, none⟩ = us[k]? := own_cell hgs (by omega)
                      rw [List.getElem?_eq_getElem (show k < us.length by rw [HUL.out]; exact hlt)] at yk
                      obtain ⟨curG, hcG, hBG, _⟩ := own_at hgs
                      have fk := blk_frozen hcG k
                      have HR4 := Aside0.mk (HR3.out.vrow (List.mem_of_getElem? HVK.out) hg2)
                      have HGS4 := Aside0.mk hgs
                      have HP4 := Aside0.mk hP2
                      have HCG := Aside0.mk hcG
                      have HBG := Aside0.mk hBG
                      subst e2
                      clear hP2 hg2 ho2 hkk hx2 hgs hcG hBG xk
                      go_wp2_with fail
                      have hseg := own_seg HGS4.out (o := k) (seg := [Value.slice A2 (lenV (.slice Av n cv) + 64) c2]) (by show k + 1 ≤ vs.length * 1; omega)
                      have hut : (us.take k ++ [Value.slice A2 (lenV (.slice Av n cv) + 64) c2] ++ us.drop (k + [Value.slice A2 (lenV (.slice Av n cv) + 64) c2].length)).take (k + 1) = us.take k ++ [Value.slice A2 (lenV (.slice Av n cv) + 64) c2] := by
                        have h := HTL.out
                        rw [List.take_append_of_le_length (by rw [List.length_append, h]; simp), List.take_of_length_le (by rw [List.length_append, h]; simp)]
                      have hP5 : P2 MS RTS 41 2 vs (us.take k ++ [Value.slice A2 (lenV (.slice Av n cv) + 64) c2]) (w2.setCells GG k [Value.slice A2 (lenV (.slice Av n cv) + 64) c2]) := HP4.out.keep fun j b hj hb => below_seg (by
                        rintro rfl
                        obtain ⟨c1, h1⟩ := (HP4.out.lt hj).2
                        exact blk_ne h1 HCG.out (by decide) rfl)
                      go_roundw
                      case rel => exact ⟨k + 1, _, by simp, by omega, ⟨by have h := own_len hseg; rw [Nat.mul_one] at h; exact h⟩, ⟨hseg⟩, ⟨by rw [hut]; exact hP5⟩, ⟨show Rest vs w0 (w2.setCells GG k [Value.slice A2 (lenV (.slice Av n cv) + 64) c2]) from HR4.out.far HBG.out⟩⟩
                      case measure => simp [RowKit.intOf]; omega
                · have hke : k = vs.length := by omega
                  subst hke
                  have HP5 := Aside0.mk (show P2 MS RTS 41 2 vs us wr by
                    have h := HP2.out
                    rwa [List.take_of_length_le (by rw [HUL.out]; exact Nat.le_refl _)] at h)
                  clear hk hlt HP2
                  go_wp2
                  go_loopw [14] (fun kv wr => ∃ k : Nat, kv = .int .i64 (k : Nat) ∧ k ≤ vs.length ∧ Aside0 (wr.ownsRow w0.heap.size 23 1 (.slice Ags vs.length cgs) vs.length us) ∧ Aside0 (P2 MS RTS 41 2 vs us wr) ∧ Aside0 (Rest vs w0 wr)) (fun kv _ => vs.length - (RowKit.intOf kv).toNat)
                  case atStart => exact ⟨0, rfl, Nat.zero_le _, HGS, HP5, HR2⟩
                  case round =>
                    clear HP5 HR2 HGS
                    obtain ⟨k, rfl, hk, HGS, HP2, HR2⟩ := hrel
                    by_cases hlt : k < vs.length
                    · have hov := HOU.out _ HR2.out
                      have hvk : vs[k]? = some vs[k] := List.getElem?_eq_getElem hlt
                      obtain ⟨v, hv⟩ : ∃ v, vs[k] = v := ⟨_, rfl⟩
                      rw [hv] at hvk
                      have huk : us[k]? = some (us[k]'(by rw [HUL.out]; exact hlt)) := List.getElem?_eq_getElem _
                      obtain ⟨u, hu⟩ : ∃ u, us[k]'(by rw [HUL.out]; exact hlt) = u := ⟨_, rfl⟩
                      rw [hu] at huk
                      obtain ⟨GO, capO, eO, _, _⟩ := hov.form (by omega)
                      have eA : AO = some ⟨GO, 0, none⟩ := by injection eO
                      obtain ⟨GG, capG, eG, _, _⟩ := HGS.out.form (by omega)
                      have eAG : Ags = some ⟨GG, 0, none⟩ := by injection eG
                      subst eAG
                      have hx0 := HP2.out.row k v hvk
                      obtain ⟨Av, cv, ev⟩ := own_slice hx0
                      obtain ⟨xg, hg0, _⟩ := HP2.out.got k u v huk hvk
                      obtain ⟨n, hn⟩ : ∃ n, lenV v = n := ⟨_, rfl⟩
                      have hnl : n ≤ 1000000000 := by rw [← hn]; exact HLN.out v (by rw [← hv]; exact List.getElem_mem hlt)
                      rw [hn] at ev hg0
                      subst ev
                      obtain ⟨g, cu, eu, _, _⟩ := hg0.form (by omega)
                      subst eu
                      have HVK := Aside0.mk hvk
                      have HUK := Aside0.mk huk
                      have EA := Aside0.mk eA
                      have XKK := Aside0.mk (fun (W : World) (h : Rest vs w0 W) => show W.cell? ⟨GO, k, none⟩ = some (.slice Av n cv) by
                        have h1 := HOU.out W h
                        rw [EA.out] at h1
                        exact (own_cell h1 (by omega)).trans HVK.out)
                      have YKK := Aside0.mk (fun (W : World) (h : W.ownsRow w0.heap.size 23 1 (.slice (some ⟨GG, 0, none⟩) vs.length cgs) vs.length us) => show W.cell? ⟨GG, k, none⟩ = some (.slice (some ⟨g, 0, none⟩) (n + 64) cu) from (own_cell h (by omega)).trans HUK.out)
                      have xk := XKK.out _ HR2.out
                      clear hx0 hg0 hv hu hov eO eG hn hvk huk eA
                      rw [EA.out]
                      go_wp2
                      go_loopw [15] (fun iv wr => ∃ i : Nat, iv = .int .i64 (i : Nat) ∧ i ≤ n ∧ Aside0 (wr.ownsRow w0.heap.size 23 1 (.slice (some ⟨GG, 0, none⟩) vs.length cgs) vs.length us) ∧ Aside0 (P2 MS RTS 41 2 vs us wr) ∧ Aside0 (Rest vs w0 wr)) (fun iv _ => n - (RowKit.intOf iv).toNat)
                      case atStart => exact ⟨0, rfl, Nat.zero_le _, HGS, HP2, HR2⟩
                      case round =>
                        clear xk
                        obtain ⟨i, rfl, hi, HGS3, HP3, HR3⟩ := hrel
                        have xk := XKK.out _ HR3.out
                        have yk := YKK.out _ HGS3.out
                        by_cases hin : i < n
                        · obtain ⟨xg3, hg3, ys3, hxg3⟩ := HP3.out.got k _ _ HUK.out HVK.out
                          subst hxg3
                          have hg4 := own_prefix hg3 (marks_len MS_len k n)
                          have hv3 := HP3.out.row k _ HVK.out
                          have hu0 : ∀ j : Wb wr, j.val.cell? ⟨g, i * 2, none⟩ = some (.int .i64 (MSn k i)) := fun j => Kd.cell_heap (fun b hb => j.bel.block b hb) ((own_mark (q := 0) MS_len hg4 rfl hin (by decide)).trans rfl)
                          have hu1 : ∀ j : Wb wr, j.val.cell? ⟨g, i * 2 + 1, none⟩ = some (.slice none 0 0) := fun j => Kd.cell_heap (fun b hb => j.bel.block b hb) ((own_mark (q := 1) MS_len hg4 rfl hin (by decide)).trans rfl)
                          have hxk : ∀ j : Wb wr, j.val.cell? ⟨GO, k, none⟩ = some (.slice Av n cv) := fun j => Kd.cell_heap (fun b hb => j.bel.block b hb) xk
                          have hyk : ∀ j : Wb wr, j.val.cell? ⟨GG, k, none⟩ = some (.slice (some ⟨g, 0, none⟩) (n + 64) cu) := fun j => Kd.cell_heap (fun b hb => j.bel.block b hb) yk
                          have HMT := Aside0.mk (fun j : Wb wr => show Calls Tryd.prog 76 #[.int .i64 (k : Nat), .int .i64 (i : Nat)] j.val fun e w' => e = .returned (.int .i64 (MSn k i)) ∧ ∃ q : Wb wr, w' = q.val from
                            (mark_calls k i k i rfl rfl j.val).mono fun e w' h => ⟨h.1, ⟨⟨w', j.bel.trans (h.2.mono j.bel.size)⟩, rfl⟩⟩)
                          have hnw : Nonempty (Wb wr) := ⟨⟨wr, Below.refl _ _⟩⟩
                          obtain ⟨g1, c1, e1, _, _⟩ := hv3.form (by show 0 < n; omega)
                          have e2 : Av = some ⟨g1, 0, none⟩ := by injection e1
                          subst e2
                          have hv0 : ∀ j : Wb wr, j.val.cell? ⟨g1, i * 2, none⟩ = some (.int .i64 (MSn k i)) := fun j => Kd.cell_heap (fun b hb => j.bel.block b hb) ((own_mark (q := 0) MS_len hv3 rfl hin (by decide)).trans rfl)
                          have hv1 : ∀ j : Wb wr, j.val.cell? ⟨g1, i * 2 + 1, none⟩ = some (.slice none 0 0) := fun j => Kd.cell_heap (fun b hb => j.bel.block b hb) ((own_mark (q := 1) MS_len hv3 rfl hin (by decide)).trans rfl)
                          clear e1 hg3 hg4 hv3
                          go_wp2
                          refine region_clsK (by kernel_rfl) (by kernel_rfl) ?_
                          repeat (go_big_quiet_step (first | (go_at_call 76; exact HMT.out _)))
                          refine wpQuiet_nil ?_
                          intro _ hw'
                          obtain ⟨j, hw''⟩ := hw'
                          subst hw''
                          have HGS4 := Aside0.mk (own_below HGS3.out j.bel)
                          have HP4 := Aside0.mk (HP3.out.below j.bel)
                          have HR4 := Aside0.mk (HR3.out.below j.bel)
                          clear hu0 hu1 hxk hyk xk yk hv0 hv1
                          go_wp2
                          go_roundw
                          case rel => exact ⟨i + 1, by simp, by omega, HGS4, HP4, HR4⟩
                          case measure => simp [RowKit.intOf]; omega
                        · have hie : i = n := by omega
                          subst hie
                          go_wp2
                          go_roundw
                          case rel => exact ⟨k + 1, by simp, by omega, HGS3, HP3, HR3⟩
                          case measure => simp [RowKit.intOf]; omega
                    · have hke : k = vs.length := by omega
                      subst hke
                      go_wp2
                      go_ret
                      exact ⟨rfl, HR2.out⟩
end Go.Proofs.YtbaiglikmneicaaDoor.KP

set_option linter.unusedVariables false
set_option linter.unusedSimpArgs false
namespace Go.Proofs.YtbaiglikmneicaaDoor.KP
open Go Go.RowKit Go.Proofs.YtbaiglikmneicaaDoorW.PrintWords Go.Proofs.YtbaiglikmneicaaDoorW.PrintLast Go.Proofs.YtbaiglikmneicaaDoorW.PrintMore

/-- The fields' slices of a row's first n stanzas, out of the row's cells. -/
def fieldsN (xs : List Value) : Nat → List Value
  | 0 => []
  | n + 1 => fieldsN xs n ++ [xs.getD (n * 2 + 1) (.slice none 0 0)]
/-- .. of the first k rows. -/
def fieldsK (X : Nat → List Value) (L : Nat → Nat) : Nat → List Value
  | 0 => []
  | k + 1 => fieldsK X L k ++ fieldsN (X k) (L k)
theorem fieldsN_len (xs : List Value) : ∀ n, (fieldsN xs n).length = n
  | 0 => rfl
  | n + 1 => by rw [fieldsN, List.length_append, fieldsN_len xs n]; rfl
theorem fieldsK_le (X : Nat → List Value) (L : Nat → Nat) : ∀ K k : Nat, k < K → (fieldsK X L k).length + L k ≤ (fieldsK X L K).length
  | 0, k, h => absurd h (Nat.not_lt_zero _)
  | K + 1, k, h => by
    rw [fieldsK, List.length_append, fieldsN_len]
    by_cases hk : k = K
    · subst hk; exact Nat.le_refl _
    · have := fieldsK_le X L K k (by omega)
      omega
/-- The rows' lengths. -/
def lenAt (vs : List Value) (j : Nat) : Nat := lenV (vs.getD j (.slice none 0 0))
set_option maxHeartbeats 16000000 in
set_option maxRecDepth 100000 in
theorem apartPapers_calls (V : Value) (vs : List Value) (X : Nat → List Value) (bO : Nat) (w0 : World) (hO : w0.ownsRow bO 23 1 V vs.length vs) (hrows : ∀ (j : Nat) (v : Value), vs[j]? = some v → w0.ownsRow 0 41 2 v (lenV v) (X j))
    (hX : ∀ k j : Nat, k < vs.length → j < lenAt vs k → ∃ A n c, (X k)[j * 2 + 1]? = some (.slice A n c)) (hF : ∀ (j : Nat) (u : Value), (fieldsK X (lenAt vs) vs.length)[j]? = some u → ∃ xs, w0.ownsRow 0 50 2 u (lenV u) xs) (hap : apart vs) (hapF : apart (fieldsK X (lenAt vs) vs.length)) (hlen : vs.length ≤ 1000000000) (hln : ∀ v ∈ vs, lenV v ≤ 1000000000) (hlF : (fieldsK X (lenAt vs) vs.length).length ≤ 1000000000) (hlnF : ∀ v ∈ fieldsK X (lenAt vs) vs.length, lenV v ≤ 1000000000) :
    Calls Tryd.prog 46 #[V] w0 fun e w' => e = .returned (.bool true) ∧ Rest (fieldsK X (lenAt vs) vs.length ++ vs) w0 w' := by
  obtain ⟨AO, cO, rfl⟩ := own_slice hO
  have HO := Aside0.mk hO
  have HRW := Aside0.mk hrows
  have HX := Aside0.mk hX
  have HF := Aside0.mk hF
  have HAP := Aside0.mk hap
  have HAPF := Aside0.mk hapF
  have HLN := Aside0.mk hln
  have HLF := Aside0.mk hlF
  have HLNF := Aside0.mk hlnF
  clear hO hrows hX hF hap hapF hln hlF hlnF
  go_enter Tryd.func46, Tryd.ntmps46
  go_wp2
  go_loopw [3, 4] (fun fv kv wr => ∃ (k : Nat) (fV : Value), fV = fv ∧ kv = .int .i64 (k : Nat) ∧ k ≤ vs.length ∧ Aside0 (wr.ownsRow w0.heap.size 39 1 fV (fieldsK X (lenAt vs) k).length (fieldsK X (lenAt vs) k)) ∧ Aside0 (Below w0.heap.size w0 wr)) (fun _ kv _ => vs.length - (RowKit.intOf kv).toNat)
  case atStart => exact ⟨0, _, rfl, rfl, Nat.zero_le _, ⟨World.ownsRow_nil _ _ _ _⟩, ⟨Below.refl _ _⟩⟩
  case round =>
    obtain ⟨k, fV, rfl, rfl, hk, HFV, HB⟩ := hrel
    by_cases hlt : k < vs.length
    · have hov := own_below HO.out HB.out
      have hvk : vs[k]? = some vs[k] := List.getElem?_eq_getElem hlt
      obtain ⟨v, hv⟩ : ∃ v, vs[k] = v := ⟨_, rfl⟩
      rw [hv] at hvk
      obtain ⟨GO, capO, eO, _, _⟩ := hov.form (by omega)
      have eA : AO = some ⟨GO, 0, none⟩ := by injection eO
      have hx0 := HRW.out k v hvk
      obtain ⟨Av, cv, ev⟩ := own_slice hx0
      obtain ⟨n, hn⟩ : ∃ n, lenV v = n := ⟨_, rfl⟩
      have hnl : n ≤ 1000000000 := by rw [← hn]; exact HLN.out v (by rw [← hv]; exact List.getElem_mem hlt)
      have hla : lenAt vs k = n := by rw [← hn]; unfold lenAt; rw [List.getD_eq_getElem?_getD, hvk]; rfl
      rw [hn] at ev
      subst ev
      have HVK := Aside0.mk hvk
      have HLA := Aside0.mk hla
      have EA := Aside0.mk eA
      have XKK := Aside0.mk (fun (W : World) (h : Below w0.heap.size w0 W) => show W.cell? ⟨GO, k, none⟩ = some (.slice Av n cv) by
        have h1 := own_below HO.out h
        rw [EA.out] at h1
        exact (own_cell h1 (by omega)).trans HVK.out)
      have xk := XKK.out _ HB.out
      clear hx0 hv hov eO hn hvk eA hla
      rw [EA.out]
      go_wp2
      go_loopw [3, 5] (fun fv jv wr => ∃ (j : Nat) (fV : Value), fV = fv ∧ jv = .int .i64 (j : Nat) ∧ j ≤ n ∧ Aside0 (wr.ownsRow w0.heap.size 39 1 fV ((fieldsK X (lenAt vs) k).length + j) (fieldsK X (lenAt vs) k ++ fieldsN (X k) j)) ∧ Aside0 (Below w0.heap.size w0 wr)) (fun _ jv _ => n - (RowKit.intOf jv).toNat)
      case atStart => exact ⟨0, _, rfl, rfl, Nat.zero_le _, ⟨by simpa [fieldsN] using HFV.out⟩, HB⟩
      case round =>
        clear xk
        obtain ⟨j, fV, rfl, rfl, hj, HFV2, HB2⟩ := hrel
        have xk := XKK.out _ HB2.out
        by_cases hin : j < n
        · have hr := own_below (HRW.out k _ HVK.out) HB2.out
          obtain ⟨g, cap, eg, _, _⟩ := hr.form (by show 0 < n; omega)
          have eg2 : Av = some ⟨g, 0, none⟩ := by injection eg
          subst eg2
          obtain ⟨Af, nf, cf, hf⟩ := HX.out k j hlt (by rw [HLA.out]; exact hin)
          have xf : wr.cell? ⟨g, j * 2 + 1, none⟩ = some (.slice Af nf cf) := (own_cell hr (by show j * 2 + 1 < n * 2; omega)).trans hf
          have hgd : (X k).getD (j * 2 + 1) (.slice none 0 0) = .slice Af nf cf := by rw [List.getD_eq_getElem?_getD, hf]; rfl
          have hle := fieldsK_le X (lenAt vs) vs.length k hlt
          rw [HLA.out] at hle
          have hlF := HLF.out
          have HGD := Aside0.mk hgd
          have HLE := Aside0.mk hle
          clear hr eg hf hgd
          go_wp2_with (first | (at_builtin; refine wpList_append_val (e := 39) (bytes := 24) rfl (.tmp 22) (.tmp 31) 33 rfl Tryd.underlying33 info39K rfl (gsV := fV) rfl rfl rfl HFV2.out HB2.out.size (by unfold maxLen; omega) (by omega) ?_))
          intro fV2 w2 hf2 hg2
          have HB3 := Aside0.mk (show Below w0.heap.size w0 w2 from ⟨hg2.os.trans HB2.out.os, hg2.tape.trans HB2.out.tape, hg2.output.trans HB2.out.output, Nat.le_trans HB2.out.size hg2.size, fun b hb => (hg2.block b (Nat.lt_of_lt_of_le hb HB2.out.size) (fun e => by
            have := (own_lt HFV2.out b e.symm).1
            omega)).trans (HB2.out.block b hb)⟩)
          have HF3 := Aside0.mk hf2
          clear hf2 hg2 xf xk hle
          go_wp2
          go_roundw
          case rel => exact ⟨j + 1, fV2, rfl, by simp, by omega, ⟨by rw [fieldsN, HGD.out, ← List.append_assoc, List.append_assoc]; first | exact HF3.out | (rw [← List.append_assoc]; exact HF3.out)⟩, HB3⟩
          case measure => simp [RowKit.intOf]; omega
        · have hje : j = n := by omega
          subst hje
          go_wp2
          go_roundw
          case rel => exact ⟨k + 1, fV, rfl, by simp, by omega, ⟨by rw [fieldsK, HLA.out, List.length_append, fieldsN_len]; exact HFV2.out⟩, HB2⟩
          case measure => simp [RowKit.intOf]; omega
    · have hke : k = vs.length := by omega
      subst hke
      have hcF := apartFields_calls fV (fieldsK X (lenAt vs) vs.length) w0.heap.size wr HFV.out (fun j u hu => by obtain ⟨xs, h⟩ := HF.out j u hu; exact ⟨xs, own_below h HB.out⟩) HAPF.out HLF.out HLNF.out
      have HCF := Aside0.mk hcF
      clear hcF
      go_wp2_with fail
      refine HCF.out.mono ?_
      rintro e w2 ⟨rfl, hR⟩
      have hkeep : ∀ {v : Value} {base e2 sz n : Nat} {xs : List Value}, e2 ≠ 50 → wr.ownsRow base e2 sz v n xs → w2.ownsRow base e2 sz v n xs := fun {v base e2 sz n xs} hne h => own_keep h fun b hb => hR.same b (own_lt h b hb).2 (fun u hu he => by
        obtain ⟨j, hj⟩ := List.mem_iff_getElem?.1 hu
        obtain ⟨ys, hy⟩ := HF.out j u hj
        obtain ⟨c1, h1⟩ := own_typed h b hb
        obtain ⟨c2, h2⟩ := own_typed (own_below hy HB.out) b he
        exact blk_ne h1 h2 hne rfl)
      have HCS := Aside0.mk (apartStanzas_calls (.slice AO vs.length cO) vs bO w2 (hkeep (by decide) (own_below HO.out HB.out)) (fun j v hv => ⟨X j, hkeep (by decide) (own_below (HRW.out j v hv) HB.out)⟩) HAP.out hlen HLN.out)
      have HR := Aside0.mk hR
      clear hkeep hR
      go_wp2_with fail
      refine HCS.out.mono ?_
      rintro e w3 ⟨rfl, hS⟩
      have HRS := Aside0.mk (show Rest (fieldsK X (lenAt vs) vs.length ++ vs) w0 w3 from ⟨hS.os.trans (HR.out.os.trans HB.out.os), hS.tape.trans (HR.out.tape.trans HB.out.tape), hS.output.trans (HR.out.output.trans HB.out.output),
        Nat.le_trans HB.out.size (Nat.le_trans HR.out.size hS.size), fun b hb hn => ((hS.same b (Nat.lt_of_lt_of_le hb (Nat.le_trans HB.out.size HR.out.size)) fun v hv => hn v (List.mem_append_right _ hv)).trans (HR.out.same b (Nat.lt_of_lt_of_le hb HB.out.size) fun v hv => hn v (List.mem_append_left _ hv))).trans (HB.out.block b hb)⟩)
      clear hS
      go_wp2
      go_ret
      exact ⟨rfl, HRS.out⟩
end Go.Proofs.YtbaiglikmneicaaDoor.KP
