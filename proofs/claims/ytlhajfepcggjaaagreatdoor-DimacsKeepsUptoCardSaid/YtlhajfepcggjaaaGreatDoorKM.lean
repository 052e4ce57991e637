/- A region that draws its order and whose last operation waits for all others: a quiet walk of the others, then the last one. No conditions. Rows that own their block: a prefix, a cell, a segment written, an element appended with the capacity told. No conditions. Rows that lie apart: marked, grown; what each step leaves. A mark is told by a relation on its cells (it may lead to a block of type tI). No conditions. An element appended to the row that grows: in place, or into a new block; marks told by a relation. No conditions. -/
import Derived.Deep.Quiet
import Derived.Below
import Derived.Test.YtlhajfepcggjaaaGreatDoorWK
import Derived.Deep.DeepAppendRoom
import Derived.ArgAppend
set_option linter.unusedVariables false
set_option linter.unusedSimpArgs false
namespace Go.Proofs.YtlhajfepcggjaaaGreatDoor.KP
open Go Go.RowKit
variable {P : Program} {md : Region.Mode} {C : World → Prop}

/-- The last operation has no guard and waits for each of the n others. -/
def lastOn (md : Region.Mode) (n : Nat) (o : Oper) : Bool := o.guard.isNone && (List.range n).all (fun i => o.after.any fun e => Region.binds md e && e.on == i) && o.after.all fun e => decide (e.on < n)
/-- Each operation waits for earlier ones alone, its guard too. -/
def edgesOn (l : List Oper) : Bool := (List.range l.length).all fun i => match l[i]? with
 | some o => (o.after.all fun e => decide (e.on < i)) && (match o.guard with | none => true | some g => decide (g.1 < i))
 | none => true
theorem edgesOn_spec {l : List Oper} (h : edgesOn l = true) {i : Nat} {o : Oper} (hi : l[i]? = some o) : (∀ e ∈ o.after, e.on < i) ∧ ∀ g, o.guard = some g → g.1 < i := by
 have hl : i < l.length := (List.getElem?_eq_some_iff.1 hi).1
 have h1 := List.all_eq_true.1 h i (List.mem_range.2 hl)
 rw [hi] at h1
 simp only [Bool.and_eq_true] at h1
 refine ⟨fun e he => ?_, fun g hg => ?_⟩
 ·exact of_decide_eq_true (Array.all_eq_true'.1 h1.1 e he)
 ·have h2 := h1.2
  rw [hg] at h2
  exact of_decide_eq_true h2
theorem at_lt {l : List Oper} {o : Oper} {i : Nat} (hi : i < l.length) : (l ++ [o]).toArray[i]? = l.toArray[i]? := by
 rw [List.getElem?_toArray, List.getElem?_toArray, List.getElem?_append_left hi]
theorem at_last {l : List Oper} {o : Oper} : (l ++ [o]).toArray[l.length]? = some o := by
 rw [List.getElem?_toArray, List.getElem?_append_right (Nat.le_refl _), Nat.sub_self]
 rfl
theorem getD_push {listed : Array Bool} {x d : Bool} {j : Nat} : (listed.push x).getD j d = if j = listed.size then x else listed.getD j d := by
 rw [Array.getD_eq_getD_getElem?, Array.getD_eq_getD_getElem?, Array.getElem?_push]
 split <;> rfl
theorem getD_other {listed : Array Bool} {j : Nat} (h : listed.getD j true = true) (hj : j < listed.size) : listed.getD j false = true := by
 rw [Array.getD_eq_getD_getElem?, Array.getElem?_eq_getElem hj] at h
 rw [Array.getD_eq_getD_getElem?, Array.getElem?_eq_getElem hj]
 exact h
theorem getD_false {listed : Array Bool} {j : Nat} (h : listed.getD j false = true) : j < listed.size ∧ listed.getD j true = true := by
 rcases Nat.lt_or_ge j listed.size with hj | hj
 ·refine ⟨hj, ?_⟩
  rw [Array.getD_eq_getD_getElem?, Array.getElem?_eq_getElem hj] at h
  rw [Array.getD_eq_getD_getElem?, Array.getElem?_eq_getElem hj]
  exact h
 ·rw [Array.getD_eq_getD_getElem?, Array.getElem?_eq_none hj] at h
  cases h
theorem ready_lt {l : List Oper} {o : Oper} {listed : Array Bool} (hs : listed.size = l.length) {i : Nat} (hi : i < l.length) :
  i ∈ Region.ready md (l ++ [o]).toArray (listed.push false) ↔ i ∈ Region.ready md l.toArray listed := by
 rw [mem_ready, mem_ready, at_lt hi, getD_push, if_neg (by omega)]
 have hd : ∀ j : Nat, (listed.push false).getD j false = listed.getD j false := fun j => by
  rw [getD_push]
  split
  ·rename_i h
   rw [Array.getD_eq_getD_getElem?, Array.getElem?_eq_none (by omega)]
   rfl
  ·rfl
 simp only [hd]
theorem all_listed {l : List Oper} (hE : edgesOn l = true) {listed : Array Bool} (hs : listed.size = l.length) (h : Region.ready md l.toArray listed = []) : ∀ i : Nat, listed.getD i true = true := by
 intro i
 induction i using Nat.strongRecOn with
 | _ i ih =>
  rcases Nat.lt_or_ge i l.length with hi | hi
  ·cases hb : listed.getD i true with
   | true => rfl
   | false =>
    have hm : i ∈ Region.ready md l.toArray listed := mem_ready.2 ⟨hb, l[i], by rw [List.getElem?_toArray]; exact List.getElem?_eq_getElem hi, fun e he _ => by
     have h1 := (edgesOn_spec hE (List.getElem?_eq_getElem hi)).1 e he
     exact getD_other (ih e.on h1) (by omega)⟩
    rw [h] at hm
    cases hm
  ·rw [Array.getD_eq_getD_getElem?, Array.getElem?_eq_none (by omega)]
   rfl
theorem ready_last {l : List Oper} {o : Oper} (hO : lastOn md l.length o = true) {listed : Array Bool} (hs : listed.size = l.length) :
  l.length ∈ Region.ready md (l ++ [o]).toArray (listed.push false) ↔ ∀ i : Nat, listed.getD i true = true := by
 simp only [lastOn, Bool.and_eq_true] at hO
 obtain ⟨⟨_, hc⟩, hb⟩ := hO
 rw [mem_ready, at_last, getD_push, if_pos hs.symm]
 constructor
 ·rintro ⟨_, o', ho, h⟩ i
  obtain rfl := Option.some.inj ho
  rcases Nat.lt_or_ge i l.length with hi | hi
  ·have h1 := List.all_eq_true.1 hc i (List.mem_range.2 hi)
   obtain ⟨e, he, h2⟩ := Array.any_eq_true'.1 h1
   rw [Bool.and_eq_true] at h2
   have h3 := h e he h2.1
   have h4 : e.on = i := by simpa using h2.2
   rw [h4, getD_push, if_neg (by omega)] at h3
   exact (getD_false h3).2
  ·rw [Array.getD_eq_getD_getElem?, Array.getElem?_eq_none (by omega)]
   rfl
 ·intro h
  refine ⟨rfl, o, rfl, fun e he _ => ?_⟩
  have h1 : e.on < l.length := of_decide_eq_true (Array.all_eq_true'.1 hb e he)
  rw [getD_push, if_neg (by omega)]
  exact getD_other (h e.on) (by omega)
theorem ready_done {l : List Oper} {o : Oper} {listed : Array Bool} (h : ∀ i : Nat, listed.getD i true = true) : Region.ready md (l ++ [o]).toArray (listed.push true) = [] := by
 rw [List.eq_nil_iff_forall_not_mem]
 intro i hi
 have h1 := (mem_ready.1 hi).1
 rw [getD_push] at h1
 split at h1
 ·cases h1
 ·rw [h i] at h1; cases h1
theorem set_push_lt {listed : Array Bool} {i : Nat} (hi : i < listed.size) : (listed.push false).setIfInBounds i true = (listed.setIfInBounds i true).push false := by
 apply Array.ext_getElem?
 intro j
 rw [Array.getElem?_setIfInBounds, Array.getElem?_push, Array.getElem?_push, Array.getElem?_setIfInBounds, Array.size_push, Array.size_setIfInBounds]
 by_cases hij : i = j
 ·subst hij
  rw [if_pos rfl, if_pos (by omega), if_neg (by omega), if_pos rfl, if_pos hi]
 ·rw [if_neg hij, if_neg hij]
theorem set_push_last {listed : Array Bool} : (listed.push false).setIfInBounds listed.size true = listed.push true := by
 apply Array.ext_getElem?
 intro j
 rw [Array.getElem?_setIfInBounds, Array.getElem?_push, Array.getElem?_push, Array.size_push]
 by_cases hij : listed.size = j
 ·rw [if_pos hij, if_pos (by omega), if_pos hij.symm]
 ·rw [if_neg hij, if_neg (fun h => hij h.symm), if_neg (fun h => hij h.symm)]
/-- What is asked ahead of the last operation. -/
def lastQ (P : Program) (o : Oper) (Q : Exit → Act → World → Prop) : Exit → Act → World → Prop
 | .normal, a, w => o.wp P a w (fun a w => Q .normal a w) Q
 | .ret, a, w => Q .ret a w
 | .exit i, a, w => Q (.exit i) a w
 | .goto i, a, w => Q (.goto i) a w
 | .panic c, a, w => Q (.panic c) a w
 | .outgrown, a, w => Q .outgrown a w
theorem wp_lastQ {o oi : Oper} {Q : Exit → Act → World → Prop} {a : Act} {w : World} {K K' : Act → World → Prop} (hK : ∀ a w, K a w → K' a w) (h : oi.wp P a w K (lastQ P o Q)) : oi.wp P a w K' Q := by
 unfold Oper.wp at h ⊢
 generalize Sem.run P (execOp a.eval oi) w = r at h ⊢
 cases r with
 | ok x w' =>
  cases x <;> simp only [Oper.upon] at h ⊢
  case value => exact hK _ _ h
  case skip => exact hK _ _ h
  case defer => exact hK _ _ h
  case enter =>
   refine h.mono fun e w'' he => ?_
   cases e with
   | returned v => exact hK _ _ he
   | panicked c => exact he
   | outgrown => exact he
  case row => exact h.mono fun v w'' he => hK _ _ he
 | halt x w' => cases x <;> simp only [Oper.upon] at h ⊢ <;> first | exact h | exact h.elim
theorem yielded_at {l : List Oper} {o : Oper} {ts : Array Value} {j : Nat} (hj : j < l.length) : yielded (l ++ [o]).toArray ts j = yielded l.toArray ts j := by
 unfold yielded
 rw [at_lt hj]
theorem wpOp_last {l : List Oper} {o : Oper} (hE : edgesOn l = true) {Q : Exit → Act → World → Prop} {a : Act} {w : World} {i : Nat} (hi : i < l.length) {K K' : Act → World → Prop} (hK : ∀ a w, K a w → K' a w)
  (h : wpOp P l.toArray (lastQ P o Q) i K a w) : wpOp P (l ++ [o]).toArray Q i K' a w := by
 unfold wpOp at h ⊢
 rw [at_lt hi]
 have he : l.toArray[i]? = some l[i] := by rw [List.getElem?_toArray]; exact List.getElem?_eq_getElem hi
 rw [he] at h ⊢
 simp only at h ⊢
 have hw : Region.wanted l[i] (yielded (l ++ [o]).toArray a.tmps) = Region.wanted l[i] (yielded l.toArray a.tmps) := by
  unfold Region.wanted
  split
  ·rfl
  ·rename_i j want hg
   have hj := (edgesOn_spec hE (List.getElem?_eq_getElem hi)).2 _ hg
   rw [yielded_at (by simp only at hj; omega)]
 rw [hw]
 split
 ·rename_i hwt
  rw [if_pos hwt] at h
  rcases h with h | ⟨h1, h2⟩
  ·exact .inl (wp_lastQ hK h)
  ·exact .inr ⟨h1, by obtain ⟨a', w', h3⟩ := h2; exact ⟨a', w', h3⟩⟩
 ·rename_i hwt
  rw [if_neg hwt] at h
  exact hK _ _ h
theorem wpAny_last {l : List Oper} {o : Oper} (hE : edgesOn l = true) (hO : lastOn md l.length o = true) {Q : Exit → Act → World → Prop} : ∀ (fuel : Nat) (listed : Array Bool) (a : Act) (w : World), listed.size = l.length →
  wpAny P md l.toArray (lastQ P o Q) fuel listed a w → wpAny P md (l ++ [o]).toArray Q (fuel + 1) (listed.push false) a w := by
 have hg : o.guard = none := by
  simp only [lastOn, Bool.and_eq_true] at hO
  simpa using hO.1.1
 -- the last one
 have last : ∀ (fuel : Nat) (listed : Array Bool) (a : Act) (w : World), listed.size = l.length → (∀ i : Nat, listed.getD i true = true) → lastQ P o Q .normal a w →
   wpOp P (l ++ [o]).toArray Q l.length (wpAny P md (l ++ [o]).toArray Q fuel ((listed.push false).setIfInBounds l.length true)) a w := by
  intro fuel listed a w hs hall h
  unfold wpOp
  rw [at_last]
  simp only
  have hw : Region.wanted o (yielded (l ++ [o]).toArray a.tmps) = true := by
   unfold Region.wanted
   rw [hg]
  rw [if_pos hw, ← hs, set_push_last]
  refine .inl ?_
  have h1 : o.wp P a w (fun a w => Q .normal a w) Q := h
  refine Oper.wp_mono (fun a' w' hq => ?_) h1
  have hd := ready_done (md := md) (l := l) (o := o) hall
  cases fuel with
  | zero => exact ⟨hd, hq⟩
  | succ fuel => exact ⟨fun _ => hq, fun i hi => by rw [hd] at hi; cases hi⟩
 intro fuel
 induction fuel with
 | zero =>
  intro listed a w hs h
  have hall := all_listed (md := md) hE hs h.1
  refine ⟨fun h0 => ?_, fun i hi => ?_⟩
  ·have := (ready_last hO hs).2 hall
   rw [h0] at this
   cases this
  ·by_cases hil : i < l.length
   ·have := (ready_lt (md := md) hs hil).1 hi
    rw [h.1] at this
    cases this
   ·have hil2 : i = l.length := by
     obtain ⟨_, o', ho, _⟩ := mem_ready.1 hi
     have := (Array.getElem?_eq_some_iff.1 ho).1
     simp at this
     omega
    subst hil2
    exact last 0 listed a w hs hall h.2
 | succ fuel ih =>
  intro listed a w hs h
  refine ⟨fun h0 => ?_, fun i hi => ?_⟩
  ·have hr : Region.ready md l.toArray listed = [] := by
    rw [List.eq_nil_iff_forall_not_mem]
    intro i hi
    have hil : i < l.length := by
     obtain ⟨_, o', ho, _⟩ := mem_ready.1 hi
     have := (Array.getElem?_eq_some_iff.1 ho).1
     simpa using this
    have := (ready_lt (md := md) (o := o) hs hil).2 hi
    rw [h0] at this
    cases this
   have := (ready_last hO hs).2 (all_listed (md := md) hE hs hr)
   rw [h0] at this
   cases this
  ·by_cases hil : i < l.length
   ·have h1 := (ready_lt (md := md) hs hil).1 hi
    rw [set_push_lt (by omega)]
    exact wpOp_last hE hil (fun a' w' hk => ih _ a' w' (by simpa using hs) hk) (h.2 i h1)
   ·have hil2 : i = l.length := by
     obtain ⟨_, o', ho, _⟩ := mem_ready.1 hi
     have := (Array.getElem?_eq_some_iff.1 ho).1
     simp at this
     omega
    subst hil2
    have hall := (ready_last hO hs).1 hi
    have hr : Region.ready md l.toArray listed = [] := by
     rw [List.eq_nil_iff_forall_not_mem]
     intro i hi
     have := (mem_ready.1 hi).1
     rw [hall i] at this
     cases this
    exact last (fuel + 1) listed a w hs hall (h.1 hr)
/-- A world in which what lay still lies. -/
structure Wb (A : World) where
 val : World
 bel : Below A.heap.size A val
/-- The region: a quiet walk of all but the last, in the class 'what lay still lies'; then the last. -/
theorem region_lastK {id : Nat} {Q : Exit → Act → World → Prop} {a : Act} {w : World} (l : List Oper) (o : Oper) (hm : P.follows .mixedOrders = true) (hE : edgesOn l = true) (hO : lastOn .any l.length o = true) (hB : Region.lexB .any l.toArray = true)
  (h : wpQuiet P l.toArray (fun w' => ∃ i : Wb w, w' = i.val) (fun a' => ∀ w', (∃ i : Wb w, w' = i.val) → o.wp P a' w' (fun a w => Q .normal a w) Q) l a) : (Code.region id (l ++ [o]).toArray true).wp P Q a w := by
 simp only [Region.lexB, Bool.and_eq_true] at hB
 have hC : (fun w' => ∃ i : Wb w, w' = i.val) { w with drawn := w.drawn + 1 } := ⟨⟨{ w with drawn := w.drawn + 1 }, ⟨rfl, rfl, rfl, Nat.le_refl _, fun _ _ => rfl⟩⟩, rfl⟩
 have h1 := wpAnyQ_lex (P := P) (C := fun w' => ∃ i : Wb w, w' = i.val) (md := .any) hB.1 l 0 (Array.replicate l.toArray.size false) a (by simp) (by simpa using hB.2) h
 have h2 := wpAny_of_quiet (Q' := lastQ P o Q) (fun a' w' hw' hq => hq w' hw') _ _ a _ hC h1
 have h3 := wpAny_last hE hO _ _ a _ (by simp) h2
 refine wp_region_any hm ?_
 have e1 : (Array.replicate l.toArray.size false).push false = Array.replicate (l ++ [o]).toArray.size false := by
  rw [← Array.replicate_succ]
  simp
 rw [e1] at h3
 have e2 : l.length + 1 = (l ++ [o]).toArray.size := by simp
 rw [e2] at h3
 exact h3
theorem region_lastL {id : Nat} {Q : Exit → Act → World → Prop} {a : Act} {w : World} {ops : List Oper} (hne : ops ≠ []) (hm : P.follows .mixedOrders = true) (hE : edgesOn ops.dropLast = true) (hO : lastOn .any ops.dropLast.length (ops.getLast hne) = true) (hB : Region.lexB .any ops.dropLast.toArray = true)
  (h : wpQuiet P ops.dropLast.toArray (fun w' => ∃ i : Wb w, w' = i.val) (fun a' => ∀ w', (∃ i : Wb w, w' = i.val) → (ops.getLast hne).wp P a' w' (fun a w => Q .normal a w) Q) ops.dropLast a) : (Code.region id ops.toArray true).wp P Q a w := by
 have h1 := region_lastK (id := id) ops.dropLast (ops.getLast hne) hm hE hO hB h
 rwa [List.dropLast_concat_getLast hne] at h1
end Go.Proofs.YtlhajfepcggjaaaGreatDoor.KP

set_option linter.unusedVariables false
set_option linter.unusedSimpArgs false
namespace Go.Proofs.YtlhajfepcggjaaaGreatDoor.KP
open Go Go.RowKit Go.Proofs.YtlhajfepcggjaaaGreatDoorW.PrintWords Go.Proofs.YtlhajfepcggjaaaGreatDoorW.PrintLast Go.Proofs.YtlhajfepcggjaaaGreatDoorW.PrintMore

section
variable {w W : World} {base e size g n m cap : Nat} {xs ys : List Value} {v : Value}
theorem own_at (h : w.ownsRow base e size (.slice (some ⟨g, 0, none⟩) n cap) n xs) : ∃ cur, w.heap[g]? = some (.cells cur e (0, 0)) ∧ base ≤ g ∧ n ≤ cap ∧ cap ≤ maxLen ∧ cur.size = cap * size ∧ cur.toList.take (n * size) = xs ∧ xs.length = n * size := by
 rcases h.2 with ⟨h0, _⟩ | ⟨g', cap', cur, hv, hb, hg, hn, hc, hs, ht⟩
 ·cases h0
 ·injection hv with h1 _ h2
  injection h1 with h1
  injection h1 with h1
  subst h1
  subst h2
  exact ⟨cur, hg, hb, hn, hc, hs, ht, h.1⟩
theorem own_mk {cur : Array Value} (hg : w.heap[g]? = some (.cells cur e (0, 0))) (hb : base ≤ g) (hn : n ≤ cap) (hc : cap ≤ maxLen) (hs : cur.size = cap * size) (ht : cur.toList.take (n * size) = xs) (hx : xs.length = n * size) : w.ownsRow base e size (.slice (some ⟨g, 0, none⟩) n cap) n xs :=
 ⟨hx, .inr ⟨g, cap, cur, rfl, hb, hg, hn, hc, hs, ht⟩⟩
theorem own_len (h : w.ownsRow base e size v n xs) : xs.length = n * size := h.1
theorem own_slice (h : w.ownsRow base e size v n xs) : ∃ A c, v = .slice A n c := by
 rcases h.2 with ⟨h0, h1⟩ | ⟨g', cap', cur, hv, _⟩
 ·exact ⟨_, _, by rw [h0, h1]⟩
 ·exact ⟨_, _, hv⟩
theorem own_prefix (h : w.ownsRow base e size (.slice (some ⟨g, 0, none⟩) (n + m) cap) (n + m) (xs ++ ys)) (hx : xs.length = n * size) : w.ownsRow base e size (.slice (some ⟨g, 0, none⟩) n cap) n xs := by
 obtain ⟨cur, hg, hb, hn, hc, hs, ht, _⟩ := own_at h
 refine own_mk hg hb (by omega) hc hs ?_ hx
 have h1 : (cur.toList.take ((n + m) * size)).take (n * size) = (xs ++ ys).take (n * size) := by rw [ht]
 have h2 : (xs ++ ys).take (n * size) = xs := by rw [← hx]; exact List.take_left
 rw [List.take_take, Nat.min_eq_left (Nat.mul_le_mul_right _ (by omega))] at h1
 exact h1.trans h2
theorem own_cell (h : w.ownsRow base e size (.slice (some ⟨g, 0, none⟩) n cap) n xs) {i : Nat} (hi : i < n * size) : w.cell? ⟨g, i, none⟩ = xs[i]? := by
 obtain ⟨cur, hg, hb, hn, hc, hs, ht, hl⟩ := own_at h
 have hle : n * size ≤ cap * size := Nat.mul_le_mul_right _ hn
 rw [blk_cell hg, ← ht, List.getElem?_take, if_pos hi, Array.getElem?_toList]
theorem own_keep (h : w.ownsRow base e size v n xs) (hk : ∀ k, v.ownBlock = some k → W.heap[k]? = w.heap[k]?) : W.ownsRow base e size v n xs := by
 refine ⟨h.1, ?_⟩
 rcases h.2 with h0 | ⟨g', cap', cur, hv, hb, hg, hr⟩
 ·exact .inl h0
 ·exact .inr ⟨g', cap', cur, hv, hb, (hk g' (by rw [hv]; rfl)).trans hg, hr⟩
theorem own_below (h : w.ownsRow base e size v n xs) (hb : Below w.heap.size w W) : W.ownsRow base e size v n xs := by
 refine own_keep h fun k hk => ?_
 rcases h.2 with ⟨h0, _⟩ | ⟨g', cap', cur, hv, _, hg, _⟩
 ·rw [h0] at hk; cases hk
 ·rw [hv] at hk
  injection hk with hk
  rw [← hk]
  exact hb.block _ (blk_lt hg)
theorem own_lt (h : w.ownsRow base e size v n xs) : ∀ k, v.ownBlock = some k → base ≤ k ∧ k < w.heap.size := by
 intro k hk
 rcases h.2 with ⟨h0, _⟩ | ⟨g', cap', cur, hv, hb, hg, _⟩
 ·rw [h0] at hk; cases hk
 ·rw [hv] at hk
  injection hk with hk
  rw [← hk]
  exact ⟨hb, blk_lt hg⟩
theorem own_typed (h : w.ownsRow base e size v n xs) : ∀ k, v.ownBlock = some k → ∃ cur, w.heap[k]? = some (.cells cur e (0, 0)) := by
 intro k hk
 rcases h.2 with ⟨h0, _⟩ | ⟨g', cap', cur, hv, hb, hg, _⟩
 ·rw [h0] at hk; cases hk
 ·rw [hv] at hk
  injection hk with hk
  rw [← hk]
  exact ⟨cur, hg⟩
/-- A segment within the row is written. -/
theorem own_seg (h : w.ownsRow base e size (.slice (some ⟨g, 0, none⟩) n cap) n xs) {o : Nat} {seg : List Value} (ho : o + seg.length ≤ n * size) : (w.setCells g o seg).ownsRow base e size (.slice (some ⟨g, 0, none⟩) n cap) n (xs.take o ++ seg ++ xs.drop (o + seg.length)) := by
 obtain ⟨cur, hg, hb, hn, hc, hs, ht, hl⟩ := own_at h
 have hle : n * size ≤ cap * size := Nat.mul_le_mul_right _ hn
 obtain ⟨cur', h3, h4, h5⟩ := setCells_row (e := e) seg o w cur hg (by omega)
 refine own_mk h3 hb hn hc (by rw [h4, hs]) ?_ (by simp only [List.length_append, List.length_take, List.length_drop]; omega)
 rw [h5, ← ht]
 have hcl : cur.toList.length = cap * size := by rw [Array.length_toList, hs]
 apply List.ext_getElem?
 intro j
 simp only [List.getElem?_take, List.getElem?_append, List.getElem?_drop, List.length_append, List.length_take, hcl]
 have e1 : min o (cap * size) = o := by omega
 have e2 : min o (min (n * size) (cap * size)) = o := by omega
 simp only [e1, e2]
 by_cases hj : j < n * size
 ·by_cases h1 : j < o
  ·simp [h1, hj, show j < o + seg.length by omega]
  ·by_cases h2 : j < o + seg.length
   ·simp [h1, h2, hj]
   ·simp [h1, h2, hj, show o + seg.length + (j - (o + seg.length)) = j by omega]
 ·have h2 : ¬ j < o + seg.length := by omega
  simp [hj, h2, show ¬ o + seg.length + (j - (o + seg.length)) < n * size by omega]
end
/-- The law of a store into such a row, at the operation. -/
theorem wp_store_own {P : Program} {w : World} {base e size g n cap : Nat} {xs : List Value} {o : Oper} {a : Act} {K : Act → World → Prop} {Q : Exit → Act → World → Prop} (t : TypeId) (p x : Operand) (ho : o.op = .store t p x) {off : Nat} (u : Value) (seg : List Value)
  (haddr : a.eval p = .pointer (some ⟨g, off, none⟩)) (hx : a.eval x = u) (hu : u.cells.toList = seg) (ht : (P.info? t).map (·.size) = some seg.length) (h1 : ∀ q ∈ seg, q.oneCell' = true)
  (hown : w.ownsRow base e size (.slice (some ⟨g, 0, none⟩) n cap) n xs) (hoff : off + seg.length ≤ n * size) (h : K (a.put o.dst undef) (w.setCells g off seg)) : o.wp P a w K Q := by
 obtain ⟨cur, hg, hb, hn, hc, hs, _, _⟩ := own_at hown
 have hle : n * size ≤ cap * size := Nat.mul_le_mul_right _ hn
 have hrun : (Instr.storeAt t (.pointer (some ⟨g, off, none⟩)) u).run P w = .ok () (w.setCells g off seg) := run_store_run t u seg hg hu ht (by omega) h1
 unfold Oper.wp execOp
 simp only [ho, haddr, hx, Sem.run_bind, Sem.run_pure, Result.andThen_ok, hrun]
 exact h
end Go.Proofs.YtlhajfepcggjaaaGreatDoor.KP

set_option linter.unusedVariables false
set_option linter.unusedSimpArgs false
namespace Go.Proofs.YtlhajfepcggjaaaGreatDoor.KP
open Go Go.RowKit Go.Proofs.YtlhajfepcggjaaaGreatDoorW.PrintWords Go.Proofs.YtlhajfepcggjaaaGreatDoorW.PrintLast Go.Proofs.YtlhajfepcggjaaaGreatDoorW.PrintMore

def lenV : Value → Nat
 | .slice _ n _ => n
 | _ => 0
/-- The blocks of type t lie as they lay. -/
def Kp (t : Nat) (W W' : World) : Prop := ∀ (b : Nat) (cur : Array Value), W.heap[b]? = some (.cells cur t (0, 0)) → W'.heap[b]? = some (.cells cur t (0, 0))
theorem Kp.refl (t : Nat) (W : World) : Kp t W W := fun _ _ h => h
theorem Kp.trans {t : Nat} {A B C : World} (h : Kp t A B) (g : Kp t B C) : Kp t A C := fun b cur hb => g b cur (h b cur hb)
theorem Kp.below {t : Nat} {A B : World} (q : Below A.heap.size A B) : Kp t A B := fun b cur hb => (q.block b (blk_lt hb)).trans hb
theorem Kp.grown {t t' : Nat} {A B : World} {v : Value} (hg : A.grownBy B v.ownBlock) (hv : ∀ b, v.ownBlock = some b → ∃ cur, A.heap[b]? = some (.cells cur t' (0, 0))) (hne : t ≠ t') : Kp t A B := fun b cur hb =>
 (hg.block b (blk_lt hb) (fun e => by
  obtain ⟨c, hc⟩ := hv b e.symm
  exact blk_ne hb hc hne rfl)).trans hb
theorem Kp.seg {t t' : Nat} {A : World} {g o : Nat} {seg cur' : List Value} {c : Array Value} (hg : A.heap[g]? = some (.cells c t' (0, 0))) (hne : t ≠ t') : Kp t A (A.setCells g o seg) := fun b cur hb => (setCells_far seg o b (blk_ne hb hg hne)).trans hb
/-- A mark: its cells; what it leads to lies in blocks of type tI. -/
structure MarkM (MK : World → Nat → Nat → List Value → Prop) (sz tI : Nat) : Prop where
 len : ∀ {W k i cs}, MK W k i cs → cs.length = sz
 one : ∀ {W k i cs}, MK W k i cs → ∀ q ∈ cs, q.oneCell' = true
 keep : ∀ {W W' : World} {k i cs}, Kp tI W W' → MK W k i cs → MK W' k i cs
/-- A row's first n places are marked as row k's. -/
structure Cont (MK : World → Nat → Nat → List Value → Prop) (sz : Nat) (W : World) (k n : Nat) (xs : List Value) : Prop where
 len : xs.length = n * sz
 at_ : ∀ i, i < n → MK W k i ((xs.drop (i * sz)).take sz)
section
variable {MK : World → Nat → Nat → List Value → Prop} {sz tI : Nat}
theorem Cont.nil (W : World) (k : Nat) : Cont MK sz W k 0 [] := ⟨by simp, fun i h => absurd h (Nat.not_lt_zero _)⟩
theorem Cont.keep (hM : MarkM MK sz tI) {W W' : World} {k n : Nat} {xs : List Value} (h : Cont MK sz W k n xs) (q : Kp tI W W') : Cont MK sz W' k n xs := ⟨h.len, fun i hi => hM.keep q (h.at_ i hi)⟩
theorem Cont.snoc (hM : MarkM MK sz tI) {W : World} {k n : Nat} {xs seg : List Value} (h : Cont MK sz W k n xs) (hs : MK W k n seg) : Cont MK sz W k (n + 1) (xs ++ seg) := by
 have hl := h.len
 have hsl := hM.len hs
 refine ⟨by rw [List.length_append, hl, hsl, Nat.succ_mul], fun i hi => ?_⟩
 by_cases hin : i < n
 ·have hle : i * sz + sz ≤ n * sz := by rw [← Nat.succ_mul]; exact Nat.mul_le_mul_right _ hin
  have e : ((xs ++ seg).drop (i * sz)).take sz = (xs.drop (i * sz)).take sz := by
   rw [List.drop_append_of_le_length (by omega), List.take_append_of_le_length (by rw [List.length_drop]; omega)]
  rw [e]
  exact h.at_ i hin
 ·have hie : i = n := by omega
  subst hie
  have e : ((xs ++ seg).drop (i * sz)).take sz = seg := by
   rw [← hl, List.drop_left, ← hsl, List.take_length]
  rw [e]
  exact hs
theorem Cont.pre {W : World} {k n m : Nat} {xs : List Value} (h : Cont MK sz W k m xs) (hn : n ≤ m) : Cont MK sz W k n (xs.take (n * sz)) := by
 have hle : n * sz ≤ m * sz := Nat.mul_le_mul_right _ hn
 refine ⟨by rw [List.length_take, h.len, Nat.min_eq_left hle], fun i hi => ?_⟩
 have h2 : i * sz + sz ≤ n * sz := by rw [← Nat.succ_mul]; exact Nat.mul_le_mul_right _ hi
 have e : ((xs.take (n * sz)).drop (i * sz)).take sz = (xs.drop (i * sz)).take sz := by
  rw [List.drop_take, List.take_take, Nat.min_eq_left (by omega)]
 rw [e]
 exact h.at_ i (by omega)
theorem Cont.get {W : World} {k n i q : Nat} {xs : List Value} (h : Cont MK sz W k n xs) (hi : i < n) (hq : q < sz) : xs[i * sz + q]? = ((xs.drop (i * sz)).take sz)[q]? := by
 rw [List.getElem?_take, if_pos hq, List.getElem?_drop]
end
/-- Rows that lie apart. -/
def apart (vs : List Value) : Prop := ∀ (j k : Nat) (v u : Value), vs[j]? = some v → vs[k]? = some u → j ≠ k → ∀ b, v.ownBlock = some b → u.ownBlock ≠ some b
/-- Whatever lay and is none of the rows' blocks lies as it lay. -/
structure Rest (vs : List Value) (w W : World) : Prop where
 os : W.os = w.os
 tape : W.tape = w.tape
 output : W.output = w.output
 size : w.heap.size ≤ W.heap.size
 same : ∀ b, b < w.heap.size → (∀ v ∈ vs, v.ownBlock ≠ some b) → W.heap[b]? = w.heap[b]?
theorem Rest.refl (vs : List Value) (w : World) : Rest vs w w := ⟨rfl, rfl, rfl, Nat.le_refl _, fun _ _ _ => rfl⟩
theorem Rest.below {vs : List Value} {w A B : World} (h : Rest vs w A) (q : Below A.heap.size A B) : Rest vs w B :=
 ⟨q.os.trans h.os, q.tape.trans h.tape, q.output.trans h.output, Nat.le_trans h.size q.size, fun b hb hv => (q.block b (Nat.lt_of_lt_of_le hb h.size)).trans (h.same b hb hv)⟩
theorem Rest.seg {vs : List Value} {w A : World} (h : Rest vs w A) {v : Value} {g o : Nat} {seg : List Value} (hv : v ∈ vs) (hg : v.ownBlock = some g) : Rest vs w (A.setCells g o seg) := by
 obtain ⟨s1, s2, s3, s4⟩ := setCells_same g seg o A
 refine ⟨s1.trans h.os, s2.trans h.tape, s3.trans h.output, by rw [s4]; exact h.size, fun b hb hn => ?_⟩
 have hne : b ≠ g := by
  rintro rfl
  exact hn v hv hg
 exact (setCells_far seg o b hne).trans (h.same b hb hn)
theorem below_seg {A : World} {g o : Nat} {seg : List Value} {k : Nat} (hk : k ≠ g) : (A.setCells g o seg).heap[k]? = A.heap[k]? := setCells_far seg o k hk
/-- The rows, the first k of them marked, i places of row k too. -/
structure P1 (MK : World → Nat → Nat → List Value → Prop) (e sz : Nat) (vs : List Value) (k i : Nat) (W : World) : Prop where
 row : ∀ (j : Nat) (v : Value), vs[j]? = some v → ∃ xs, W.ownsRow 0 e sz v (lenV v) xs ∧ (j < k → Cont MK sz W j (lenV v) xs) ∧ (j = k → Cont MK sz W k i (xs.take (i * sz)))
section
variable {MK : World → Nat → Nat → List Value → Prop} {e sz tI : Nat} {vs : List Value} {k i : Nat} {A B W : World}
theorem P1.below (hM : MarkM MK sz tI) (h : P1 MK e sz vs k i A) (q : Below A.heap.size A B) : P1 MK e sz vs k i B :=
 ⟨fun j v hv => by
  obtain ⟨xs, h1, h2, h3⟩ := h.row j v hv
  exact ⟨xs, own_below h1 q, fun hj => (h2 hj).keep hM (Kp.below q), fun hj => (h3 hj).keep hM (Kp.below q)⟩⟩
theorem P1.start (h : ∀ (j : Nat) (v : Value), vs[j]? = some v → ∃ xs, W.ownsRow 0 e sz v (lenV v) xs) : P1 MK e sz vs 0 0 W :=
 ⟨fun j v hv => by
  obtain ⟨xs, h1⟩ := h j v hv
  exact ⟨xs, h1, fun h => absurd h (Nat.not_lt_zero _), fun _ => by rw [Nat.zero_mul, List.take_zero]; exact Cont.nil _ _⟩⟩
theorem P1.next {v : Value} (hv : vs[k]? = some v) (h : P1 MK e sz vs k (lenV v) W) : P1 MK e sz vs (k + 1) 0 W :=
 ⟨fun j u hu => by
  obtain ⟨xs, h1, h2, h3⟩ := h.row j u hu
  refine ⟨xs, h1, fun hj => ?_, fun _ => by rw [Nat.zero_mul, List.take_zero]; exact Cont.nil _ _⟩
  by_cases hjk : j = k
  ·subst hjk
   have e : u = v := Option.some.inj (hu.symm.trans hv)
   subst e
   have h4 := h3 rfl
   rwa [← own_len h1, List.take_length] at h4
  ·exact h2 (by omega)⟩
/-- One place more. -/
theorem P1.seg (hM : MarkM MK sz tI) (hne : tI ≠ e) (hap : apart vs) {g n c : Nat} {seg : List Value} (hv : vs[k]? = some (.slice (some ⟨g, 0, none⟩) n c)) (hi : i < n) (hs : MK W k i seg) (h : P1 MK e sz vs k i W) :
  P1 MK e sz vs k (i + 1) (W.setCells g (i * sz) seg) := by
 obtain ⟨xs0, h0, _⟩ := h.row k _ hv
 obtain ⟨c0, hc0⟩ := own_typed h0 g rfl
 have hq : Kp tI W (W.setCells g (i * sz) seg) := Kp.seg (seg := seg) (cur' := []) hc0 hne
 have hsl := hM.len hs
 refine ⟨fun j u hu => ?_⟩
 obtain ⟨xs, h1, h2, h3⟩ := h.row j u hu
 by_cases hjk : j = k
 ·subst hjk
  have e0 : u = .slice (some ⟨g, 0, none⟩) n c := Option.some.inj (hu.symm.trans hv)
  subst e0
  have hle : i * sz + sz ≤ n * sz := by rw [← Nat.succ_mul]; exact Nat.mul_le_mul_right _ hi
  have hl := own_len h1
  simp only [lenV] at h1 hl
  refine ⟨_, own_seg h1 (o := i * sz) (seg := seg) (by rw [hsl]; exact hle), fun h => absurd h (Nat.lt_irrefl _), fun _ => ?_⟩
  have e1 : (xs.take (i * sz) ++ seg ++ xs.drop (i * sz + seg.length)).take ((i + 1) * sz) = xs.take (i * sz) ++ seg := by
   have hll : (xs.take (i * sz) ++ seg).length = (i + 1) * sz := by
    rw [List.length_append, List.length_take, hl, hsl, Nat.succ_mul, Nat.min_eq_left (by omega)]
   rw [← hll, List.take_left]
  rw [e1]
  exact ((h3 rfl).keep hM hq).snoc hM (hM.keep hq hs)
 ·refine ⟨xs, own_keep h1 fun b hb => below_seg ?_, fun hj => (h2 hj).keep hM hq, fun h => absurd h hjk⟩
  rintro rfl
  exact hap j k u _ hu hv hjk b hb rfl
end
/-- A block of index j's rows. -/
def OwnB (vs us : List Value) (j b : Nat) : Prop := (∃ v, vs[j]? = some v ∧ v.ownBlock = some b) ∨ (∃ u, us[j]? = some u ∧ u.ownBlock = some b)
/-- What is told of the grown rows stays as long as the marks' blocks lie. -/
structure Stay (tI : Nat) (R : World → Nat → Nat → List Value → Prop) : Prop where
 out : ∀ {W W' : World} {j n xs}, Kp tI W W' → R W j n xs → R W' j n xs
/-- All rows marked; the grown ones of the first indexes hold what R tells. -/
structure P2 (MK : World → Nat → Nat → List Value → Prop) (R : World → Nat → Nat → List Value → Prop) (e sz : Nat) (vs us : List Value) (W : World) : Prop where
 row : ∀ (j : Nat) (v : Value), vs[j]? = some v → ∃ xs, W.ownsRow 0 e sz v (lenV v) xs ∧ Cont MK sz W j (lenV v) xs
 got : ∀ (j : Nat) (u v : Value), us[j]? = some u → vs[j]? = some v → ∃ xs, W.ownsRow 0 e sz u (lenV v + 64) xs ∧ R W j (lenV v) xs
 sep : ∀ j j' b, OwnB vs us j b → OwnB vs us j' b → j = j'
 len : us.length ≤ vs.length
section
variable {MK : World → Nat → Nat → List Value → Prop} {R R' : World → Nat → Nat → List Value → Prop} {e sz B tI : Nat} {vs us : List Value} {A W : World}
theorem P2.keep (hM : MarkM MK sz tI) (hR : Stay tI R) (h : P2 MK R e sz vs us A) (hk : ∀ j b, OwnB vs us j b → b < A.heap.size → W.heap[b]? = A.heap[b]?) (hq : Kp tI A W) : P2 MK R e sz vs us W :=
 ⟨fun j v hv => by
  obtain ⟨xs, h1, h2⟩ := h.row j v hv
  exact ⟨xs, own_keep h1 fun b hb => hk j b (.inl ⟨v, hv, hb⟩) (own_lt h1 b hb).2, h2.keep hM hq⟩,
  fun j u v hu hv => by
  obtain ⟨xs, h1, h2⟩ := h.got j u v hu hv
  exact ⟨xs, own_keep h1 fun b hb => hk j b (.inr ⟨u, hu, hb⟩) (own_lt h1 b hb).2, hR.out hq h2⟩, h.sep, h.len⟩
theorem P2.below (hM : MarkM MK sz tI) (hR : Stay tI R) (h : P2 MK R e sz vs us A) (q : Below A.heap.size A W) : P2 MK R e sz vs us W := h.keep hM hR (fun _ b _ hb => q.block b hb) (Kp.below q)
theorem P2.lt (h : P2 MK R e sz vs us A) {j b : Nat} (hb : OwnB vs us j b) : b < A.heap.size ∧ ∃ cur, A.heap[b]? = some (.cells cur e (0, 0)) := by
 rcases hb with ⟨v, hv, hb⟩ | ⟨u, hu, hb⟩
 ·obtain ⟨xs, hr, _⟩ := h.row j v hv
  exact ⟨(own_lt hr b hb).2, own_typed hr b hb⟩
 ·have hj : j < vs.length := Nat.lt_of_lt_of_le (List.getElem?_eq_some_iff.1 hu).1 h.len
  obtain ⟨xs, hr, _⟩ := h.got j u _ hu (List.getElem?_eq_getElem hj)
  exact ⟨(own_lt hr b hb).2, own_typed hr b hb⟩
/-- Forget the grown ones. -/
theorem P2.rows (h : P2 MK R e sz vs us W) : P2 MK R' e sz vs [] W := by
 refine ⟨h.row, fun j u v hu => by simp at hu, fun j j' b h1 h2 => ?_, Nat.zero_le _⟩
 rcases h1 with ⟨v, hv, hb⟩ | ⟨u, hu, _⟩
 ·rcases h2 with ⟨v', hv', hb'⟩ | ⟨u, hu, _⟩
  ·exact h.sep j j' b (.inl ⟨v, hv, hb⟩) (.inl ⟨v', hv', hb'⟩)
  ·simp at hu
 ·simp at hu
theorem P2.start (hap : apart vs) (h : P1 MK e sz vs vs.length 0 W) : P2 MK R e sz vs [] W := by
 refine ⟨fun j v hv => ?_, fun j u v hu => by simp at hu, fun j j' b h1 h2 => ?_, Nat.zero_le _⟩
 ·obtain ⟨xs, h1, h2, _⟩ := h.row j v hv
  exact ⟨xs, h1, h2 (List.getElem?_eq_some_iff.1 hv).1⟩
 ·rcases h1 with ⟨v, hv, hb⟩ | ⟨u, hu, _⟩
  ·rcases h2 with ⟨v', hv', hb'⟩ | ⟨u, hu, _⟩
   ·by_cases hjj : j = j'
    ·exact hjj
    ·exact absurd hb' (hap j j' v v' hv hv' hjj b hb)
   ·simp at hu
  ·simp at hu
theorem own_zero {w : World} {base e size n : Nat} {v : Value} {xs : List Value} (h : w.ownsRow base e size v n xs) : w.ownsRow 0 e size v n xs := by
 refine ⟨h.1, ?_⟩
 rcases h.2 with h0 | ⟨g, cap, cur, hv, _, hr⟩
 ·exact .inl h0
 ·exact .inr ⟨g, cap, cur, hv, Nat.zero_le _, hr⟩
/-- Index k's row has grown in place: what follows for all. -/
theorem P2.inplace (hM : MarkM MK sz tI) (hR : Stay tI R) {k n m g c : Nat} {xs : List Value} (hul : us.length ≤ k) (h : P2 MK R e sz vs us A) (hv : vs[k]? = some (.slice (some ⟨g, 0, none⟩) n c))
  (hW : W.ownsRow 0 e sz (.slice (some ⟨g, 0, none⟩) (n + m) c) (n + m) xs) (hc : Cont MK sz W k n (xs.take (n * sz))) (hg : A.grownBy W (some g)) (hq : Kp tI A W) : P2 MK R e sz vs us W := by
 have hok : OwnB vs us k g := .inl ⟨_, hv, rfl⟩
 refine ⟨fun j v hvj => ?_, fun j u v hu hvj => ?_, h.sep, h.len⟩
 ·by_cases hjk : j = k
  ·subst hjk
   obtain rfl : v = .slice (some ⟨g, 0, none⟩) n c := Option.some.inj (hvj.symm.trans hv)
   have hW2 := hW
   rw [← List.take_append_drop (n * sz) xs] at hW2
   exact ⟨_, own_prefix hW2 hc.len, hc⟩
  ·obtain ⟨ys, h1, h2⟩ := h.row j v hvj
   exact ⟨ys, own_keep h1 fun b hb => hg.block b (own_lt h1 b hb).2 (by
    intro e
    injection e with e
    subst e
    exact hjk (h.sep j k b (.inl ⟨v, hvj, hb⟩) hok)), h2.keep hM hq⟩
 ·have hj : j < us.length := (List.getElem?_eq_some_iff.1 hu).1
  obtain ⟨ys, h1, h2⟩ := h.got j u v hu hvj
  exact ⟨ys, own_keep h1 fun b hb => hg.block b (own_lt h1 b hb).2 (by
   intro e
   injection e with e
   subst e
   have := h.sep j k b (.inr ⟨u, hu, hb⟩) hok
   omega), hR.out hq h2⟩
/-- A grown row joins the list. -/
theorem P2.snoc {k n : Nat} {gv v : Value} {xs : List Value} (hul : us.length = k) (hv : vs[k]? = some v) (hn : lenV v = n) (h : P2 MK R e sz vs us W) (hg : W.ownsRow 0 e sz gv (n + 64) xs) (hR : R W k n xs)
  (hl : (∃ m, gv.ownBlock = some m ∧ v.ownBlock = some m) ∨ (∃ b, gv.ownBlock = some b ∧ ∀ j, ¬ OwnB vs us j b)) : P2 MK R e sz vs (us ++ [gv]) W := by
 have hk : k < vs.length := (List.getElem?_eq_some_iff.1 hv).1
 have hat : ∀ j u, (us ++ [gv])[j]? = some u → us[j]? = some u ∨ (j = k ∧ u = gv) := by
  intro j u hu
  rcases Nat.lt_or_ge j us.length with hj | hj
  ·rw [List.getElem?_append_left hj] at hu
   exact .inl hu
  ·rw [List.getElem?_append_right hj] at hu
   have h0 : j - us.length = 0 := by
    have := (List.getElem?_eq_some_iff.1 hu).1
    simp at this
    omega
   rw [h0] at hu
   exact .inr ⟨by omega, (Option.some.inj hu).symm⟩
 have hown : ∀ j b, OwnB vs (us ++ [gv]) j b → OwnB vs us j b ∨ (j = k ∧ gv.ownBlock = some b) := by
  intro j b hb
  rcases hb with hb | ⟨u, hu, hb⟩
  ·exact .inl (.inl hb)
  ·rcases hat j u hu with h1 | ⟨h1, h2⟩
   ·exact .inl (.inr ⟨u, h1, hb⟩)
   ·exact .inr ⟨h1, by rw [← h2]; exact hb⟩
 have hgb : ∀ j b, OwnB vs us j b → gv.ownBlock = some b → j = k := by
  intro j b hb hgo
  rcases hl with ⟨m, h1, h2⟩ | ⟨b', hb', hf⟩
  ·rw [h1] at hgo
   injection hgo with hgo
   subst hgo
   exact h.sep j k m hb (.inl ⟨v, hv, h2⟩)
  ·rw [hb'] at hgo
   injection hgo with hgo
   subst hgo
   exact absurd hb (hf j)
 refine ⟨h.row, fun j u v' hu hv' => ?_, fun j j' b h1 h2 => ?_, by simp; omega⟩
 ·rcases hat j u hu with h1 | ⟨rfl, rfl⟩
  ·exact h.got j u v' h1 hv'
  ·obtain rfl : v' = v := Option.some.inj (hv'.symm.trans hv)
   rw [hn]
   exact ⟨xs, hg, hR⟩
 ·rcases hown j b h1 with h1 | ⟨rfl, h1⟩
  ·rcases hown j' b h2 with h2 | ⟨rfl, h2⟩
   ·exact h.sep j j' b h1 h2
   ·exact hgb j b h1 h2
  ·rcases hown j' b h2 with h2 | ⟨rfl, h2⟩
   ·exact (hgb j' b h2 h1).symm
   ·rfl
end
/-- While a row grows: index k's, or one that is made now. -/
structure PG (MK : World → Nat → Nat → List Value → Prop) (R : World → Nat → Nat → List Value → Prop) (e sz B : Nat) (vs us : List Value) (k n i : Nat) (gv : Value) (W : World) : Prop where
 p : P2 MK R e sz vs us W
 g : ∃ xs, W.ownsRow 0 e sz gv (n + i) xs ∧ Cont MK sz W k (n + i) xs
 lies : (∃ A c, vs[k]? = some (.slice A n c) ∧ gv = .slice A (n + i) c) ∨ (∃ b, gv.ownBlock = some b ∧ B ≤ b ∧ ∀ j, ¬ OwnB vs us j b) ∨ gv = .slice none 0 0
section
variable {MK : World → Nat → Nat → List Value → Prop} {R : World → Nat → Nat → List Value → Prop} {e sz B tI : Nat} {vs us : List Value} {k n i : Nat} {gv : Value} {A W : World}
theorem PG.below (hM : MarkM MK sz tI) (hR : Stay tI R) (h : PG MK R e sz B vs us k n i gv A) (q : Below A.heap.size A W) : PG MK R e sz B vs us k n i gv W := by
 obtain ⟨xs, h1, h2⟩ := h.g
 exact ⟨h.p.below hM hR q, ⟨xs, own_below h1 q, h2.keep hM (Kp.below q)⟩, h.lies⟩
theorem PG.start {c : Nat} {Ad : Option Addr} (hv : vs[k]? = some (.slice Ad n c)) (h : P2 MK R e sz vs us W) : PG MK R e sz B vs us k n 0 (.slice Ad n c) W :=
 ⟨h, h.row k _ hv, .inl ⟨Ad, c, hv, rfl⟩⟩
theorem PG.nil (h : P2 MK R e sz vs us W) : PG MK R e sz B vs us k 0 0 (.slice none 0 0) W := ⟨h, ⟨[], World.ownsRow_nil W 0 e sz, Cont.nil _ _⟩, .inr (.inr rfl)⟩
theorem PG.fits (hM : MarkM MK sz tI) (hR : Stay tI R) {g c : Nat} {xs seg : List Value} (hul : us.length ≤ k) (h : PG MK R e sz B vs us k n i (.slice (some ⟨g, 0, none⟩) (n + i) c) A) (hc : Cont MK sz W k (n + i) xs) (hs : MK W k (n + i) seg) (hq : Kp tI A W)
  (hW : W.ownsRow 0 e sz (.slice (some ⟨g, 0, none⟩) (n + i + 1) c) (n + i + 1) (xs ++ seg)) (hg : A.grownBy W (some g)) : PG MK R e sz B vs us k n (i + 1) (.slice (some ⟨g, 0, none⟩) (n + i + 1) c) W := by
 have hcs := hc.snoc hM hs
 rcases h.lies with ⟨A', c', hv, he⟩ | ⟨b, hb, hB, hf⟩ | h0
 ·injection he with e1 _ e3
  subst e1
  subst e3
  have hpre : Cont MK sz W k n ((xs ++ seg).take (n * sz)) := hcs.pre (by omega)
  exact ⟨h.p.inplace (m := i + 1) hM hR hul hv hW hpre hg hq, ⟨_, hW, hcs⟩, .inl ⟨_, _, hv, rfl⟩⟩
 ·injection hb with hb
  have hb2 : g = b := hb
  subst hb2
  refine ⟨h.p.keep hM hR (fun j b hj hlt => hg.block b hlt (by
   intro e
   injection e with e
   subst e
   exact hf j hj)) hq, ⟨_, hW, hcs⟩, .inr (.inl ⟨g, rfl, hB, hf⟩)⟩
 ·injection h0 with h0 _ _
  cases h0
theorem PG.grows (hM : MarkM MK sz tI) (hR : Stay tI R) {v' : Value} {xs seg : List Value} (hB : B ≤ A.heap.size) (h : PG MK R e sz B vs us k n i gv A) (hc : Cont MK sz W k (n + i) xs) (hs : MK W k (n + i) seg) (hq : Kp tI A W)
  (hW : W.ownsRow A.heap.size e sz v' (n + i + 1) (xs ++ seg)) (hg : A.grownBy W none) : PG MK R e sz B vs us k n (i + 1) v' W := by
 have hcs := hc.snoc hM hs
 obtain ⟨g, cap, rfl, hge, _⟩ := hW.form (by omega)
 refine ⟨h.p.keep hM hR (fun j b hj hlt => hg.block b hlt (by simp)) hq, ⟨_, own_zero hW, hcs⟩, .inr (.inl ⟨g, rfl, by omega, fun j hj => ?_⟩)⟩
 have := (h.p.lt hj).1
 omega
/-- The grown row joins the list. -/
theorem PG.done {v : Value} (hul : us.length = k) (hv : vs[k]? = some v) (hn : lenV v = n) (h : PG MK R e sz B vs us k n 64 gv W) (hR : ∀ xs, Cont MK sz W k (n + 64) xs → R W k n xs) : P2 MK R e sz vs (us ++ [gv]) W := by
 obtain ⟨xs, h1, h2⟩ := h.g
 refine h.p.snoc hul hv hn h1 (hR xs h2) ?_
 obtain ⟨g, cap, rfl, _, _⟩ := h1.form (by omega)
 rcases h.lies with ⟨A, c, hvk, he⟩ | ⟨b, hb, _, hf⟩ | h0
 ·injection he with e1 _ _
  subst e1
  obtain rfl : v = .slice (some ⟨g, 0, none⟩) n c := Option.some.inj (hv.symm.trans hvk)
  exact .inl ⟨g, rfl, rfl⟩
 ·exact .inr ⟨b, hb, hf⟩
 ·injection h0 with h0 _ _
  cases h0
end
end Go.Proofs.YtlhajfepcggjaaaGreatDoor.KP

set_option linter.unusedVariables false
set_option linter.unusedSimpArgs false
namespace Go.Proofs.YtlhajfepcggjaaaGreatDoor.KP
open Go Go.RowKit Go.Proofs.YtlhajfepcggjaaaGreatDoorW.PrintWords Go.Proofs.YtlhajfepcggjaaaGreatDoorW.PrintLast Go.Proofs.YtlhajfepcggjaaaGreatDoorW.PrintMore

theorem grown_alloc {w w' : World} {o : Obj} {r : Option Nat} (h : (w.alloc o).grownBy w' r) : w.grownBy w' r :=
 ⟨h.os, h.tape, h.output, by have := h.size; rw [World.size_alloc] at this; omega, fun k hk hr => (h.block k (by rw [World.size_alloc]; omega) hr).trans (Below.heap_alloc w o k hk)⟩
theorem alloc_below (w : World) (o : Obj) : Below w.heap.size w (w.alloc o) := (Below.refl _ w).alloc (Nat.le_refl _) o
theorem news_cell {w : World} {cs : List Value} {e : TypeId} : ∀ (j : Nat) (u : Value), cs[j]? = some u → (w.alloc (.cells cs.toArray e)).cell? ((⟨w.heap.size, 0, none⟩ : Addr).add j) = some u :=
 fun j u hu => World.news_of_block (blk_new w (.cells cs.toArray e (0, 0))) j u (by simpa using hu)
theorem Rest.grown {MK : World → Nat → Nat → List Value → Prop} {R : World → Nat → Nat → List Value → Prop} {e sz : Nat} {vs us : List Value} {k n i : Nat} {gV : Value} {w0 A W : World} (h : Rest vs w0 A) (hP : PG MK R e sz w0.heap.size vs us k n i gV A) (hg : A.grownBy W gV.ownBlock) : Rest vs w0 W := by
 refine ⟨hg.os.trans h.os, hg.tape.trans h.tape, hg.output.trans h.output, Nat.le_trans h.size hg.size, fun b hb hn => ?_⟩
 refine (hg.block b (Nat.lt_of_lt_of_le hb h.size) fun e => ?_).trans (h.same b hb hn)
 rcases hP.lies with ⟨A', c, hv, he⟩ | ⟨b', hb', hB, _⟩ | h0
 ·refine hn _ (List.mem_of_getElem? hv) ?_
  rw [he] at e
  cases A' with
  | none => cases e
  | some a => exact e.symm
 ·rw [hb'] at e
  injection e with e
  omega
 ·rw [h0] at e
  cases e
theorem Rest.val {vs us : List Value} {e sz n : Nat} {gsV : Value} {w0 A W : World} (h : Rest vs w0 A) (hown : A.ownsRow w0.heap.size e sz gsV n us) (hg : A.grownBy W gsV.ownBlock) : Rest vs w0 W :=
 ⟨hg.os.trans h.os, hg.tape.trans h.tape, hg.output.trans h.output, Nat.le_trans h.size hg.size, fun b hb hn => (hg.block b (Nat.lt_of_lt_of_le hb h.size) fun e => by
  have := (own_lt hown b e.symm).1
  omega).trans (h.same b hb hn)⟩
theorem Rest.vrow {vs : List Value} {v : Value} {w0 A W : World} (h : Rest vs w0 A) (hv : v ∈ vs) (hg : A.grownBy W v.ownBlock) : Rest vs w0 W :=
 ⟨hg.os.trans h.os, hg.tape.trans h.tape, hg.output.trans h.output, Nat.le_trans h.size hg.size, fun b hb hn => (hg.block b (Nat.lt_of_lt_of_le hb h.size) fun e => hn v hv e.symm).trans (h.same b hb hn)⟩
theorem Rest.far {vs : List Value} {w0 A : World} (h : Rest vs w0 A) {g o : Nat} {seg : List Value} (hg : w0.heap.size ≤ g) : Rest vs w0 (A.setCells g o seg) := by
 obtain ⟨s1, s2, s3, s4⟩ := setCells_same g seg o A
 exact ⟨s1.trans h.os, s2.trans h.tape, s3.trans h.output, by rw [s4]; exact h.size, fun b hb hn => (setCells_far seg o b (by omega)).trans (h.same b hb hn)⟩
theorem P2.val {MK : World → Nat → Nat → List Value → Prop} {R : World → Nat → Nat → List Value → Prop} {e sz e2 sz2 n base tI : Nat} {vs us xs : List Value} {gsV : Value} {A W : World} (hM : MarkM MK sz tI) (hR : Stay tI R) (hne : e ≠ e2) (hnt : tI ≠ e2) (h : P2 MK R e sz vs us A) (hown : A.ownsRow base e2 sz2 gsV n xs) (hg : A.grownBy W gsV.ownBlock) : P2 MK R e sz vs us W :=
 h.keep hM hR (fun j b hb hlt => hg.block b hlt fun q => by
  obtain ⟨c1, h1⟩ := (h.lt hb).2
  obtain ⟨c2, h2⟩ := own_typed hown b q.symm
  exact blk_ne h1 h2 hne rfl) (Kp.grown hg (own_typed hown) hnt)
/-- A marked row's cell. -/
theorem own_cont {MK : World → Nat → Nat → List Value → Prop} {e sz : Nat} {w W : World} {g n m c k i q : Nat} {xs : List Value} (h : w.ownsRow 0 e sz (.slice (some ⟨g, 0, none⟩) n c) m xs) (hc : Cont MK sz W k m xs) (hnm : n = m) (hi : i < n) (hq : q < sz) : w.cell? ⟨g, i * sz + q, none⟩ = ((xs.drop (i * sz)).take sz)[q]? := by
 subst hnm
 have h1 : i * sz + sz ≤ n * sz := by rw [← Nat.succ_mul]; exact Nat.mul_le_mul_right _ hi
 rw [own_cell h (by omega), hc.get hi hq]
theorem Cont.one {MK : World → Nat → Nat → List Value → Prop} {sz tI : Nat} (hM : MarkM MK sz tI) (hs0 : 0 < sz) {W : World} {k n : Nat} {xs : List Value} (h : Cont MK sz W k n xs) : ∀ q ∈ xs, q.oneCell' = true := by
 intro q hq
 obtain ⟨j, hj⟩ := List.mem_iff_getElem?.1 hq
 have hjl : j < n * sz := by rw [← h.len]; exact (List.getElem?_eq_some_iff.1 hj).1
 have hd : j / sz < n := (Nat.div_lt_iff_lt_mul hs0).2 hjl
 have hmod : j % sz < sz := Nat.mod_lt _ hs0
 have he : j / sz * sz + j % sz = j := by rw [Nat.mul_comm]; exact Nat.div_add_mod j sz
 have h2 := h.get (q := j % sz) hd hmod
 rw [he, hj] at h2
 exact hM.one (h.at_ _ hd) q (List.mem_of_getElem? h2.symm)
/-- A region of calls that lets whatever lay lie. -/
theorem region_clsK {P : Program} {id : Nat} {Q : Exit → Act → World → Prop} {a : Act} {w : World} {l : List Oper} (hm : P.follows .mixedOrders = true) (hB : Region.lexB .any l.toArray = true)
  (h : wpQuiet P l.toArray (fun w' => ∃ i : Wb w, w' = i.val) (fun a' => ∀ w', (∃ i : Wb w, w' = i.val) → Q .normal a' w') l a) : (Code.region id l.toArray true).wp P Q a w :=
 wp_region_quiet (C := fun w' => ∃ i : Wb w, w' = i.val) hm hB ⟨⟨{ w with drawn := w.drawn + 1 }, ⟨rfl, rfl, rfl, Nat.le_refl _, fun _ _ => rfl⟩⟩, rfl⟩ (by simpa using h)
section
variable {P : Program} {ops : Array Oper} {rest : List Oper} {o : Oper} {a : Act} {Q : Exit → Act → World → Prop}
theorem wp_append_new {K : Act → World → Prop} (w : World) (s x : Operand) (t : TypeId) (ho : o.op = .call { callee := .builtin .append, args := #[s, x], argTypes := #[t, t] }) (e : TypeId) (ti : TypeInfo) (z : Value) (sz bytes : Nat)
  (ht : P.underlying t = some (.slice e)) (hti : P.info? e = some ti) (q1 : ti.zero = some z) (q2 : ti.size = sz) (q3 : ti.bytes = bytes) (hz : z.cells.size = sz) (hs0 : 0 < sz) (ao : Option Addr) (n cap : Nat) (olds : List Value) (hs : a.eval s = .slice ao n cap) (hnone : ao = none → n = 0 ∧ cap = 0) (hlo : olds.length = n * sz)
  (holds : ∀ b, ao = some b → ∀ j u, olds[j]? = some u → w.cell? (b.add j) = some u) (ad : Addr) (m c : Nat) (news : List Value) (hx : a.eval x = .slice (some ad) m c) (hn : news.length = m * sz) (hc : ∀ j u, news[j]? = some u → w.cell? (ad.add j) = some u) (h1 : ∀ u ∈ news, u.oneCell' = true)
  (hfull : cap < n + m) (b1 : n + m ≤ maxLen) (b2 : (n + m) * bytes ≤ 140737488355328) (h : ∀ v' w', w'.ownsRow w.heap.size e sz v' (n + m) (olds ++ news) → w.grownBy w' none → K (a.put o.dst v') w') : o.wp P a w K Q := by
 have key : ∃ v' w', (Builtin.append_ #[t, t] o.type #[.slice ao n cap, .slice (some ad) m c]).run P w = .ok v' w' ∧ w'.ownsRow w.heap.size e sz v' (n + m) (olds ++ news) ∧ w.grownBy w' none := by
  cases hao : ao with
  | some b => exact run_append_arg_grows w t o.type e ti z sz bytes ht hti q1 q2 q3 hz hs0 b n cap olds hlo (holds b hao) ad m c news hn hc hfull b1 b2
  | none =>
   obtain ⟨e1, e2⟩ := hnone hao
   subst e1 e2
   have e3 : olds = [] := List.eq_nil_of_length_eq_zero (by simpa using hlo)
   subst e3
   obtain ⟨v', w', r0, r1, r2, _⟩ := run_append_own w w.heap.size t o.type e ti z sz bytes ht hti q1 q2 q3 hz hs0 (.slice none 0 0) 0 [] (World.ownsRow_nil w _ e sz) ad m c news hn hc h1 b1 b2 (Nat.le_refl _)
   exact ⟨v', w', r0, r1, r2⟩
 obtain ⟨v', w', r0, r1, r2⟩ := key
 unfold Oper.wp
 simp only [execOp, ho, resolve, invoke, builtin, Sem.run_bind, Sem.run_pure, Result.andThen_ok, List.map_toArray, List.map_cons, List.map_nil, hs, hx, r0]
 exact h v' w' r1 r2
theorem wp_append_PG {MK : World → Nat → Nat → List Value → Prop} {R : World → Nat → Nat → List Value → Prop} {e sz bytes B tI : Nat} {z : Value} {K : Act → World → Prop} (hM : MarkM MK sz tI) (hR : Stay tI R) (hne : tI ≠ e) (s x : Operand) (t : TypeId)
  (ho : o.op = .call { callee := .builtin .append, args := #[s, x], argTypes := #[t, t] }) (ht : P.underlying t = some (.slice e)) (hinfo : (P.info? e).map (fun i => (i.zero, i.size, i.bytes)) = some (some z, sz, bytes)) (hz : z.cells.size = sz) (hs0 : 0 < sz)
  {vs us seg : List Value} {k n i m : Nat} {gV : Value} {w : World} (hm : m = n + i) (hul : us.length ≤ k) (hs : a.eval s = gV) (hx : a.eval x = .slice (some ⟨w.heap.size, 0, none⟩) 1 1) (hseg : MK w k m seg)
  (hP : PG MK R e sz B vs us k n i gV w) (hB : B ≤ w.heap.size) (hl : n + i + 1 ≤ maxLen) (hby : (n + i + 1) * bytes ≤ 140737488355328)
  (h : ∀ gV' w', PG MK R e sz B vs us k n (i + 1) gV' w' → w.grownBy w' gV.ownBlock → K (a.put o.dst gV') w') : o.wp P a (w.alloc (.cells seg.toArray e)) K Q := by
 subst hm
 obtain ⟨ti, hti, hq⟩ := Option.map_eq_some_iff.1 hinfo
 simp only [Prod.mk.injEq] at hq
 obtain ⟨q1, q2, q3⟩ := hq
 obtain ⟨xs, hown0, hcont⟩ := hP.g
 obtain ⟨Ag, cg, eg⟩ := own_slice hown0
 subst eg
 have h1 := hM.one hseg
 have hsl := hM.len hseg
 have hb0 := alloc_below w (.cells seg.toArray e)
 have hPa := hP.below hM hR hb0
 have hown := own_below hown0 hb0
 have hca := hcont.keep hM (Kp.below hb0)
 have hsa := hM.keep (Kp.below hb0) hseg
 by_cases hroom : n + i + 1 ≤ cg
 ·obtain ⟨g, eA⟩ : ∃ g, Ag = some ⟨g, 0, none⟩ := by
   rcases hown0.2 with ⟨h0, _⟩ | ⟨g, cap, cur, hv, _⟩
   ·injection h0 with _ _ h0
    omega
   ·injection hv with hv _ _
    exact ⟨g, hv⟩
  subst eA
  refine wp_append_own_spare _ s x t ho 0 e ti sz ht hti q2 g (n + i) cg _ hs hown ⟨w.heap.size, 0, none⟩ 1 1 seg hx (by rw [hsl, Nat.one_mul]) news_cell h1 hroom ?_
  intro w' ho' hg'
  have hkp : Kp tI (w.alloc (.cells seg.toArray e)) w' := Kp.grown (v := .slice (some ⟨g, 0, none⟩) (n + i) cg) hg' (own_typed hown) hne
  exact h _ w' (hPa.fits hM hR hul (hca.keep hM hkp) (hM.keep hkp hsa) hkp ho' hg') (grown_alloc hg')
 ·have hnone : Ag = none → n + i = 0 ∧ cg = 0 := fun hA => by
   subst hA
   rcases hown0.2 with ⟨h0, _⟩ | ⟨g, cap, cur, hv, _⟩
   ·injection h0 with _ h1 h2
    exact ⟨h1, h2⟩
   ·cases hv
  refine wp_append_new _ s x t ho e ti z sz bytes ht hti q1 q2 q3 hz hs0 Ag (n + i) cg xs hs hnone hcont.len ?_ ⟨w.heap.size, 0, none⟩ 1 1 seg hx (by rw [hsl, Nat.one_mul]) news_cell h1 (by omega) hl hby ?_
  ·intro b hb j u hu
   rcases hown.2 with ⟨h0, _⟩ | ⟨g, cap, cur, hv, _⟩
   ·injection h0 with h0 _ _
    rw [h0] at hb
    cases hb
   ·injection hv with hv _ _
    subst hv
    injection hb with hb
    subst hb
    have hj : j < (n + i) * sz := by
     have := (List.getElem?_eq_some_iff.1 hu).1
     rwa [hcont.len] at this
    have hc := own_cell hown hj
    rw [hu] at hc
    have ea : (Addr.add ⟨g, 0, none⟩ j) = ⟨g, j, none⟩ := by
     simp only [Addr.add, Nat.zero_add]
     split
     ·rename_i h0; rw [h0]
     ·rfl
    rw [ea]
    exact hc
  ·intro v' w' ho' hg'
   have hkp : Kp tI (w.alloc (.cells seg.toArray e)) w' := fun b cur hb => (hg'.block b (blk_lt hb) (by simp)).trans hb
   exact h v' w' (hPa.grows hM hR (by rw [World.size_alloc]; omega) (hca.keep hM hkp) (hM.keep hkp hsa) hkp ho' hg') (grown_alloc ⟨hg'.os, hg'.tape, hg'.output, hg'.size, fun k hk _ => hg'.block k hk (by simp)⟩)
theorem wpList_append_PG {MK : World → Nat → Nat → List Value → Prop} {R : World → Nat → Nat → List Value → Prop} {e sz bytes B tI : Nat} {z : Value} (hM : MarkM MK sz tI) (hR : Stay tI R) (hne : tI ≠ e) (hgd : o.guard = none) (s x : Operand) (t : TypeId)
  (ho : o.op = .call { callee := .builtin .append, args := #[s, x], argTypes := #[t, t] }) (ht : P.underlying t = some (.slice e)) (hinfo : (P.info? e).map (fun i => (i.zero, i.size, i.bytes)) = some (some z, sz, bytes)) (hz : z.cells.size = sz) (hs0 : 0 < sz)
  {vs us seg : List Value} {k n i m : Nat} {gV : Value} {w : World} (hm : m = n + i) (hul : us.length ≤ k) (hs : a.eval s = gV) (hx : a.eval x = .slice (some ⟨w.heap.size, 0, none⟩) 1 1) (hseg : MK w k m seg)
  (hP : PG MK R e sz B vs us k n i gV w) (hB : B ≤ w.heap.size) (hl : n + i + 1 ≤ maxLen) (hby : (n + i + 1) * bytes ≤ 140737488355328)
  (h : ∀ gV' w', PG MK R e sz B vs us k n (i + 1) gV' w' → w.grownBy w' gV.ownBlock → wpList P ops Q rest (a.put o.dst gV') w') : wpList P ops Q (o :: rest) a (w.alloc (.cells seg.toArray e)) :=
 wpList_plain hgd fun _ hK => wp_append_PG hM hR hne s x t ho ht hinfo hz hs0 hm hul hs hx hseg hP hB hl hby fun gV' w' h2 h3 => hK _ _ (h gV' w' h2 h3)
theorem own_news {w : World} {base e size g n c : Nat} {xs : List Value} (h : w.ownsRow base e size (.slice (some ⟨g, 0, none⟩) n c) n xs) : ∀ (j : Nat) (u : Value), xs[j]? = some u → w.cell? ((⟨g, 0, none⟩ : Addr).add j) = some u := by
 intro j u hu
 have hj : j < n * size := by
  have := (List.getElem?_eq_some_iff.1 hu).1
  rwa [own_len h] at this
 have hc := own_cell h hj
 rw [hu] at hc
 have ea : (Addr.add ⟨g, 0, none⟩ j) = ⟨g, j, none⟩ := by
  simp only [Addr.add, Nat.zero_add]
  split
  ·rename_i h0; rw [h0]
  ·rfl
 rw [ea]
 exact hc
/-- 64 elements appended to index k's row. -/
theorem wpList_append_many {MK : World → Nat → Nat → List Value → Prop} {R : World → Nat → Nat → List Value → Prop} {e sz bytes tI : Nat} {z : Value} (hM : MarkM MK sz tI) (hR : Stay tI R) (hne : tI ≠ e) (hgd : o.guard = none) (s x : Operand) (t : TypeId)
  (ho : o.op = .call { callee := .builtin .append, args := #[s, x], argTypes := #[t, t] }) (ht : P.underlying t = some (.slice e)) (hinfo : (P.info? e).map (fun i => (i.zero, i.size, i.bytes)) = some (some z, sz, bytes)) (hz : z.cells.size = sz) (hs0 : 0 < sz)
  {vs us ms : List Value} {k n c gm cm : Nat} {Av : Option Addr} {w : World} (hul : us.length = k) (hv : vs[k]? = some (.slice Av n c)) (hs : a.eval s = .slice Av n c) (hx : a.eval x = .slice (some ⟨gm, 0, none⟩) 64 cm)
  (hm : w.ownsRow 0 e sz (.slice (some ⟨gm, 0, none⟩) 64 cm) 64 ms) (h1 : ∀ q ∈ ms, q.oneCell' = true) (hP : P2 MK R e sz vs us w) (hRk : ∀ W ys, Cont MK sz W k n ys → R W k n (ys ++ ms)) (hl : n + 64 ≤ maxLen) (hby : (n + 64) * bytes ≤ 140737488355328)
  (h : ∀ gV' w', P2 MK R e sz vs (us ++ [gV']) w' → w.grownBy w' (Value.slice Av n c).ownBlock → gV'.oneCell' = true → wpList P ops Q rest (a.put o.dst gV') w') : wpList P ops Q (o :: rest) a w := by
 obtain ⟨ti, hti, hq⟩ := Option.map_eq_some_iff.1 hinfo
 simp only [Prod.mk.injEq] at hq
 obtain ⟨q1, q2, q3⟩ := hq
 obtain ⟨ys, hrow, hys⟩ := hP.row k _ hv
 have hrow2 : w.ownsRow 0 e sz (.slice Av n c) n ys := hrow
 have hys2 : Cont MK sz w k n ys := hys
 by_cases hroom : n + 64 ≤ c
 ·obtain ⟨g, eA⟩ : ∃ g, Av = some ⟨g, 0, none⟩ := by
   rcases hrow2.2 with ⟨h0, _⟩ | ⟨g, cap, cur, hv, _⟩
   ·injection h0 with _ _ h0
    omega
   ·injection hv with hv _ _
    exact ⟨g, hv⟩
  subst eA
  refine wpList_append_own_spare _ hgd s x t ho 0 e ti sz ht hti q2 g n c _ hs hrow2 ⟨gm, 0, none⟩ 64 cm ms hx (own_len hm) (own_news hm) h1 hroom ?_
  intro w' ho' hg'
  have hkp : Kp tI w w' := Kp.grown (v := .slice (some ⟨g, 0, none⟩) n c) hg' (own_typed hrow2) hne
  have hy' := hys2.keep hM hkp
  have htk : (ys ++ ms).take (n * sz) = ys := by rw [← hys2.len]; exact List.take_left
  exact h _ w' ((hP.inplace hM hR (Nat.le_of_eq hul) hv ho' (by rw [htk]; exact hy') hg' hkp).snoc hul hv rfl ho' (hRk w' ys hy') (.inl ⟨g, rfl, rfl⟩)) hg' rfl
 ·have hnone : Av = none → n = 0 ∧ c = 0 := fun hA => by
   subst hA
   rcases hrow2.2 with ⟨h0, _⟩ | ⟨g, cap, cur, hv, _⟩
   ·injection h0 with _ h1 h2
    exact ⟨h1, h2⟩
   ·cases hv
  refine wpList_append_grows _ hgd s x t ho e ti z sz bytes ht hti q1 q2 q3 hz hs0 Av n c ys hs hnone hys2.len ?_ ⟨gm, 0, none⟩ 64 cm ms hx (own_len hm) (own_news hm) h1 (by omega) hl hby ?_
  ·intro b hb j u hu
   rcases hrow2.2 with ⟨h0, _⟩ | ⟨g, cap, cur, hv, _⟩
   ·injection h0 with h0 _ _
    rw [h0] at hb
    cases hb
   ·injection hv with hv _ _
    subst hv
    injection hb with hb
    subst hb
    exact own_news hrow2 j u hu
  ·intro v' w' ho' hg'
   obtain ⟨g, cap, rfl, hge, _⟩ := ho'.form (by omega)
   have hkp : Kp tI w w' := fun b cur hb => (hg'.block b (blk_lt hb) (by simp)).trans hb
   have hk2 : P2 MK R e sz vs us w' := hP.keep hM hR (fun j b hj hlt => hg'.block b hlt (by simp)) hkp
   refine h _ w' (hk2.snoc hul hv rfl (own_zero ho') (hRk w' ys (hys2.keep hM hkp)) (.inr ⟨g, rfl, fun j hj => ?_⟩)) ⟨hg'.os, hg'.tape, hg'.output, hg'.size, fun k hk _ => hg'.block k hk (by simp)⟩ rfl
   have := (hP.lt hj).1
   omega
/-- A value appended to a list of values. -/
theorem wpList_append_val {e bytes base : Nat} {z : Value} (hgd : o.guard = none) (s x : Operand) (t : TypeId)
  (ho : o.op = .call { callee := .builtin .append, args := #[s, x], argTypes := #[t, t] }) (ht : P.underlying t = some (.slice e)) (hinfo : (P.info? e).map (fun i => (i.zero, i.size, i.bytes)) = some (some z, 1, bytes)) (hz : z.cells.size = 1)
  {us : List Value} {k : Nat} {gsV gv : Value} {w : World} (hs : a.eval s = gsV) (hx : a.eval x = .slice (some ⟨w.heap.size, 0, none⟩) 1 1) (h1 : gv.oneCell' = true)
  (hown : w.ownsRow base e 1 gsV k us) (hB : base ≤ w.heap.size) (hl : k + 1 ≤ maxLen) (hby : (k + 1) * bytes ≤ 140737488355328)
  (h : ∀ v' w', w'.ownsRow base e 1 v' (k + 1) (us ++ [gv]) → w.grownBy w' gsV.ownBlock → wpList P ops Q rest (a.put o.dst v') w') : wpList P ops Q (o :: rest) a (w.alloc (.cells #[gv] e)) := by
 obtain ⟨ti, hti, hq⟩ := Option.map_eq_some_iff.1 hinfo
 simp only [Prod.mk.injEq] at hq
 obtain ⟨q1, q2, q3⟩ := hq
 refine wpList_append_own_at _ hgd s x t ho base e ti z 1 bytes ht hti q1 q2 q3 hz (by decide) gsV k us hs (own_below hown (alloc_below w (.cells #[gv] e))) ⟨w.heap.size, 0, none⟩ 1 1 [gv] hx rfl (news_cell (cs := [gv])) (by intro u hu; simp at hu; rw [hu]; exact h1) hl hby (by rw [World.size_alloc]; omega) ?_
 intro v' w' ho' hg' _ _
 exact h v' w' ho' (grown_alloc hg')
end
end Go.Proofs.YtlhajfepcggjaaaGreatDoor.KP
