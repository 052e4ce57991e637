/- Five lists of steps, their blocks in parted ranges: depotkit.ApartProofs is true of them. No conditions. A range over a function whose iterator hands over memory: what each side promises, and the statement's law over it. No conditions. drat.Steps: what its iterator hands over: the steps that are read, one by one, each in memory of its own. No conditions. depotlaw09.handed over drat.Steps' iterator: the steps, in a row of their own, all apart. No conditions. -/
import Derived.Test.YtnaafhkenbnliaaDoorKL
import Derived.Test.YtnaafhkenbnliaaDoorKA
import Derived.RangeFuncNested
import Derived.RangeFuncCalls
import Derived.RangeFuncLeaves
import Derived.Test.YtnaafhkenbnliaaDoorReadR
import Derived.Shelf.Abstract
import Derived.Shelf.RegionOpen
import Derived.OwnWalkIn
import Derived.TacticsInMore
import Derived.LoopNIn
import Derived.LoopIn
import Derived.Sort.BigQuietIn
set_option linter.unusedVariables false
set_option linter.unusedSimpArgs false
namespace Go.Proofs.YtnaafhkenbnliaaDoor.KP
open Go Go.RowKit Go.Proofs.YtnaafhkenbnliaaDoorW.PrintWords Go.Proofs.YtnaafhkenbnliaaDoorW.PrintLast Go.Proofs.YtnaafhkenbnliaaDoorW.PrintMore Go.Proofs.YtnaafhkenbnliaaDoor.R

/-- Their blocks lie from lo on, below hi. -/
def rng (lo hi : Nat) (us : List Value) : Prop := ∀ u ∈ us, ∀ k, u.ownBlock = some k → lo ≤ k ∧ k < hi
theorem rng_append {lo hi : Nat} {us vs : List Value} (h1 : rng lo hi us) (h2 : rng lo hi vs) : rng lo hi (us ++ vs) := fun u hu => by
  rcases List.mem_append.1 hu with h | h
  · exact h1 u h
  · exact h2 u h
theorem rng_wide {lo hi lo' hi' : Nat} {us : List Value} (h : rng lo hi us) (h1 : lo' ≤ lo) (h2 : hi ≤ hi') : rng lo' hi' us := fun u hu k hk => by
  have := h u hu k hk
  omega
theorem apart_rng {es bs : List Value} {a b c d : Nat} (ha : apart es) (hb : apart bs) (h1 : rng a b es) (h2 : rng c d bs) (h : b ≤ c) : apart (es ++ bs) :=
  apart_append ha hb (fun v hv k hk => (h1 v hv k hk).2) (fun v hv k hk => by have := (h2 v hv k hk).1; omega)
theorem Op47.rngF {w : World} {lo hi : Nat} {v : Value} {l : List S47} {X : List Value} (h : Op47 w lo hi v l X) : rng lo hi (fieldsN X l.length) := fun u hu => (h.mem hu).2.2
theorem Op47.rngV {w : World} {lo hi : Nat} {v : Value} {l : List S47} {X : List Value} (h : Op47 w lo hi v l X) : rng lo hi [v] := fun u hu k hk => by
  rw [List.mem_singleton] at hu
  subst hu
  exact ⟨(own_lt h.row k hk).1, h.low k hk⟩
theorem Op47.rowV {W : World} {a0 a1 : Nat} {va : Value} {la : List S47} {Xa : List Value} (h : Op47 W a0 a1 va la Xa) : W.ownsRow 0 47 2 va (lenV va) Xa := by
  rw [h.len]
  exact own_low h.row (Nat.zero_le _)
theorem Op47.fieldAt {W : World} {a0 a1 : Nat} {va : Value} {la : List S47} {Xa : List Value} (h : Op47 W a0 a1 va la Xa) : ∀ j, j < lenV va → ∃ A n c, Xa[j * 2 + 1]? = some (.slice A n c) := fun j hj => by
  rw [h.len] at hj
  obtain ⟨A, c, _, h1, _⟩ := h.fld j _ (List.getElem?_eq_getElem hj)
  exact ⟨A, _, c, h1⟩
/-- Lists whose blocks lie in parted ranges, one behind the other. -/
structure Lists (W : World) (lo hi M : Nat) (vs : List Value) (X : Nat → List Value) : Prop where
  row : ∀ (j : Nat) (v : Value), vs[j]? = some v → W.ownsRow 0 47 2 v (lenV v) (X j)
  fld : ∀ k j : Nat, k < vs.length → j < lenAt vs k → ∃ A n c, (X k)[j * 2 + 1]? = some (.slice A n c)
  mem : ∀ u ∈ fieldsK X (lenAt vs) vs.length, (∃ xs, W.ownsRow 0 3 1 u (lenV u) xs) ∧ lenV u ≤ 1000000000
  sep : apart vs
  sepF : apart (fieldsK X (lenAt vs) vs.length)
  le : ∀ v ∈ vs, lenV v ≤ M
  leF : (fieldsK X (lenAt vs) vs.length).length ≤ vs.length * M
  rng1 : rng lo hi vs
  rngF : rng lo hi (fieldsK X (lenAt vs) vs.length)
theorem fieldsK_congr {X X' : Nat → List Value} {L L' : Nat → Nat} : ∀ K : Nat, (∀ k, k < K → X k = X' k ∧ L k = L' k) → fieldsK X L K = fieldsK X' L' K
  | 0, _ => rfl
  | K + 1, h => by
    rw [fieldsK, fieldsK, fieldsK_congr K fun k hk => h k (by omega), (h K (Nat.lt_succ_self _)).1, (h K (Nat.lt_succ_self _)).2]
theorem Lists.nil (W : World) (lo M : Nat) (X : Nat → List Value) : Lists W lo lo M [] X :=
  ⟨fun j v h => by simp at h, fun k j h => absurd h (Nat.not_lt_zero _), fun u h => by simp [fieldsK] at h, apart_nil, apart_nil, fun v h => by simp at h, by simp [fieldsK], fun v h => by simp at h, fun u h => by simp [fieldsK] at h⟩
theorem snoc_case {vs : List Value} {v u : Value} {j : Nat} (h : (vs ++ [v])[j]? = some u) : (j < vs.length ∧ vs[j]? = some u) ∨ (j = vs.length ∧ u = v) := by
  rw [List.getElem?_append] at h
  split at h
  · rename_i hj; exact .inl ⟨hj, h⟩
  · have hjl := (List.getElem?_eq_some_iff.1 h).1
    simp only [List.length_cons, List.length_nil] at hjl
    have e : j = vs.length := by omega
    subst e
    rw [Nat.sub_self] at h
    injection h with h
    exact .inr ⟨rfl, h.symm⟩
theorem Lists.snoc {W : World} {lo hi a0 a1 M : Nat} {vs : List Value} {X X' : Nat → List Value} {v : Value} {l : List S47} {Xv : List Value} (h : Lists W lo hi M vs X) (g : Op47 W a0 a1 v l Xv) (hX : ∀ k, k < vs.length → X' k = X k) (hXv : X' vs.length = Xv) (h1 : hi ≤ a0) (hlo : lo ≤ a0) (ha : hi ≤ a1) (hl : l.length ≤ M) (hf : ∀ x ∈ l, x.f1.length ≤ 1000000000) : Lists W lo a1 M (vs ++ [v]) X' := by
  have e : fieldsK X' (lenAt (vs ++ [v])) (vs ++ [v]).length = fieldsK X (lenAt vs) vs.length ++ fieldsN Xv l.length := by
    rw [List.length_append, List.length_singleton, fieldsK, hXv]
    have e1 : lenAt (vs ++ [v]) vs.length = l.length := by
      unfold lenAt
      rw [List.getD_eq_getElem?_getD, List.getElem?_append_right (Nat.le_refl _), Nat.sub_self]
      exact g.len
    rw [e1, fieldsK_congr (X' := X) (L' := lenAt vs) vs.length fun k hk => ⟨hX k hk, by
      unfold lenAt
      rw [List.getD_eq_getElem?_getD, List.getElem?_append_left hk, ← List.getD_eq_getElem?_getD]⟩]
  refine ⟨fun j u hu => ?_, fun k j hk hj => ?_, fun u hu => ?_, ?_, ?_, fun u hu => ?_, ?_, ?_, ?_⟩
  · rcases snoc_case hu with ⟨hj, hu2⟩ | ⟨hj, hu2⟩
    · rw [hX j hj]
      exact h.row j u hu2
    · rw [hj, hXv, hu2]
      exact g.rowV
  · rw [List.length_append, List.length_singleton] at hk
    by_cases hkl : k < vs.length
    · rw [hX k hkl]
      refine h.fld k j hkl ?_
      unfold lenAt at hj ⊢
      rwa [List.getD_eq_getElem?_getD, List.getElem?_append_left hkl, ← List.getD_eq_getElem?_getD] at hj
    · have hke : k = vs.length := by omega
      subst hke
      rw [hXv]
      refine g.fieldAt j ?_
      unfold lenAt at hj
      rwa [List.getD_eq_getElem?_getD, List.getElem?_append_right (Nat.le_refl _), Nat.sub_self] at hj
  · rw [e] at hu
    rcases List.mem_append.1 hu with hu | hu
    · exact h.mem u hu
    · obtain ⟨hr, ⟨x, hx, hle⟩, _⟩ := g.mem hu
      exact ⟨hr, by rw [hle]; exact hf x hx⟩
  · exact apart_rng h.sep (apart_one v) h.rng1 g.rngV h1
  · rw [e]
    exact apart_rng h.sepF g.sep h.rngF g.rngF h1
  · rcases List.mem_append.1 hu with hu | hu
    · exact h.le u hu
    · rw [List.mem_singleton] at hu
      subst hu
      rw [g.len]
      exact hl
  · rw [e, List.length_append, fieldsN_len, List.length_append, List.length_singleton, Nat.succ_mul]
    have := h.leF
    omega
  · exact rng_append (rng_wide h.rng1 (Nat.le_refl _) ha) (rng_wide g.rngV hlo (Nat.le_refl _))
  · rw [e]
    exact rng_append (rng_wide h.rngF (Nat.le_refl _) ha) (rng_wide g.rngF hlo (Nat.le_refl _))
theorem Lists.below {W W1 : World} {lo hi M : Nat} {vs : List Value} {X : Nat → List Value} (h : Lists W lo hi M vs X) (hb : Below W.heap.size W W1) : Lists W1 lo hi M vs X :=
  ⟨fun j v hv => own_below (h.row j v hv) hb, h.fld, fun u hu => by
    obtain ⟨⟨xs, hx⟩, hl⟩ := h.mem u hu
    exact ⟨⟨xs, own_below hx hb⟩, hl⟩, h.sep, h.sepF, h.le, h.leF, h.rng1, h.rngF⟩
theorem Lists.calls {W : World} {lo hi M : Nat} {vs : List Value} {X : Nat → List Value} (h : Lists W lo hi M vs X) (V : Value) (hV : W.ownsRow 0 22 1 V vs.length vs) (hn : vs.length ≤ 8) (hM : M ≤ 100000000) :
    Calls Tryd.prog 16 #[V] W fun e w' => e = .returned (.bool true) ∧ Rest (fieldsK X (lenAt vs) vs.length ++ vs) W w' ∧ rng lo hi (fieldsK X (lenAt vs) vs.length ++ vs) := by
  have h1 := h.leF
  have h2 : vs.length * M ≤ 8 * M := Nat.mul_le_mul_right _ hn
  refine (apartProofs_calls V vs X 0 W hV h.row h.fld (fun j u hu => (h.mem u (List.mem_of_getElem? hu)).1) h.sep h.sepF (by omega) (fun v hv => by have := h.le v hv; omega) (by omega) (fun u hu => (h.mem u hu).2)).mono fun e w' q => ⟨q.1, q.2, rng_append h.rngF h.rng1⟩
end Go.Proofs.YtnaafhkenbnliaaDoor.KP

set_option linter.unusedVariables false
set_option linter.unusedSimpArgs false
namespace Go.Proofs.YtnaafhkenbnliaaDoor.Q
open Go Go.RowKit

variable {F : Fence} {n : Nat} {P : Program}
/-- Whatever lay below N, and all cells, lie as they lay. -/
structure KeepC (N : Nat) (A B : World) : Prop where
  os : B.os = A.os
  tape : B.tape = A.tape
  output : B.output = A.output
  size : A.heap.size ≤ B.heap.size
  same : ∀ (k : Nat) (o : Obj), A.heap[k]? = some o → (k < N ∨ o.isCells = true) → B.heap[k]? = some o
theorem KeepC.refl (N : Nat) (A : World) : KeepC N A A := ⟨rfl, rfl, rfl, Nat.le_refl _, fun _ _ h _ => h⟩
theorem KeepC.trans {N : Nat} {A B C : World} (h : KeepC N A B) (k : KeepC N B C) : KeepC N A C :=
  ⟨k.os.trans h.os, k.tape.trans h.tape, k.output.trans h.output, Nat.le_trans h.size k.size, fun i o hi ho => k.same i o (h.same i o hi ho) ho⟩
theorem KeepC.below {N : Nat} {A B : World} (h : Below A.heap.size A B) : KeepC N A B :=
  ⟨h.os, h.tape, h.output, h.size, fun k o hk _ => (h.block k (Array.getElem?_eq_some_iff.1 hk).1).trans hk⟩
theorem KeepC.put {N : Nat} {A : World} {l : Nat} {o : Obj} (hl : A.heap[l]? = some o) (hc : o.isCells = false) (hN : N ≤ l) (o' : Obj) : KeepC N A (A.putObj l o') :=
  ⟨rfl, rfl, rfl, by simp, fun k q hk hq => by
    have hne : k ≠ l := by
      rintro rfl
      rw [hl] at hk
      injection hk with hk
      subst hk
      rcases hq with h | h
      · omega
      · rw [hc] at h; cases h
    exact (World.putObj_heap_other hne).trans hk⟩
/-- What is so stays so. -/
def KC (N : Nat) (I : World → Prop) : Prop := ∀ A B, I A → KeepC N A B → I B
/-- A round's word: cells from N on, below M, but for one block, lie as they lay; so does all that is no cells. -/
structure RW (N M : Nat) (own : Option Nat) (A B : World) : Prop where
  size : A.heap.size ≤ B.heap.size
  cells : ∀ (k : Nat) (o : Obj), N ≤ k → k < M → A.heap[k]? = some o → o.isCells = true → some k ≠ own → B.heap[k]? = some o
  others : ∀ (k : Nat) (o : Obj), A.heap[k]? = some o → o.isCells = false → B.heap[k]? = some o
theorem RW.refl (N M : Nat) (own : Option Nat) (A : World) : RW N M own A A := ⟨Nat.le_refl _, fun _ _ _ _ h _ _ => h, fun _ _ h _ => h⟩
theorem RW.trans {N M : Nat} {own : Option Nat} {A B C : World} (h : RW N M own A B) (k : RW N M own B C) : RW N M own A C :=
  ⟨Nat.le_trans h.size k.size, fun i o hN hM hi hc ho => k.cells i o hN hM (h.cells i o hN hM hi hc ho) hc ho, fun i o hi hc => k.others i o (h.others i o hi hc) hc⟩
theorem RW.below {N M : Nat} {own : Option Nat} {A B : World} (h : Below A.heap.size A B) : RW N M own A B :=
  ⟨h.size, fun k o _ _ hk _ _ => (h.block k (Array.getElem?_eq_some_iff.1 hk).1).trans hk, fun k o hk _ => (h.block k (Array.getElem?_eq_some_iff.1 hk).1).trans hk⟩
/-- A store into a cell's block. -/
theorem RW.set {N M : Nat} {own : Option Nat} {A : World} {p : Addr} {v : Value} (h : p.block < N ∨ M ≤ p.block ∨ some p.block = own) : RW N M own A (A.setCell p v) := by
  have hk := KeepsOthers.setCell A p v
  refine ⟨hk.size, fun k o hN hM hko _ ho => ?_, hk.same⟩
  refine (Below.heap_setCell A p v k ?_).trans hko
  rintro rfl
  rcases h with h | h | h
  · omega
  · omega
  · exact ho h
/-- The iterator's contract: at each call of yield it hands over x, of which Rd tells; a round that goes on keeps RW. -/
def SeqR {α : Type} (F : Fence) (n : Nat) (P : Program) (g : Nat) (lb : Array Value) (encs : α → Array Value) (Rd : Nat → List α → α → World → Prop) (ow : α → Option Nat) (S Sp : List α → Prop) (w : World) : Prop :=
  ∀ (l : Nat) (J : Nat → List α → World → Prop) (Jx : List α → World → Prop) (W : World) (n₀ : Nat), Below w.heap.size w W → n₀ ≤ W.heap.size →
    (∀ M s A B, J M s A → Below A.heap.size A B → J M s B) → (∀ s A B, Jx s A → Below A.heap.size A B → Jx s B) →
    (∀ M pre x W', M ≤ W'.heap.size → J M pre W' → Rd n₀ pre x W' → YieldAt F (n - 1) P l (encs x) W' fun e W'' => (e = .returned (.bool true) ∧ J M (pre ++ [x]) W'' ∧ RW n₀ M (ow x) W' W'') ∨ (e = .returned (.bool false) ∧ Jx (pre ++ [x]) W'')) →
    (∀ M, J M [] W) → CallsIn F n P g (#[.func (.yield l) #[] #[]] ++ lb) W fun e W' => (∃ v, e = .returned v) ∧ ((∃ xs, S xs ∧ ∃ M, J M xs W') ∨ (∃ pre, Sp pre ∧ Jx pre W'))
/-- How a round's body may be left. -/
def postR {α : Type} (N M : Nat) (own : Option Nat) (I : Nat → List α → World → Prop) (Ix : Code → List α → World → Prop) (xs : List α) (A : World) : Exit → Act → World → Prop
  | .normal, _, B => RW N M own A B ∧ I M xs B
  | .ret, _, B => RW N M own A B ∧ Ix .ret xs B
  | .exit id, _, B => RW N M own A B ∧ Ix (.exit id) xs B
  | _, _, _ => False
/-- The statement. -/
theorem wpIn_rangeR {α : Type} {g : Operand} {ps : Array Tmp} {assign body : Code} {Q : Exit → Act → World → Prop} {a : Act} {w : World}
    (hro : F.round = none) (h1 : 1 ≤ n) {gf : Nat} {lb : Array Value} (hg : a.eval g = .func (.func gf) #[] lb) (hFg : F.fn gf) (eg : ∀ args w, (callFunc gf args).run P w = .ok (.enter gf args) w)
    {encs : α → Array Value} {Rd : Nat → List α → α → World → Prop} {ow : α → Option Nat} {S Sp : List α → Prop} (hseq : SeqR F (n - 1) P gf lb encs Rd ow S Sp w) (hps : ∀ x, (encs x).size = ps.size)
    (I : Nat → List α → World → Prop) (Ix : Code → List α → World → Prop) (Ax : List α → α → Act → World → Prop) (hI : ∀ M s, KC w.heap.size (I M s)) (hIx : ∀ c s, KC w.heap.size (Ix c s)) (hAx : ∀ pre x a', KC w.heap.size (Ax pre x a')) (h0 : ∀ M, I M [] w)
    (hassign : ∀ (l M : Nat) (pre : List α) (x : α) (A : World) (K : Act → World → Prop), w.heap.size ≤ A.heap.size → M ≤ A.heap.size → I M pre A → Rd w.heap.size pre x A → (∀ a' B, RW w.heap.size M (ow x) A B → I M pre B → Ax pre x a' B → K a' B) →
      assign.wpIn (F.inRound l) (n - 1 - 1) P (Exit.then K (fun _ _ _ => False)) { tmps := (ps.zip (encs x)).foldl (fun t (p, v) => t.setIfInBounds p v) a.tmps, defers := [] } A)
    (hbody : ∀ (l M : Nat) (pre : List α) (x : α) (a' : Act) (A : World), w.heap.size ≤ A.heap.size → M ≤ A.heap.size → I M pre A → Ax pre x a' A → body.wpIn (F.inRound l) (n - 1 - 1) P (postR w.heap.size M (ow x) I Ix (pre ++ [x]) A) a' A)
    (hdone : ∀ (D M : Nat) (xs : List α) (A : World), w.heap.size ≤ D → S xs → I M xs A → A.heap[D]? = some (.deferred (some [])) → Q .normal { a with defers := { target := .collected D, args := #[] } :: a.defers } A)
    (hstop : ∀ (D : Nat) (c : Code) (pre : List α) (A : World), w.heap.size ≤ D → Sp pre → Ix c pre A → A.heap[D]? = some (.deferred (some [])) → c.wpIn F n P Q { a with defers := { target := .collected D, args := #[] } :: a.defers } A) :
    (Code.rangeFunc g ps assign body).wpIn F n P Q a w := by
  refine wpIn_rangeFunc ?_
  intro fn hfn
  rw [hro]
  -- the block for deferred calls (D), the record (L)
  let D := w.heap.size
  let L := w.heap.size + 1
  let rec_ : LoopState → Option Code → Loop := fun st pe => { state := st, pending := pe, fn, tmps := a.tmps, params := ps, assign, body, defers := D }
  obtain ⟨W1, hW1⟩ : ∃ W1, (w.alloc (.deferred (some []))).alloc (.loop (rec_ .ready none)) = W1 := ⟨_, rfl⟩
  have hB1 : Below w.heap.size w W1 := by rw [← hW1]; exact ((Below.refl _ w).alloc (Nat.le_refl _) _).alloc (by simp) _
  have hsz : W1.heap.size = w.heap.size + 2 := by rw [← hW1]; simp
  have hL1 : W1.heap[L]? = some (.loop (rec_ .ready none)) := by
    rw [← hW1]
    have := World.alloc_heap_new (w.alloc (.deferred (some []))) (.loop (rec_ .ready none))
    rwa [World.size_alloc] at this
  have hD1 : W1.heap[D]? = some (.deferred (some [])) := by
    rw [← hW1]
    exact (Below.heap_alloc _ _ _ (by simp [D])).trans (World.alloc_heap_new w _)
  -- book-keeping: the record and the block lie
  let Bk : LoopState → Option Code → World → Prop := fun st pe A => A.heap[L]? = some (.loop (rec_ st pe)) ∧ A.heap[D]? = some (.deferred (some []))
  have hBk : ∀ st pe (A B : World), Bk st pe A → Below A.heap.size A B → Bk st pe B := fun st pe A B h hb =>
    ⟨(hb.block _ (Array.getElem?_eq_some_iff.1 h.1).1).trans h.1, (hb.block _ (Array.getElem?_eq_some_iff.1 h.2).1).trans h.2⟩
  -- the record turned
  have turn : ∀ (st st' : LoopState) (pe pe' : Option Code) (A : World), Bk st pe A → Bk st' pe' (A.putObj L (.loop (rec_ st' pe'))) ∧ KeepC w.heap.size A (A.putObj L (.loop (rec_ st' pe'))) := fun st st' pe pe' A h =>
    ⟨⟨World.putObj_heap_same (Array.getElem?_eq_some_iff.1 h.1).1, (World.putObj_heap_other (by simp [D, L])).trans h.2⟩, KeepC.put h.1 rfl (by simp [L]) _⟩
  refine ⟨L, [{ target := .collected D, args := #[] }], W1, { target := .fn (.func gf) lb, args := #[.func (.yield L) #[] #[]] }, W1, gf, #[.func (.yield L) #[] #[]] ++ lb, W1, ?_, ?_, ?_, ?_, fun _ => h1, ?_⟩
  · rw [← hW1]; exact run_enterLoop_outer _ _ _ _ _
  · simp only [resolve, hg]
    simp [go_sem]
  · intro f' hf'
    simp [Target.leads] at hf'
    subst hf'
    exact hFg
  · simp [invoke, go_sem, eg]
  refine (hseq L (fun M s A => I M s A ∧ Bk .ready none A ∧ w.heap.size ≤ A.heap.size) (fun s A => ∃ c, Ix c s A ∧ Bk .done (some c) A ∧ w.heap.size ≤ A.heap.size) W1 w.heap.size hB1 (by omega)
    (fun M s A B h hb => ⟨hI M s A B h.1 (KeepC.below hb), hBk _ _ A B h.2.1 hb, Nat.le_trans h.2.2 hb.size⟩)
    (fun s A B h hb => by obtain ⟨c, h1, h2, h3⟩ := h; exact ⟨c, hIx c s A B h1 (KeepC.below hb), hBk _ _ A B h2 hb, Nat.le_trans h3 hb.size⟩) ?_ (fun M => ⟨hI M [] w W1 (h0 M) (KeepC.below hB1), ⟨hL1, hD1⟩, by omega⟩)).mono ?_
  · -- one round
    rintro M pre x A hMA ⟨hi, hbk, hsA⟩ hrd
    refine ⟨fn, _, assign, body, run_yield (P := P) (args := encs x) hbk.1 (hps x), roundIn_of_wpIn hfn ?_⟩
    refine hassign L M pre x A _ hsA hMA hi hrd ?_
    intro a' B hrw hiB hax
    have hbB : Bk .ready none B := ⟨hrw.others _ _ hbk.1 rfl, hrw.others _ _ hbk.2 rfl⟩
    refine ⟨_, run_beginRound hbB.1 rfl, ?_⟩
    obtain ⟨hbC, hkC⟩ := turn .ready .busy none none B hbB
    have hsC : w.heap.size ≤ (B.putObj L (.loop (rec_ .busy none))).heap.size := Nat.le_trans hsA (Nat.le_trans hrw.size hkC.size)
    have rwput : ∀ (X : World) (st st' : LoopState) (pe pe' : Option Code), Bk st pe X → ∀ (k : Nat) (o : Obj), X.heap[k]? = some o → o.isCells = true → (X.putObj L (.loop (rec_ st' pe'))).heap[k]? = some o := fun X st st' pe pe' h k o hk hc =>
      (KeepC.put (N := w.heap.size) h.1 rfl (by simp [L]) (.loop (rec_ st' pe'))).same k o hk (.inr hc)
    refine wpIn_mono (hbody L M pre x a' _ hsC (Nat.le_trans hMA (Nat.le_trans hrw.size hkC.size)) (hI _ _ _ _ hiB hkC) (hAx _ _ _ _ _ hax hkC)) ?_
    rintro e a3 C hp
    have fin : ∀ (jump : Option Code), RW w.heap.size M (ow x) (B.putObj L (.loop (rec_ .busy none))) C →
        (Instr.endRound L jump).run P C = .ok (.bool jump.isNone) (C.putObj L (.loop (rec_ (if jump.isNone then .ready else .done) jump))) ∧ Bk .busy none C := fun jump hr => by
      have hbC' : Bk .busy none C := ⟨hr.others _ _ hbC.1 rfl, hr.others _ _ hbC.2 rfl⟩
      exact ⟨run_endRound (P := P) jump hbC'.1, hbC'⟩
    cases e with
    | normal =>
      obtain ⟨hr, hi3⟩ := hp
      obtain ⟨hrun, hbC'⟩ := fin none hr
      obtain ⟨hbE, hkE⟩ := turn .busy .ready none none C hbC'
      refine ⟨_, _, hrun, .inl ⟨rfl, ⟨hI _ _ _ _ hi3 hkE, hbE, Nat.le_trans hsC (Nat.le_trans hr.size hkE.size)⟩, ?_⟩⟩
      refine ⟨Nat.le_trans hrw.size (Nat.le_trans hkC.size (Nat.le_trans hr.size hkE.size)), fun k o hN hM hk hc ho => ?_, fun k o hk hc => ?_⟩
      · exact rwput C _ _ none none hbC' k o (hr.cells k o hN hM (rwput B _ _ none none hbB k o (hrw.cells k o hN hM hk hc ho) hc) hc ho) hc
      · by_cases hkL : k = L
        · subst hkL
          have e : o = .loop (rec_ .ready none) := by
            have := hk.symm.trans hbk.1
            injection this
          rw [e]
          exact hbE.1
        · have h1 := hrw.others k o hk hc
          have h2 : (B.putObj L (.loop (rec_ .busy none))).heap[k]? = some o := (World.putObj_heap_other hkL).trans h1
          exact (World.putObj_heap_other hkL).trans (hr.others k o h2 hc)
    | ret =>
      obtain ⟨hr, hi3⟩ := hp
      obtain ⟨hrun, hbC'⟩ := fin (some .ret) hr
      obtain ⟨hbE, hkE⟩ := turn .busy .done none (some .ret) C hbC'
      exact ⟨_, _, hrun, .inr ⟨rfl, .ret, hIx _ _ _ _ hi3 hkE, hbE, Nat.le_trans hsC (Nat.le_trans hr.size hkE.size)⟩⟩
    | exit id =>
      obtain ⟨hr, hi3⟩ := hp
      obtain ⟨hrun, hbC'⟩ := fin (some (.exit id)) hr
      obtain ⟨hbE, hkE⟩ := turn .busy .done none (some (.exit id)) C hbC'
      exact ⟨_, _, hrun, .inr ⟨rfl, .exit id, hIx _ _ _ _ hi3 hkE, hbE, Nat.le_trans hsC (Nat.le_trans hr.size hkE.size)⟩⟩
    | goto t => exact hp.elim
    | panic ch => exact hp.elim
    | outgrown => exact hp.elim
  · -- behind the iterator
    rintro e A ⟨⟨v, rfl⟩, (⟨xs, hS, M, hi, hbk, hs⟩ | ⟨pre, hSp, c, hi, hbk, hs⟩)⟩
    · obtain ⟨hbE, hkE⟩ := turn .ready .exhausted none none A hbk
      exact ⟨none, _, run_endLoop (P := P) hbk.1 (by simp [rec_]), hdone D M xs _ (Nat.le_refl _) hS (hI _ _ _ _ hi hkE) hbE.2⟩
    · obtain ⟨hbE, hkE⟩ := turn .done .exhausted (some c) (some c) A hbk
      exact ⟨some c, _, run_endLoop (P := P) hbk.1 (by simp [rec_]), hstop D c pre _ (Nat.le_refl _) hSp (hIx _ _ _ _ hi hkE) hbE.2⟩
end Go.Proofs.YtnaafhkenbnliaaDoor.Q

set_option linter.unusedVariables false
set_option linter.unusedSimpArgs false
namespace Go.Proofs.YtnaafhkenbnliaaDoor.R
open Go.RowKit Go.Lib Go.Proofs.YtnaafhkenbnliaaDoorW.PrintWords Go.Proofs.YtnaafhkenbnliaaDoorW.PrintLast Go.Proofs.YtnaafhkenbnliaaDoorW.PrintMore
open Go.Proofs.YtnaafhkenbnliaaDoor.Q (KeepC KC RW SeqR postR)
attribute [local go_sem] Oper.semAt_some

/-- An element handed over: the step, and its literals' slice. -/
abbrev El := S47 × Value
def encE (x : El) : Array Value := #[.agg #[.bool x.1.f0, x.2]]
def owE (x : El) : Option Nat := x.2.ownBlock
/-- The next step of the list, its literals in a row of their own. -/
def RdS (l : List S47) (n₀ : Nat) (pre : List El) (x : El) (W : World) : Prop := l[pre.length]? = some x.1 ∧ Kd.R (Kd.int .i64) 3 W n₀ (fun _ => True) x.2 x.1.f1 ∧ ∀ y ∈ pre, ∀ b, y.2.ownBlock = some b → x.2.ownBlock ≠ some b
theorem tag_elem {w : World} {base G n cap : Nat} {ok : Nat → Prop} {l : List S47} {f : Nat → Nat} (h : (Kd.tag f k47).R 47 w base ok (.slice (some ⟨G, 0, none⟩) n cap) l.zipIdx) (i : Nat) (hi : i < l.length) (hn : n = l.length) :
    ∃ v, w.cell? ⟨G, i * 2, none⟩ = some (.bool l[i].f0) ∧ w.cell? ⟨G, i * 2 + 1, none⟩ = some v ∧ Kd.R (Kd.int .i64) 3 w base (fun k => k ≠ G ∧ f k = i) v l[i].f1 := by
  obtain ⟨c, hcl, hM, hcc, _⟩ := Kd.R_elem h (z47, 0) ((i : Nat) : Int) (by omega) (by omega)
  rw [Int.toNat_natCast] at hM hcc
  have hg : l.zipIdx.getD i (z47, 0) = (l[i], i) := by
    rw [List.getD_eq_getElem?_getD, Kd.zip_at (List.getElem?_eq_getElem hi)]
    rfl
  rw [hg] at hM
  have hM2 : k47.M w base (fun k => (ok k ∧ k ≠ G) ∧ f k = i) l[i] c := hM
  obtain ⟨v, rfl, hv⟩ := k47_openM hM2
  exact ⟨v, hcc 0 _ rfl, hcc 1 _ rfl, Kd.R_mono hv (fun k hk => ⟨hk.1.2, hk.2⟩)⟩
/-- Where the literals of step j lie. -/
def rowAt (w : World) (G j : Nat) : Option Nat := match w.cell? ⟨G, j * 2 + 1, none⟩ with | some v => v.ownBlock | none => none
theorem row_sep {w : World} {base G n cap : Nat} {ok : Nat → Prop} {l : List S47} {f : Nat → Nat} (h : (Kd.tag f k47).R 47 w base ok (.slice (some ⟨G, 0, none⟩) n cap) l.zipIdx) (hn : n = l.length) {i j b : Nat} (hi : i < l.length) (hj : j < l.length) (h1 : rowAt w G i = some b) (h2 : rowAt w G j = some b) : i = j := by
  obtain ⟨u, _, d1, hu⟩ := tag_elem h i hi hn
  obtain ⟨u', _, d1', hu'⟩ := tag_elem h j hj hn
  unfold rowAt at h1 h2
  rw [d1] at h1
  rw [d1'] at h2
  exact (hu.1 b h1).2.symm.trans (hu'.1 b h2).2
/-- Cells from n₀ on lie as they lay, but for the literals of the first i steps. -/
structure AG (w : World) (n₀ G i : Nat) (w' : World) : Prop where
  size : w.heap.size ≤ w'.heap.size
  same : ∀ (k : Nat) (o : Obj), n₀ ≤ k → w.heap[k]? = some o → o.isCells = true → (∀ j, j < i → some k ≠ rowAt w G j) → w'.heap[k]? = some o
theorem AG.below {w : World} {n₀ G i : Nat} {A B : World} (h : AG w n₀ G i A) (hb : Below A.heap.size A B) : AG w n₀ G i B :=
  ⟨Nat.le_trans h.size hb.size, fun k o h1 h2 h3 h4 => by
    have := h.same k o h1 h2 h3 h4
    exact (hb.block k (Array.getElem?_eq_some_iff.1 this).1).trans this⟩
theorem AG.round {w : World} {n₀ G i : Nat} {A B : World} {own : Option Nat} (h : AG w n₀ G i A) (hr : RW n₀ w.heap.size own A B) (ho : own = rowAt w G i) : AG w n₀ G (i + 1) B :=
  ⟨Nat.le_trans h.size hr.size, fun k o h1 h2 h3 h4 => hr.cells k o h1 (Array.getElem?_eq_some_iff.1 h2).1 (h.same k o h1 h2 h3 (fun j hj => h4 j (by omega))) h3 (by rw [ho]; exact h4 i (Nat.lt_succ_self _))⟩
/-- The next step's cells, and its row, where the earlier ones have been given away. -/
theorem next_elem {w : World} {base n₀ G n cap : Nat} {ok : Nat → Prop} {l : List S47} {f : Nat → Nat} (h : (Kd.tag f k47).R 47 w base ok (.slice (some ⟨G, 0, none⟩) n cap) l.zipIdx) (hn : n = l.length) (hb : n₀ ≤ base) (i : Nat) (hi : i < l.length) {w' : World} (ha : AG w n₀ G i w') :
    ∃ v, w'.cell? ⟨G, i * 2, none⟩ = some (.bool l[i].f0) ∧ w'.cell? ⟨G, i * 2 + 1, none⟩ = some v ∧ Kd.R (Kd.int .i64) 3 w' n₀ (fun _ => True) v l[i].f1 ∧ v.ownBlock = rowAt w G i := by
  obtain ⟨v, c0, c1, hv⟩ := tag_elem h i hi hn
  obtain ⟨g', cap', hvs, hbg, hlg, cells, hcells⟩ := Kd.R_form h (by rw [List.length_zipIdx]; omega)
  have hG : g' = G := by injection hvs with h1 _ _; injection h1 with h1; injection h1 with h1; exact h1.symm
  subst hG
  have hrow : ∀ j, (hj : j < l.length) → ∃ u : Value, rowAt w g' j = u.ownBlock ∧ ∀ k, u.ownBlock = some k → k ≠ g' ∧ f k = j := fun j hj => by
    obtain ⟨u, _, d1, hu⟩ := tag_elem h j hj hn
    exact ⟨u, by unfold rowAt; rw [d1], fun k hk => hu.1 k hk⟩
  have hGs : w'.heap[g']? = some (.cells cells 47 (0, 0)) := ha.same g' _ (by omega) hcells rfl (fun j hj e => by
    obtain ⟨u, hu, hk⟩ := hrow j (by omega)
    rw [hu] at e
    exact (hk g' e.symm).1 rfl)
  have hcell : ∀ o, w'.cell? ⟨g', o, none⟩ = w.cell? ⟨g', o, none⟩ := fun o => by rw [blk_cell hGs, blk_cell hcells]
  refine ⟨v, (hcell _).trans c0, (hcell _).trans c1, ?_, by unfold rowAt; rw [c1]⟩
  have hb2 := Kd.R_bound hv
  refine Kd.R_lower (Kd.R_mono (Kd.R_step hb2 (fun k hk hlt => ?_)) (fun _ _ => trivial)) hb
  obtain ⟨⟨hkg, hkf⟩, hkb, _, q, _, cs, hcs⟩ := hk
  refine (ha.same k _ (by omega) hcs rfl (fun j hj e => ?_)).trans hcs.symm
  obtain ⟨u, hu, hk2⟩ := hrow j (by omega)
  rw [hu] at e
  have := (hk2 k e.symm).2
  omega
set_option maxHeartbeats 8000000 in
set_option maxRecDepth 100000 in
theorem steps_seq (s : ByteArray) (hs : s.size ≤ 4294967280) (n : Nat) (g : Nat) (w : World) (hg : w.heap[g]? = some (.cells #[.string s] 9 (0, 0))) (hE : Env w) :
    SeqR Fence.wide n Tryd.prog 28 #[.pointer (some ⟨g, 0, none⟩)] encE (RdS (readF s).1.steps) owE (fun xs => xs.map (·.1) = (readF s).1.steps) (fun pre => pre.map (·.1) <+: (readF s).1.steps) w := by
  intro l J Jx W n₀ hW hn hJ hJx hY h0
  have hrw := fun W hE => read_walk W W.heap.size s _ (rd_new W) hE hs
  obtain ⟨st, hst⟩ : ∃ st, (readF s).1 = st := ⟨_, rfl⟩
  rw [hst] at hY hrw
  rw [hst]
  clear hst
  have hgW : W.heap[g]? = some (.cells #[.string s] 9 (0, 0)) := (hW.block g (Array.getElem?_eq_some_iff.1 hg).1).trans hg
  have HEW := Aside0.mk (hE.below hW)
  have HJ := Aside0.mk hJ
  have HJX := Aside0.mk hJx
  have HY := Aside0.mk hY
  have H0 := Aside0.mk h0
  have HN := Aside0.mk hn
  have HGW := Aside0.mk hgW
  have cg : W.cell? ⟨g, 0, none⟩ = some (.string s) := (blk_cell hgW 0).trans rfl
  have hglt : g < W.heap.size := blk_lt hgW
  have HRW := Aside0.mk (hrw W HEW.out)
  clear hrw
  clear hW hn hJ hJx hY h0 hgW hE hg
  refine callsIn_of_wp Tryd.func28 rfl trivial ?_ rfl
  simp only [Tryd.ntmps28, List.size_toArray, List.length_cons, List.length_nil, Nat.reduceAdd, Nat.reduceSub, Array.replicate_succ, Array.replicate_zero, List.push_toArray, List.append_toArray, List.nil_append, List.cons_append]
  gi_wp2
  refine ⟨trivial, fun h => (by cases h), (callsIn_wide.2 HRW.out).mono ?_⟩
  rintro e w2 ⟨rfl, hR⟩
  obtain ⟨ws, vs, vl, hV⟩ := hR
  obtain ⟨f, hf⟩ := hV.s
  obtain ⟨Ao, co, eo⟩ := Kd.R_slice (Kd.S_R hV.s)
  subst eo
  have c0 : w2.cell? ⟨W.heap.size, 0, none⟩ = some (.slice Ao st.steps.length co) := (blk_cell hV.blk 0).trans rfl
  have HF := Aside0.mk hf
  have HB2 := Aside0.mk hV.below
  have hmax : st.steps.length ≤ 9223372036854775807 := Kd.C_max (Kd.R_reads' (Kd.S_R hV.s)).2.2
  have HMX := Aside0.mk hmax
  clear hV hf hmax
  gi_wp2
  gi_loopw [16] (fun iv wr => ∃ pre : List El, iv = .int .i64 (pre.length : Nat) ∧ Aside0 (pre.map (·.1) = st.steps.take pre.length) ∧ pre.length ≤ st.steps.length ∧ Aside0 (J w2.heap.size pre wr) ∧ Aside0 (∀ G, Ao = some ⟨G, 0, none⟩ → AG w2 n₀ G pre.length wr) ∧ Aside0 (∀ G, Ao = some ⟨G, 0, none⟩ → ∀ (j : Nat) (y : El), pre[j]? = some y → y.2.ownBlock = rowAt w2 G j)) (fun iv _ => st.steps.length - (RowKit.intOf iv).toNat)
  case atStart => exact ⟨[], rfl, ⟨by simp⟩, Nat.zero_le _, ⟨HJ.out _ _ _ _ (H0.out _) HB2.out⟩, ⟨fun G _ => ⟨Nat.le_refl _, fun _ _ _ h _ _ => h⟩⟩, ⟨fun G _ j y h => by simp at h⟩⟩
  case round =>
    obtain ⟨pre, rfl, HP, hle, HJP, HAG, HOW⟩ := hrel
    by_cases hlt : pre.length < st.steps.length
    · obtain ⟨G, rfl⟩ : ∃ G, Ao = some ⟨G, 0, none⟩ := by
        obtain ⟨g', cap', hv, _⟩ := Kd.R_form HF.out (by rw [List.length_zipIdx]; omega)
        injection hv with h1 _ _
        exact ⟨g', h1⟩
      have hag := HAG.out G rfl
      have hpb : pre.length < 9223372036854775807 := by have := HMX.out; omega
      obtain ⟨v, x0, x1, hR, ho⟩ := next_elem HF.out rfl HN.out pre.length hlt hag
      have HRV := Aside0.mk hR
      have HO := Aside0.mk ho
      have hge : st.steps[pre.length]? = some st.steps[pre.length] := List.getElem?_eq_getElem hlt
      obtain ⟨x, hx⟩ : ∃ x, st.steps[pre.length] = x := ⟨_, rfl⟩
      rw [hx] at x0 HRV hge
      have HGE := Aside0.mk hge
      obtain ⟨Av, cv, ev⟩ := Kd.R_slice HRV.out
      subst ev
      have hgl : G < wr.heap.size := by
        have := World.block_lt_of_cell? _ _ x0
        exact this
      clear hag hR ho hge hx
      have hbw : Below wr.heap.size wr (wr.alloc (.cells #[.bool x.f0, .slice Av x.f1.length cv] 47)) := (Below.refl _ wr).alloc (Nat.le_refl _) _
      obtain ⟨fn, tmps, assign, body, hy, hRd⟩ := HY.out _ pre (x, .slice Av x.f1.length cv) _ (Nat.le_trans (HAG.out G rfl).size hbw.size) (HJ.out _ _ _ _ HJP.out hbw) ⟨HGE.out, Kd.R_below HRV.out hbw, fun y hy b hb hb2 => by
        obtain ⟨j, hj⟩ := List.mem_iff_getElem?.1 hy
        have hjl := (List.getElem?_eq_some_iff.1 hj).1
        have h1 := HOW.out G rfl j y hj
        have := row_sep HF.out rfl (Nat.lt_trans hjl hlt) hlt (h1.symm.trans hb) (HO.out.symm.trans hb2)
        omega⟩
      dsimp only [encE] at hy
      have HBW := Aside0.mk hbw
      have HRD := Aside0.mk hRd
      clear hbw hRd
      gi_wp2
      refine ⟨fun h => (by cases h), HRD.out.mono ?_⟩
      have hpx : (pre ++ [((x, .slice Av x.f1.length cv) : El)]).map (·.1) = st.steps.take (pre.length + 1) := by
        have e1 := HP.out
        have e2 : st.steps.take (pre.length + 1) = st.steps.take pre.length ++ [x] := by rw [List.take_add_one, HGE.out]; rfl
        rw [List.map_append, e1, e2]
        rfl
      have HPX := Aside0.mk hpx
      clear hpx
      rintro e W3 (⟨rfl, hJ3, hk3⟩ | ⟨rfl, hx3⟩)
      · have HJ3 := Aside0.mk hJ3
        have HAG3 := Aside0.mk (show ∀ G', (some ⟨G, 0, none⟩ : Option Addr) = some ⟨G', 0, none⟩ → AG w2 n₀ G' (pre.length + 1) W3 from fun G' hG' => by
          injection hG' with h1
          injection h1 with h1
          subst h1
          exact ((HAG.out G rfl).below HBW.out).round hk3 HO.out)
        have HOW3 := Aside0.mk (show ∀ G', (some ⟨G, 0, none⟩ : Option Addr) = some ⟨G', 0, none⟩ → ∀ (j : Nat) (y : El), (pre ++ [((x, .slice Av x.f1.length cv) : El)])[j]? = some y → y.2.ownBlock = rowAt w2 G' j from fun G' hG' j y hy => by
          injection hG' with h1
          injection h1 with h1
          subst h1
          rw [List.getElem?_append] at hy
          split at hy
          · exact HOW.out G rfl j y hy
          · have hjl := (List.getElem?_eq_some_iff.1 hy).1
            simp only [List.length_cons, List.length_nil] at hjl
            have e : j = pre.length := by omega
            subst e
            rw [Nat.sub_self] at hy
            injection hy with hy
            rw [← hy]
            exact HO.out)
        clear hJ3 hk3
        gi_wp2
        go_roundw
        case rel => exact ⟨pre ++ [(x, .slice Av x.f1.length cv)], by simp, by rw [List.length_append]; exact HPX, by simp; omega, HJ3, by rw [List.length_append]; exact HAG3, HOW3⟩
        case measure => simp [RowKit.intOf]; omega
      · have HX3 := Aside0.mk hx3
        clear hx3
        gi_wp2
        refine bodyPost_ret (results_none rfl _ _ _) rfl ?_
        exact ⟨⟨_, rfl⟩, .inr ⟨pre ++ [(x, .slice Av x.f1.length cv)], by rw [HPX.out]; exact List.take_prefix _ _, HX3.out⟩⟩
    · have HE2 := Aside0.mk (show pre.map (·.1) = st.steps by rw [HP.out]; exact List.take_of_length_le (by omega))
      have hpl : pre.length = st.steps.length := by omega
      have HPL := Aside0.mk hpl
      rw [hpl]
      clear hpl hlt hle
      gi_wp2
      go_end0
      exact ⟨⟨_, rfl⟩, .inl ⟨pre, HE2.out, _, HJP.out⟩⟩
end Go.Proofs.YtnaafhkenbnliaaDoor.R

set_option linter.unusedVariables false
set_option linter.unusedSimpArgs false
namespace Go.Proofs.YtnaafhkenbnliaaDoor.KP
open Go Go.RowKit Go.Lib Go.Proofs.YtnaafhkenbnliaaDoorW.PrintWords Go.Proofs.YtnaafhkenbnliaaDoorW.PrintLast Go.Proofs.YtnaafhkenbnliaaDoorW.PrintMore Go.Proofs.YtnaafhkenbnliaaDoor.R
open Go.Proofs.YtnaafhkenbnliaaDoor.Q (KeepC KC RW SeqR postR wpIn_rangeR)
attribute [local go_sem] Oper.semAt_some

theorem wide_fn (k : FuncId) : Fence.wide.fn k = True := rfl
attribute [local go_sem] wide_fn
/-- A box lies. -/
def Bx (W : World) (g t : Nat) (v : Value) : Prop := W.heap[g]? = some (.cells #[v] t (0, 0))
theorem Bx.keep {N g t : Nat} {v : Value} {A B : World} (h : Bx A g t v) (k : KeepC N A B) : Bx B g t v := k.same g _ h (.inr rfl)
theorem Bx.cell {g t : Nat} {v : Value} {W : World} (h : Bx W g t v) : W.cell? ⟨g, 0, none⟩ = some v := (blk_cell h 0).trans rfl
theorem Bx.below {g t : Nat} {v : Value} {A B : World} (h : Bx A g t v) (hb : Below A.heap.size A B) : Bx B g t v := blk_below h hb
theorem Bx.grown {g t e sz n base : Nat} {v u : Value} {xs : List Value} {A B : World} (h : Bx A g t v) (hu : A.ownsRow base e sz u n xs) (hg : A.grownBy B u.ownBlock) (hne : t ≠ e) : Bx B g t v :=
  (hg.block g (blk_lt h) (fun q => by
    obtain ⟨c, hc⟩ := own_typed hu g q.symm
    exact blk_ne h hc hne rfl)).trans h
theorem below_keep {M N : Nat} {w A B : World} (hM : M ≤ w.heap.size) (hMN : M ≤ N) (h : Below M w A) (k : KeepC N A B) : Below M w B :=
  ⟨k.os.trans h.os, k.tape.trans h.tape, k.output.trans h.output, Nat.le_trans h.size k.size, fun i hi => by
    have e := h.block i hi
    have hlt : i < w.heap.size := by omega
    rw [← e]
    have e2 : A.heap[i]? = some w.heap[i] := by rw [e]; exact Array.getElem?_eq_getElem hlt
    rw [e2]
    exact k.same i _ e2 (.inl (by omega))⟩
theorem own_keepC {N base e sz n : Nat} {v : Value} {xs : List Value} {A B : World} (h : A.ownsRow base e sz v n xs) (k : KeepC N A B) : B.ownsRow base e sz v n xs := own_keep h fun b hb => by
  obtain ⟨c, hc⟩ := own_typed h b hb
  exact (k.same b _ hc (.inr rfl)).trans hc.symm
theorem RI_keepC {N base : Nat} {v : Value} {l : List Int} {A B : World} (h : RI A base v l) (k : KeepC N A B) : RI B base v l := RI_keep h fun b hb => by
  obtain ⟨c, hc⟩ := Kd.R_typed h b hb
  exact (k.same b _ hc (.inr rfl)).trans hc.symm
theorem RI_grown {base base2 e sz n : Nat} {v u : Value} {xs : List Value} {l : List Int} {A B : World} (h : RI A base v l) (hu : A.ownsRow base2 e sz u n xs) (hg : A.grownBy B u.ownBlock) (hne : 3 ≠ e) : RI B base v l := RI_keep h fun b hb => by
  obtain ⟨c, hc⟩ := Kd.R_typed h b hb
  exact hg.block b (blk_lt hc) (fun q => by
    obtain ⟨c2, hc2⟩ := own_typed hu b q.symm
    exact blk_ne hc hc2 hne rfl)
theorem RW.grown {N M base e sz n : Nat} {own : Option Nat} {u : Value} {xs : List Value} {A B : World} (hu : A.ownsRow base e sz u n xs) (hM : M ≤ base) (hg : A.grownBy B u.ownBlock) : RW N M own A B :=
  ⟨hg.size, fun k o _ hk h _ _ => (hg.block k (Array.getElem?_eq_some_iff.1 h).1 (fun q => by
    have := (own_lt hu k q.symm).1
    omega)).trans h, fun k o h hc => (hg.block k (Array.getElem?_eq_some_iff.1 h).1 (fun q => by
    obtain ⟨c2, hc2⟩ := own_typed hu k q.symm
    rw [hc2] at h
    injection h with h
    subst h
    cases hc)).trans h⟩
/-- The steps that were handed over, as they lie in out. -/
structure HL (N : Nat) (X : List Value) (xs : List El) (W : World) : Prop where
  cell : ∀ (j : Nat) (x : El), xs[j]? = some x → X[j * 2]? = some (.bool x.1.f0) ∧ X[j * 2 + 1]? = some x.2 ∧ RI W N x.2 x.1.f1
  sep : ∀ (i j : Nat) (x y : El), xs[i]? = some x → xs[j]? = some y → i ≠ j → ∀ b, x.2.ownBlock = some b → y.2.ownBlock ≠ some b
theorem HL.snoc {N : Nat} {X : List Value} {xs : List El} {W : World} (h : HL N X xs W) (hl : X.length = xs.length * 2) {x : El} (hx : RI W N x.2 x.1.f1) (hs : ∀ y ∈ xs, ∀ b, y.2.ownBlock = some b → x.2.ownBlock ≠ some b) : HL N (X ++ [.bool x.1.f0, x.2]) (xs ++ [x]) W := by
  have key : ∀ (j : Nat) (y : El), (xs ++ [x])[j]? = some y → (j < xs.length ∧ xs[j]? = some y) ∨ (j = xs.length ∧ y = x) := fun j y hy => by
    rw [List.getElem?_append] at hy
    split at hy
    · rename_i hj; exact .inl ⟨hj, hy⟩
    · have hjl := (List.getElem?_eq_some_iff.1 hy).1
      simp only [List.length_cons, List.length_nil] at hjl
      have e : j = xs.length := by omega
      subst e
      rw [Nat.sub_self] at hy
      injection hy with hy
      exact .inr ⟨rfl, hy.symm⟩
  refine ⟨fun j y hy => ?_, fun i j y z hy hz hij b hb1 hb2 => ?_⟩
  · rcases key j y hy with ⟨hj, hy⟩ | ⟨rfl, rfl⟩
    · obtain ⟨h1, h2, h3⟩ := h.cell j y hy
      exact ⟨((cells_snoc hl).1 hj).1.trans h1, ((cells_snoc hl).1 hj).2.trans h2, h3⟩
    · exact ⟨((cells_snoc hl).2 rfl).1, ((cells_snoc hl).2 rfl).2, hx⟩
  · rcases key i y hy with ⟨hi, hy2⟩ | ⟨hi, hy2⟩
    · rcases key j z hz with ⟨hj, hz2⟩ | ⟨hj, hz2⟩
      · exact h.sep i j y z hy2 hz2 hij b hb1 hb2
      · subst hz2
        exact hs y (List.mem_of_getElem? hy2) b hb1 hb2
    · rcases key j z hz with ⟨hj, hz2⟩ | ⟨hj, hz2⟩
      · subst hy2
        exact hs z (List.mem_of_getElem? hz2) b hb2 hb1
      · exact hij (hi.trans hj.symm)
theorem HL.map {N : Nat} {X : List Value} {xs : List El} {A B : World} (h : HL N X xs A) (hm : ∀ {v : Value} {l : List Int}, RI A N v l → RI B N v l) : HL N X xs B :=
  ⟨fun j x hx => by obtain ⟨h1, h2, h3⟩ := h.cell j x hx; exact ⟨h1, h2, hm h3⟩, h.sep⟩
theorem fold_one (x : El) (p : Tmp) (t : Array Value) : ((#[p] : Array Tmp).zip (encE x)).foldl (fun t (p, v) => t.setIfInBounds p v) t = t.setIfInBounds p (.agg #[.bool x.1.f0, x.2]) := by simp [encE]
/-- What lies while handed goes round. -/
structure IH (w0 : World) (N b m M : Nat) (xs : List El) (W : World) : Prop where
  below : Below w0.heap.size w0 W
  most : Bx W b 3 (.int .i64 (m : Nat))
  res : Bx W (b + 1) 22 (.slice none 0 0)
  got : ∃ ov X, Bx W (b + 1 + 1) 22 ov ∧ W.ownsRow (max N M) 47 2 ov xs.length X ∧ HL N X xs W
theorem IH.keep {w0 : World} {N b m M : Nat} {xs : List El} {A B : World} (hN : w0.heap.size ≤ N) (h : IH w0 N b m M xs A) (q : KeepC N A B) : IH w0 N b m M xs B := by
  obtain ⟨ov, X, h1, h2, h3⟩ := h.got
  exact ⟨below_keep (Nat.le_refl _) hN h.below q, h.most.keep q, h.res.keep q, ov, X, h1.keep q, own_keepC h2 q, h3.map fun hr => RI_keepC hr q⟩
/-- The round's variable. -/
def Bv (W : World) (g : Nat) (x : S47) (v : Value) : Prop := W.heap[g]? = some (.cells #[.bool x.f0, v] 47 (0, 0))
theorem Bv.keep {N g : Nat} {x : S47} {v : Value} {A B : World} (h : Bv A g x v) (k : KeepC N A B) : Bv B g x v := k.same g _ h (.inr rfl)
/-- Out behind a round. -/
theorem IH.next {w0 : World} {N b m M : Nat} {pre : List El} {A B : World} {ov ov' : Value} {X : List Value} {x : El} (hN : w0.heap.size ≤ N) (hb : w0.heap.size ≤ b) (hbN : b + 1 + 1 < N) (h : IH w0 N b m M pre A) (h1 : Bx A (b + 1 + 1) 22 ov) (h2 : A.ownsRow (max N M) 47 2 ov pre.length X) (h3 : HL N X pre A)
    (hx : RI A N x.2 x.1.f1) (hs : ∀ y ∈ pre, ∀ b, y.2.ownBlock = some b → x.2.ownBlock ≠ some b) (hg : A.grownBy B ov.ownBlock) (ho : B.ownsRow (max N M) 47 2 ov' (pre.length + 1) (X ++ [.bool x.1.f0, x.2])) :
    IH w0 N b m M (pre ++ [x]) (B.setCell ⟨b + 1 + 1, 0, none⟩ ov') := by
  have hbx : Bx B (b + 1 + 1) 22 ov := h1.grown h2 hg (by decide)
  have hmost := h.most.grown h2 hg (by decide)
  have hres := h.res.grown h2 hg (by decide)
  have hl : X.length = pre.length * 2 := own_len h2
  have hbw : Below w0.heap.size w0 B := bel_grown h.below (Nat.le_refl _) hg (fun k hk => by have := (own_lt h2 k hk).1; omega)
  refine ⟨hbw.setCell (by show w0.heap.size ≤ b + 1 + 1; omega) _, blk_far hmost (by simp; omega) _, blk_far hres (by simp) _, ov', X ++ [.bool x.1.f0, x.2], blk_set hbx 0 _, ?_, ?_⟩
  · rw [List.length_append]
    exact own_keep ho fun k hk => Below.heap_setCell B _ _ k (by
      have := (own_lt ho k hk).1
      show k ≠ b + 1 + 1
      omega)
  · refine ((h3.snoc hl hx hs).map fun hr => RI_grown hr h2 hg (by decide)).map fun hr => RI_keep hr fun k hk => Below.heap_setCell B _ _ k (by
      have := Kd.R_base hr k hk
      show k ≠ b + 1 + 1
      omega)
set_option maxHeartbeats 8000000 in
set_option maxRecDepth 100000 in
theorem handed_calls (s : ByteArray) (hs : s.size ≤ 4294967280) (g : Nat) (w0 : World) (hE : Env w0) (hg : w0.heap[g]? = some (.cells #[.string s] 9 (0, 0))) (hmx : (readF s).1.steps.length ≤ 1000000000) :
    Calls Tryd.prog 13 #[.func (.func 28) #[] #[.pointer (some ⟨g, 0, none⟩)], .int .i64 ((readF s).1.steps.length : Nat)] w0 fun e w' => ∃ A c X, e = .returned (.slice A (readF s).1.steps.length c) ∧ Op47 w' w0.heap.size w'.heap.size (.slice A (readF s).1.steps.length c) (readF s).1.steps X ∧ Below w0.heap.size w0 w' := by
  refine (callsIn_wide (n := 3)).1 ?_
  refine callsIn_of_wp_marks Tryd.func13 rfl trivial ?_ rfl
  have hseq := fun (w : World) (hb : Below w0.heap.size w0 w) => steps_seq s hs 2 g w ((hb.block g (Array.getElem?_eq_some_iff.1 hg).1).trans hg) (hE.below hb)
  obtain ⟨sl, hsl⟩ : ∃ sl, (readF s).1.steps = sl := ⟨_, rfl⟩
  rw [hsl] at hseq hmx
  rw [hsl]
  have HSEQ := Aside0.mk hseq
  have HMX := Aside0.mk hmx
  clear hseq hsl hE hg hmx
  simp only [Tryd.ntmps13, List.size_toArray, List.length_cons, List.length_nil, Nat.reduceAdd, Nat.reduceSub, Array.replicate_succ, Array.replicate_zero, List.push_toArray, List.append_toArray, List.nil_append, List.cons_append]
  gi_wp2
  obtain ⟨W1, hW1⟩ : ∃ W1, ((w0.alloc (.cells #[.int .i64 (sl.length : Nat)] 3)).alloc (.cells #[.slice none 0 0] 22)).alloc (.cells #[.slice none 0 0] 22) = W1 := ⟨_, rfl⟩
  have hb1 : Below w0.heap.size w0 W1 := by rw [← hW1]; exact (((Below.refl _ w0).alloc (Nat.le_refl _) _).alloc (by simp) _).alloc (by simp; omega) _
  have hsz1 : W1.heap.size = w0.heap.size + 3 := by rw [← hW1]; simp
  have h0 : ∀ M, IH w0 W1.heap.size w0.heap.size sl.length M [] W1 := by
    intro M
    refine ⟨hb1, ?_, ?_, .slice none 0 0, [], ?_, World.ownsRow_nil _ _ _ _, ⟨fun j x h => by simp at h, fun i j x y h => by simp at h⟩⟩
    · rw [← hW1]
      exact (Below.heap_alloc _ _ _ (by simp; omega)).trans ((Below.heap_alloc _ _ _ (by simp)).trans (World.alloc_heap_new _ _))
    · rw [← hW1]
      refine (Below.heap_alloc _ _ _ (by simp)).trans ?_
      have := World.alloc_heap_new (w0.alloc (.cells #[.int .i64 (sl.length : Nat)] 3)) (.cells #[.slice none 0 0] 22)
      rwa [World.size_alloc] at this
    · rw [← hW1]
      have := World.alloc_heap_new ((w0.alloc (.cells #[.int .i64 (sl.length : Nat)] 3)).alloc (.cells #[.slice none 0 0] 22)) (.cells #[.slice none 0 0] 22)
      rwa [World.size_alloc, World.size_alloc] at this
  rw [hW1]
  clear hW1
  refine wpIn_rangeR rfl (by decide) (gf := 28) (lb := #[.pointer (some ⟨g, 0, none⟩)]) rfl trivial (enters_of Tryd.func28 (by kernel_rfl) rfl) (HSEQ.out W1 hb1) (fun _ => rfl)
    (fun M pre W => IH w0 W1.heap.size w0.heap.size sl.length M pre W)
    (fun _ _ _ => False)
    (fun pre x a' W => ∃ bx, a' = { tmps := #[.func (.func 28) #[] #[.pointer (some ⟨g, 0, none⟩)], .int .i64 (sl.length : Nat), undef, .pointer (some ⟨w0.heap.size, 0, none⟩), .pointer (some ⟨w0.heap.size + 1, 0, none⟩), .pointer (some ⟨w0.heap.size + 1 + 1, 0, none⟩), .pointer (some ⟨bx, 0, none⟩), .func (.func 28) #[] #[.pointer (some ⟨g, 0, none⟩)], .agg #[.bool x.1.f0, x.2], undef, undef, undef, undef, undef, undef, undef, undef, undef, undef], defers := [] } ∧ W1.heap.size ≤ bx ∧ Bv W bx x.1 x.2 ∧ RdS sl W1.heap.size pre x W)
    ?hI (fun _ _ _ _ h _ => h) ?hAx h0 ?assign ?body ?done ?stop
  case hI => exact fun M s A B h k => h.keep (by omega) k
  case hAx => exact fun pre x a' A B ⟨bx, h1, h2, h3, h4⟩ k => ⟨bx, h1, h2, h3.keep k, h4.1, RI_keepC h4.2.1 k, h4.2.2⟩
  case assign =>
    rintro l M pre ⟨x, xv⟩ A K hN hM hi ⟨hge, hR, hsp⟩ hK
    obtain ⟨Av, cv, ev⟩ := Kd.R_slice hR
    dsimp only at ev
    subst ev
    have HK := Aside0.mk hK
    have HR := Aside0.mk hR
    have HI := Aside0.mk hi
    have HSP := Aside0.mk hsp
    clear hR hi hK hsp
    rw [fold_one]
    simp only [List.setIfInBounds_toArray, List.set]
    gi_wp2
    have hbw : Below A.heap.size A (A.alloc (.cells #[.bool x.f0, .slice Av x.f1.length cv] 47)) := (Below.refl _ A).alloc (Nat.le_refl _) _
    exact HK.out _ _ (RW.below hbw) (HI.out.keep (N := W1.heap.size) (by omega) (KeepC.below hbw)) ⟨A.heap.size, rfl, hN, World.alloc_heap_new _ _, hge, Kd.R_below HR.out hbw, HSP.out⟩
  case body =>
    rintro l M pre ⟨x, xv⟩ a' A hN hM hi ⟨bx, rfl, hbx, hv, hge, hR, hsp⟩
    obtain ⟨Av, cv, ev⟩ := Kd.R_slice hR
    dsimp only at ev
    subst ev
    dsimp only at hv hge hR
    have hlt : pre.length < sl.length := (List.getElem?_eq_some_iff.1 hge).1
    obtain ⟨ov, X, q1, q2, q3⟩ := hi.got
    obtain ⟨Ao, co, rfl⟩ := own_slice q2
    have z0 : A.cell? ⟨bx, 0, none⟩ = some (.bool x.f0) := (blk_cell hv 0).trans rfl
    have z1 : A.cell? ⟨bx, 1, none⟩ = some (.slice Av x.f1.length cv) := (blk_cell hv 1).trans rfl
    have k3 := hi.most.cell
    have k5 := q1.cell
    have f5 := blk_frozen q1 0
    have HR := Aside0.mk hR
    have HI := Aside0.mk hi
    have HQ1 := Aside0.mk q1
    have HQ2 := Aside0.mk q2
    have HQ3 := Aside0.mk q3
    have HSP := Aside0.mk hsp
    have hmx := HMX.out
    have hd0 : ((pre.length : Int) == (sl.length : Int)) = false := by
      rw [beq_eq_false_iff_ne]
      omega
    clear hR hi hv q1 q2 q3 hsp
    obtain ⟨i0, hi0, hz0, hz1, hz2⟩ := info_parts info47S
    have hcn : ∀ (j : Nat) (u : Value), [Value.bool x.f0, Value.slice Av x.f1.length cv][j]? = some u → (A.alloc (.cells #[.bool x.f0, .slice Av x.f1.length cv] 47)).cell? ((⟨A.heap.size, 0, none⟩ : Addr).add j) = some u := fun j u hu => news_cell (cs := [.bool x.f0, .slice Av x.f1.length cv]) j u hu
    have HCN := Aside0.mk hcn
    have hoa := own_below HQ2.out (alloc_below A (.cells #[.bool x.f0, .slice Av x.f1.length cv] 47))
    have HOA := Aside0.mk hoa
    have HSZ := Aside0.mk hsz1
    clear hcn hoa hsz1
    gi_wp2_with (gi_at_builtin; refine wpListIn_append_own _ rfl _ _ 22 rfl (max W1.heap.size M) 47 i0 (.agg #[.bool false, .slice none 0 0]) 2 32 Tryd.underlying22 hi0 hz0 hz1 hz2 rfl (by decide) _ _ _ rfl HOA.out ⟨A.heap.size, 0, none⟩ 1 1 [.bool x.f0, .slice Av x.f1.length cv] rfl rfl HCN.out (by intro u hu; simp only [List.mem_cons, List.not_mem_nil, or_false] at hu; rcases hu with rfl | rfl <;> rfl) (by unfold maxLen; omega) (by omega) (by rw [World.size_alloc]; omega) ?_; intro ov' w2 ho2 hg2 _; obtain ⟨A2, c2, rfl⟩ := own_slice ho2; have hg3 := grown_alloc hg2; have hq5 : w2.cell? ⟨w0.heap.size + 1 + 1, 0, none⟩ = some (.slice Ao pre.length co) := (HQ1.out.grown HQ2.out hg3 (by decide)).cell; have hf5 : w2.frozen? ⟨w0.heap.size + 1 + 1, 0, none⟩ = false := blk_frozen (HQ1.out.grown HQ2.out hg3 (by decide)) 0)
    have hsz1 := HSZ.out
    refine ⟨(RW.grown HQ2.out (by omega) hg3).trans (RW.set (.inl (by show w0.heap.size + 1 + 1 < W1.heap.size; omega))), ?_⟩
    exact HI.out.next (x := (x, .slice Av x.f1.length cv)) (by omega) (Nat.le_refl _) (by omega) HQ1.out HQ2.out HQ3.out HR.out HSP.out hg3 ho2
  case done =>
    rintro D M xs A hD hS hI hK
    have hxl : xs.length = sl.length := by rw [← hS]; simp
    obtain ⟨ov, X, q1, q2, q3⟩ := hI.got
    rw [hxl] at q2
    obtain ⟨Ao, co, rfl⟩ := own_slice q2
    have k4 := hI.res.cell
    have k5 := q1.cell
    have f4 := blk_frozen hI.res 0
    have HK := Aside0.mk hK
    have HI := Aside0.mk hI
    have HQ1 := Aside0.mk q1
    have HQ2 := Aside0.mk q2
    have HQ3 := Aside0.mk q3
    have HS := Aside0.mk hS
    have hmx := HMX.out
    clear hS hI hK q1 q2 q3
    gi_wp2
    have hK2 : (A.setCell ⟨w0.heap.size + 1, 0, none⟩ (.slice Ao sl.length co)).heap[D]? = some (.deferred (some [])) := (Below.heap_setCell A _ _ D (by show D ≠ w0.heap.size + 1; omega)).trans HK.out
    refine ⟨by simp, .inl ⟨_, _, rfl, run_takeDeferred hK2, ?_⟩⟩
    have hres : ((A.setCell ⟨w0.heap.size + 1, 0, none⟩ (.slice Ao sl.length co)).putObj D (.deferred none)).heap[w0.heap.size + 1]? = some (.cells #[.slice Ao sl.length co] 22 (0, 0)) :=
      (World.putObj_heap_other (by omega)).trans (blk_set HI.out.res 0 _)
    have hc := (blk_cell hres 0).trans rfl
    have hkc := KeepC.put hK2 rfl hD (.deferred none)
    refine ⟨.slice Ao sl.length co, ?_, Ao, co, X, rfl, ?_, below_keep (N := W1.heap.size) (Nat.le_refl _) (by omega) (HI.out.below.setCell (by show w0.heap.size ≤ w0.heap.size + 1; omega) _) hkc⟩
    · simp [results, Tryd.results13, go_sem, hc]
    · have hx47 : A.ownsRow w0.heap.size 47 2 (.slice Ao sl.length co) sl.length X := own_low HQ2.out (by omega)
      have hfar : ∀ k, k ≠ w0.heap.size + 1 → (A.setCell ⟨w0.heap.size + 1, 0, none⟩ (.slice Ao sl.length co)).heap[k]? = A.heap[k]? := fun k hk => Below.heap_setCell A _ _ k hk
      have hY := own_keepC (own_keep HQ2.out fun k hk => hfar k (by have := (own_lt HQ2.out k hk).1; omega)) hkc
      have hZ : HL W1.heap.size X xs ((A.setCell ⟨w0.heap.size + 1, 0, none⟩ (.slice Ao sl.length co)).putObj D (.deferred none)) := (HQ3.out.map fun hr => RI_keep hr fun k hk => hfar k (by have := Kd.R_base hr k hk; omega)).map fun hr => RI_keepC hr hkc
      generalize (A.setCell ⟨w0.heap.size + 1, 0, none⟩ (.slice Ao sl.length co)).putObj D (.deferred none) = w' at hY hZ ⊢
      have hat : ∀ (j : Nat) (y : S47), sl[j]? = some y → ∃ x, xs[j]? = some x ∧ x.1 = y := fun j y hy => by
        rw [← HS.out, List.getElem?_map] at hy
        obtain ⟨x, h1, h2⟩ := Option.map_eq_some_iff.1 hy
        exact ⟨x, h1, h2⟩
      refine ⟨rfl, own_low hY (by omega), fun k hk => (own_lt hY k hk).2, fun j y hy => ?_, fun i j u u' hu hu' hij b hb1 hb2 => ?_⟩
      · obtain ⟨x, hx, rfl⟩ := hat j y hy
        obtain ⟨h1, h2, h3⟩ := hZ.cell j x hx
        obtain ⟨Ax, cx, ex⟩ := Kd.R_slice h3
        rw [ex] at h2 h3
        exact ⟨Ax, cx, h1, h2, Kd.R_lower (Kd.R_mono (Kd.R_bound h3) fun k hk => hk.2.2.1) (by omega)⟩
      · obtain ⟨hi, rfl⟩ := fieldsN_at.1 hu
        obtain ⟨hj, rfl⟩ := fieldsN_at.1 hu'
        obtain ⟨x, hx, _⟩ := hat i _ (List.getElem?_eq_getElem hi)
        obtain ⟨y, hy, _⟩ := hat j _ (List.getElem?_eq_getElem hj)
        rw [List.getD_eq_getElem?_getD, (hZ.cell i x hx).2.1] at hb1
        rw [List.getD_eq_getElem?_getD, (hZ.cell j y hy).2.1] at hb2
        exact hZ.sep i j x y hx hy hij b hb1 hb2
  case stop => exact fun _ _ _ _ _ _ h _ => h.elim
end Go.Proofs.YtnaafhkenbnliaaDoor.KP
