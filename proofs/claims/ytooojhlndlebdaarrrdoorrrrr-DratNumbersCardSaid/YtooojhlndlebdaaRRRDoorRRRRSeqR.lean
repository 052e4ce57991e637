/- A range over a function whose iterator hands over memory: what each side promises, and the statement's law over it. No conditions. -/
import Derived.RangeFuncNested
import Derived.RangeFuncCalls
import Derived.RangeFuncLeaves
set_option linter.unusedVariables false
set_option linter.unusedSimpArgs false
namespace Go.Proofs.YtooojhlndlebdaaRRRDoorRRRR.Q
open Go Go.RowKit

variable {F : Fence} {n : Nat} {P : Program}
/-- Whatever lay below N, and all cells, lie as they lay. -/
structure KeepC (N : Nat) (A B : World) : Prop where
  os : B.os = A.os
  tape : B.tape = A.tape
  output : B.output = A.output
  size : A.heap.size ≤ B.heap.size
  same : ∀ (k : Nat) (o : Obj), A.heap[k]? = some o → (k < N ∨ o.isCells = true) → B.heap[k]? = some o
theorem KeepC.refl (N : Nat) (A : World) : KeepC N A A := ⟨rfl, rfl, rfl, Nat.le_refl _, fun _ _ h _ => h⟩
theorem KeepC.trans {N : Nat} {A B C : World} (h : KeepC N A B) (k : KeepC N B C) : KeepC N A C :=
  ⟨k.os.trans h.os, k.tape.trans h.tape, k.output.trans h.output, Nat.le_trans h.size k.size, fun i o hi ho => k.same i o (h.same i o hi ho) ho⟩
theorem KeepC.below {N : Nat} {A B : World} (h : Below A.heap.size A B) : KeepC N A B :=
  ⟨h.os, h.tape, h.output, h.size, fun k o hk _ => (h.block k (Array.getElem?_eq_some_iff.1 hk).1).trans hk⟩
theorem KeepC.put {N : Nat} {A : World} {l : Nat} {o : Obj} (hl : A.heap[l]? = some o) (hc : o.isCells = false) (hN : N ≤ l) (o' : Obj) : KeepC N A (A.putObj l o') :=
  ⟨rfl, rfl, rfl, by simp, fun k q hk hq => by
    have hne : k ≠ l := by
      rintro rfl
      rw [hl] at hk
      injection hk with hk
      subst hk
      rcases hq with h | h
      · omega
      · rw [hc] at h; cases h
    exact (World.putObj_heap_other hne).trans hk⟩
/-- What is so stays so. -/
def KC (N : Nat) (I : World → Prop) : Prop := ∀ A B, I A → KeepC N A B → I B
/-- A round's word: cells from N on, but for one block, lie as they lay; so does all that is no cells. -/
structure RW (N : Nat) (own : Option Nat) (A B : World) : Prop where
  size : A.heap.size ≤ B.heap.size
  cells : ∀ (k : Nat) (o : Obj), N ≤ k → A.heap[k]? = some o → o.isCells = true → some k ≠ own → B.heap[k]? = some o
  others : ∀ (k : Nat) (o : Obj), A.heap[k]? = some o → o.isCells = false → B.heap[k]? = some o
theorem RW.refl (N : Nat) (own : Option Nat) (A : World) : RW N own A A := ⟨Nat.le_refl _, fun _ _ _ h _ _ => h, fun _ _ h _ => h⟩
theorem RW.trans {N : Nat} {own : Option Nat} {A B C : World} (h : RW N own A B) (k : RW N own B C) : RW N own A C :=
  ⟨Nat.le_trans h.size k.size, fun i o hN hi hc ho => k.cells i o hN (h.cells i o hN hi hc ho) hc ho, fun i o hi hc => k.others i o (h.others i o hi hc) hc⟩
theorem RW.below {N : Nat} {own : Option Nat} {A B : World} (h : Below A.heap.size A B) : RW N own A B :=
  ⟨h.size, fun k o _ hk _ _ => (h.block k (Array.getElem?_eq_some_iff.1 hk).1).trans hk, fun k o hk _ => (h.block k (Array.getElem?_eq_some_iff.1 hk).1).trans hk⟩
/-- A store into a cell's block. -/
theorem RW.set {N : Nat} {own : Option Nat} {A : World} {p : Addr} {v : Value} (h : p.block < N ∨ some p.block = own) : RW N own A (A.setCell p v) := by
  have hk := KeepsOthers.setCell A p v
  refine ⟨hk.size, fun k o hN hko _ ho => ?_, hk.same⟩
  refine (Below.heap_setCell A p v k ?_).trans hko
  rintro rfl
  rcases h with h | h
  · omega
  · exact ho h
/-- The iterator's contract: at each call of yield it hands over x, of which Rd tells; a round that goes on keeps RW. -/
def SeqR {α : Type} (F : Fence) (n : Nat) (P : Program) (g : Nat) (lb : Array Value) (encs : α → Array Value) (Rd : Nat → List α → α → World → Prop) (ow : α → Option Nat) (S Sp : List α → Prop) (w : World) : Prop :=
  ∀ (l : Nat) (J Jx : List α → World → Prop) (W : World) (n₀ : Nat), Below w.heap.size w W → n₀ ≤ W.heap.size →
    (∀ s A B, J s A → Below A.heap.size A B → J s B) → (∀ s A B, Jx s A → Below A.heap.size A B → Jx s B) →
    (∀ pre x W', J pre W' → Rd n₀ pre x W' → YieldAt F (n - 1) P l (encs x) W' fun e W'' => (e = .returned (.bool true) ∧ J (pre ++ [x]) W'' ∧ RW n₀ (ow x) W' W'') ∨ (e = .returned (.bool false) ∧ Jx (pre ++ [x]) W'')) →
    J [] W → CallsIn F n P g (#[.func (.yield l) #[] #[]] ++ lb) W fun e W' => (∃ v, e = .returned v) ∧ ((∃ xs, S xs ∧ J xs W') ∨ (∃ pre, Sp pre ∧ Jx pre W'))
/-- How a round's body may be left. -/
def postR {α : Type} (N : Nat) (own : Option Nat) (I : List α → World → Prop) (Ix : Code → List α → World → Prop) (xs : List α) (A : World) : Exit → Act → World → Prop
  | .normal, _, B => RW N own A B ∧ I xs B
  | .ret, _, B => RW N own A B ∧ Ix .ret xs B
  | .exit id, _, B => RW N own A B ∧ Ix (.exit id) xs B
  | _, _, _ => False
/-- The statement. -/
theorem wpIn_rangeR {α : Type} {g : Operand} {ps : Array Tmp} {assign body : Code} {Q : Exit → Act → World → Prop} {a : Act} {w : World}
    (hro : F.round = none) (h1 : 1 ≤ n) {gf : Nat} {lb : Array Value} (hg : a.eval g = .func (.func gf) #[] lb) (hFg : F.fn gf) (eg : ∀ args w, (callFunc gf args).run P w = .ok (.enter gf args) w)
    {encs : α → Array Value} {Rd : Nat → List α → α → World → Prop} {ow : α → Option Nat} {S Sp : List α → Prop} (hseq : SeqR F (n - 1) P gf lb encs Rd ow S Sp w) (hps : ∀ x, (encs x).size = ps.size)
    (I : List α → World → Prop) (Ix : Code → List α → World → Prop) (Ax : List α → α → Act → World → Prop) (hI : ∀ s, KC w.heap.size (I s)) (hIx : ∀ c s, KC w.heap.size (Ix c s)) (hAx : ∀ pre x a', KC w.heap.size (Ax pre x a')) (h0 : I [] w)
    (hassign : ∀ (l : Nat) (pre : List α) (x : α) (A : World) (K : Act → World → Prop), w.heap.size ≤ A.heap.size → I pre A → Rd w.heap.size pre x A → (∀ a' B, RW w.heap.size (ow x) A B → I pre B → Ax pre x a' B → K a' B) →
      assign.wpIn (F.inRound l) (n - 1 - 1) P (Exit.then K (fun _ _ _ => False)) { tmps := (ps.zip (encs x)).foldl (fun t (p, v) => t.setIfInBounds p v) a.tmps, defers := [] } A)
    (hbody : ∀ (l : Nat) (pre : List α) (x : α) (a' : Act) (A : World), w.heap.size ≤ A.heap.size → I pre A → Ax pre x a' A → body.wpIn (F.inRound l) (n - 1 - 1) P (postR w.heap.size (ow x) I Ix (pre ++ [x]) A) a' A)
    (hdone : ∀ (D : Nat) (xs : List α) (A : World), w.heap.size ≤ D → S xs → I xs A → A.heap[D]? = some (.deferred (some [])) → Q .normal { a with defers := { target := .collected D, args := #[] } :: a.defers } A)
    (hstop : ∀ (D : Nat) (c : Code) (pre : List α) (A : World), w.heap.size ≤ D → Sp pre → Ix c pre A → A.heap[D]? = some (.deferred (some [])) → c.wpIn F n P Q { a with defers := { target := .collected D, args := #[] } :: a.defers } A) :
    (Code.rangeFunc g ps assign body).wpIn F n P Q a w := by
  refine wpIn_rangeFunc ?_
  intro fn hfn
  rw [hro]
  -- the block for deferred calls (D), the record (L)
  let D := w.heap.size
  let L := w.heap.size + 1
  let rec_ : LoopState → Option Code → Loop := fun st pe => { state := st, pending := pe, fn, tmps := a.tmps, params := ps, assign, body, defers := D }
  obtain ⟨W1, hW1⟩ : ∃ W1, (w.alloc (.deferred (some []))).alloc (.loop (rec_ .ready none)) = W1 := ⟨_, rfl⟩
  have hB1 : Below w.heap.size w W1 := by rw [← hW1]; exact ((Below.refl _ w).alloc (Nat.le_refl _) _).alloc (by simp) _
  have hsz : W1.heap.size = w.heap.size + 2 := by rw [← hW1]; simp
  have hL1 : W1.heap[L]? = some (.loop (rec_ .ready none)) := by
    rw [← hW1]
    have := World.alloc_heap_new (w.alloc (.deferred (some []))) (.loop (rec_ .ready none))
    rwa [World.size_alloc] at this
  have hD1 : W1.heap[D]? = some (.deferred (some [])) := by
    rw [← hW1]
    exact (Below.heap_alloc _ _ _ (by simp [D])).trans (World.alloc_heap_new w _)
  -- book-keeping: the record and the block lie
  let Bk : LoopState → Option Code → World → Prop := fun st pe A => A.heap[L]? = some (.loop (rec_ st pe)) ∧ A.heap[D]? = some (.deferred (some []))
  have hBk : ∀ st pe (A B : World), Bk st pe A → Below A.heap.size A B → Bk st pe B := fun st pe A B h hb =>
    ⟨(hb.block _ (Array.getElem?_eq_some_iff.1 h.1).1).trans h.1, (hb.block _ (Array.getElem?_eq_some_iff.1 h.2).1).trans h.2⟩
  -- the record turned
  have turn : ∀ (st st' : LoopState) (pe pe' : Option Code) (A : World), Bk st pe A → Bk st' pe' (A.putObj L (.loop (rec_ st' pe'))) ∧ KeepC w.heap.size A (A.putObj L (.loop (rec_ st' pe'))) := fun st st' pe pe' A h =>
    ⟨⟨World.putObj_heap_same (Array.getElem?_eq_some_iff.1 h.1).1, (World.putObj_heap_other (by simp [D, L])).trans h.2⟩, KeepC.put h.1 rfl (by simp [L]) _⟩
  refine ⟨L, [{ target := .collected D, args := #[] }], W1, { target := .fn (.func gf) lb, args := #[.func (.yield L) #[] #[]] }, W1, gf, #[.func (.yield L) #[] #[]] ++ lb, W1, ?_, ?_, ?_, ?_, fun _ => h1, ?_⟩
  · rw [← hW1]; exact run_enterLoop_outer _ _ _ _ _
  · simp only [resolve, hg]
    simp [go_sem]
  · intro f' hf'
    simp [Target.leads] at hf'
    subst hf'
    exact hFg
  · simp [invoke, go_sem, eg]
  refine (hseq L (fun s A => I s A ∧ Bk .ready none A ∧ w.heap.size ≤ A.heap.size) (fun s A => ∃ c, Ix c s A ∧ Bk .done (some c) A ∧ w.heap.size ≤ A.heap.size) W1 w.heap.size hB1 (by omega)
    (fun s A B h hb => ⟨hI s A B h.1 (KeepC.below hb), hBk _ _ A B h.2.1 hb, Nat.le_trans h.2.2 hb.size⟩)
    (fun s A B h hb => by obtain ⟨c, h1, h2, h3⟩ := h; exact ⟨c, hIx c s A B h1 (KeepC.below hb), hBk _ _ A B h2 hb, Nat.le_trans h3 hb.size⟩) ?_ ⟨hI [] w W1 h0 (KeepC.below hB1), ⟨hL1, hD1⟩, by omega⟩).mono ?_
  · -- one round
    rintro pre x A ⟨hi, hbk, hsA⟩ hrd
    refine ⟨fn, _, assign, body, run_yield (P := P) (args := encs x) hbk.1 (hps x), roundIn_of_wpIn hfn ?_⟩
    refine hassign L pre x A _ hsA hi hrd ?_
    intro a' B hrw hiB hax
    have hbB : Bk .ready none B := ⟨hrw.others _ _ hbk.1 rfl, hrw.others _ _ hbk.2 rfl⟩
    refine ⟨_, run_beginRound hbB.1 rfl, ?_⟩
    obtain ⟨hbC, hkC⟩ := turn .ready .busy none none B hbB
    have hsC : w.heap.size ≤ (B.putObj L (.loop (rec_ .busy none))).heap.size := Nat.le_trans hsA (Nat.le_trans hrw.size hkC.size)
    have rwput : ∀ (X : World) (st st' : LoopState) (pe pe' : Option Code), Bk st pe X → ∀ (k : Nat) (o : Obj), X.heap[k]? = some o → o.isCells = true → (X.putObj L (.loop (rec_ st' pe'))).heap[k]? = some o := fun X st st' pe pe' h k o hk hc =>
      (KeepC.put (N := w.heap.size) h.1 rfl (by simp [L]) (.loop (rec_ st' pe'))).same k o hk (.inr hc)
    refine wpIn_mono (hbody L pre x a' _ hsC (hI _ _ _ hiB hkC) (hAx _ _ _ _ _ hax hkC)) ?_
    rintro e a3 C hp
    have fin : ∀ (jump : Option Code), RW w.heap.size (ow x) (B.putObj L (.loop (rec_ .busy none))) C →
        (Instr.endRound L jump).run P C = .ok (.bool jump.isNone) (C.putObj L (.loop (rec_ (if jump.isNone then .ready else .done) jump))) ∧ Bk .busy none C := fun jump hr => by
      have hbC' : Bk .busy none C := ⟨hr.others _ _ hbC.1 rfl, hr.others _ _ hbC.2 rfl⟩
      exact ⟨run_endRound (P := P) jump hbC'.1, hbC'⟩
    cases e with
    | normal =>
      obtain ⟨hr, hi3⟩ := hp
      obtain ⟨hrun, hbC'⟩ := fin none hr
      obtain ⟨hbE, hkE⟩ := turn .busy .ready none none C hbC'
      refine ⟨_, _, hrun, .inl ⟨rfl, ⟨hI _ _ _ hi3 hkE, hbE, Nat.le_trans hsC (Nat.le_trans hr.size hkE.size)⟩, ?_⟩⟩
      refine ⟨Nat.le_trans hrw.size (Nat.le_trans hkC.size (Nat.le_trans hr.size hkE.size)), fun k o hN hk hc ho => ?_, fun k o hk hc => ?_⟩
      · exact rwput C _ _ none none hbC' k o (hr.cells k o hN (rwput B _ _ none none hbB k o (hrw.cells k o hN hk hc ho) hc) hc ho) hc
      · by_cases hkL : k = L
        · subst hkL
          have e : o = .loop (rec_ .ready none) := by
            have := hk.symm.trans hbk.1
            injection this
          rw [e]
          exact hbE.1
        · have h1 := hrw.others k o hk hc
          have h2 : (B.putObj L (.loop (rec_ .busy none))).heap[k]? = some o := (World.putObj_heap_other hkL).trans h1
          exact (World.putObj_heap_other hkL).trans (hr.others k o h2 hc)
    | ret =>
      obtain ⟨hr, hi3⟩ := hp
      obtain ⟨hrun, hbC'⟩ := fin (some .ret) hr
      obtain ⟨hbE, hkE⟩ := turn .busy .done none (some .ret) C hbC'
      exact ⟨_, _, hrun, .inr ⟨rfl, .ret, hIx _ _ _ _ hi3 hkE, hbE, Nat.le_trans hsC (Nat.le_trans hr.size hkE.size)⟩⟩
    | exit id =>
      obtain ⟨hr, hi3⟩ := hp
      obtain ⟨hrun, hbC'⟩ := fin (some (.exit id)) hr
      obtain ⟨hbE, hkE⟩ := turn .busy .done none (some (.exit id)) C hbC'
      exact ⟨_, _, hrun, .inr ⟨rfl, .exit id, hIx _ _ _ _ hi3 hkE, hbE, Nat.le_trans hsC (Nat.le_trans hr.size hkE.size)⟩⟩
    | goto t => exact hp.elim
    | panic ch => exact hp.elim
    | outgrown => exact hp.elim
  · -- behind the iterator
    rintro e A ⟨⟨v, rfl⟩, (⟨xs, hS, hi, hbk, hs⟩ | ⟨pre, hSp, c, hi, hbk, hs⟩)⟩
    · obtain ⟨hbE, hkE⟩ := turn .ready .exhausted none none A hbk
      exact ⟨none, _, run_endLoop (P := P) hbk.1 (by simp [rec_]), hdone D xs _ (Nat.le_refl _) hS (hI _ _ _ hi hkE) hbE.2⟩
    · obtain ⟨hbE, hkE⟩ := turn .done .exhausted (some c) (some c) A hbk
      exact ⟨some c, _, run_endLoop (P := P) hbk.1 (by simp [rec_]), hstop D c pre _ (Nat.le_refl _) hSp (hIx _ _ _ _ hi hkE) hbE.2⟩
end Go.Proofs.YtooojhlndlebdaaRRRDoorRRRR.Q
