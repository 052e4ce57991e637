/- A range over a function whose iterator hands over memory: what each side promises, and the statement's law over it. No conditions. A quiet region inside a round: the kit's theorem without its premise on rounds, for regions that hold no defer statement. No conditions. drat.Steps: what its iterator hands over: the steps that are read, one by one, each in memory of its own. No conditions. depotlaw09.gives over drat.Steps' iterator. No conditions. DratNumbers: the law's call. No conditions. -/
import Derived.RangeFuncNested
import Derived.RangeFuncCalls
import Derived.RangeFuncLeaves
import Derived.Sort.QuietThIn
import Derived.TacticsIn
import Derived.Test.YtooojhlndlebdaaRRRDoorRRRRReadR
import Derived.Shelf.Abstract
import Derived.Shelf.RegionOpen
import Derived.OwnWalkIn
import Derived.TacticsInMore
import Derived.LoopNIn
import Derived.LoopIn
import Derived.Sort.BigQuietIn
import Derived.Test.YtooojhlndlebdaaRRRDoorRRRRWriteR
import Derived.KernelRfl
section
set_option linter.unusedVariables false
set_option linter.unusedSimpArgs false
namespace Go.Proofs.YtooojhlndlebdaaRRRDoorRRRR.Q
open Go Go.RowKit

variable {F : Fence} {n : Nat} {P : Program}
/-- Whatever lay below N, and all cells, lie as they lay. -/
structure KeepC (N : Nat) (A B : World) : Prop where
  os : B.os = A.os
  tape : B.tape = A.tape
  output : B.output = A.output
  size : A.heap.size ≤ B.heap.size
  same : ∀ (k : Nat) (o : Obj), A.heap[k]? = some o → (k < N ∨ o.isCells = true) → B.heap[k]? = some o
theorem KeepC.refl (N : Nat) (A : World) : KeepC N A A := ⟨rfl, rfl, rfl, Nat.le_refl _, fun _ _ h _ => h⟩
theorem KeepC.trans {N : Nat} {A B C : World} (h : KeepC N A B) (k : KeepC N B C) : KeepC N A C :=
  ⟨k.os.trans h.os, k.tape.trans h.tape, k.output.trans h.output, Nat.le_trans h.size k.size, fun i o hi ho => k.same i o (h.same i o hi ho) ho⟩
theorem KeepC.below {N : Nat} {A B : World} (h : Below A.heap.size A B) : KeepC N A B :=
  ⟨h.os, h.tape, h.output, h.size, fun k o hk _ => (h.block k (Array.getElem?_eq_some_iff.1 hk).1).trans hk⟩
theorem KeepC.put {N : Nat} {A : World} {l : Nat} {o : Obj} (hl : A.heap[l]? = some o) (hc : o.isCells = false) (hN : N ≤ l) (o' : Obj) : KeepC N A (A.putObj l o') :=
  ⟨rfl, rfl, rfl, by simp, fun k q hk hq => by
    have hne : k ≠ l := by
      rintro rfl
      rw [hl] at hk
      injection hk with hk
      subst hk
      rcases hq with h | h
      · omega
      · rw [hc] at h; cases h
    exact (World.putObj_heap_other hne).trans hk⟩
/-- What is so stays so. -/
def KC (N : Nat) (I : World → Prop) : Prop := ∀ A B, I A → KeepC N A B → I B
/-- A round's word: cells from N on, but for one block, lie as they lay; so does all that is no cells. -/
structure RW (N : Nat) (own : Option Nat) (A B : World) : Prop where
  size : A.heap.size ≤ B.heap.size
  cells : ∀ (k : Nat) (o : Obj), N ≤ k → A.heap[k]? = some o → o.isCells = true → some k ≠ own → B.heap[k]? = some o
  others : ∀ (k : Nat) (o : Obj), A.heap[k]? = some o → o.isCells = false → B.heap[k]? = some o
theorem RW.refl (N : Nat) (own : Option Nat) (A : World) : RW N own A A := ⟨Nat.le_refl _, fun _ _ _ h _ _ => h, fun _ _ h _ => h⟩
theorem RW.trans {N : Nat} {own : Option Nat} {A B C : World} (h : RW N own A B) (k : RW N own B C) : RW N own A C :=
  ⟨Nat.le_trans h.size k.size, fun i o hN hi hc ho => k.cells i o hN (h.cells i o hN hi hc ho) hc ho, fun i o hi hc => k.others i o (h.others i o hi hc) hc⟩
theorem RW.below {N : Nat} {own : Option Nat} {A B : World} (h : Below A.heap.size A B) : RW N own A B :=
  ⟨h.size, fun k o _ hk _ _ => (h.block k (Array.getElem?_eq_some_iff.1 hk).1).trans hk, fun k o hk _ => (h.block k (Array.getElem?_eq_some_iff.1 hk).1).trans hk⟩
/-- A store into a cell's block. -/
theorem RW.set {N : Nat} {own : Option Nat} {A : World} {p : Addr} {v : Value} (h : p.block < N ∨ some p.block = own) : RW N own A (A.setCell p v) := by
  have hk := KeepsOthers.setCell A p v
  refine ⟨hk.size, fun k o hN hko _ ho => ?_, hk.same⟩
  refine (Below.heap_setCell A p v k ?_).trans hko
  rintro rfl
  rcases h with h | h
  · omega
  · exact ho h
/-- The iterator's contract: at each call of yield it hands over x, of which Rd tells; a round that goes on keeps RW. -/
def SeqR {α : Type} (F : Fence) (n : Nat) (P : Program) (g : Nat) (lb : Array Value) (encs : α → Array Value) (Rd : Nat → List α → α → World → Prop) (ow : α → Option Nat) (S Sp : List α → Prop) (w : World) : Prop :=
  ∀ (l : Nat) (J Jx : List α → World → Prop) (W : World) (n₀ : Nat), Below w.heap.size w W → n₀ ≤ W.heap.size →
    (∀ s A B, J s A → Below A.heap.size A B → J s B) → (∀ s A B, Jx s A → Below A.heap.size A B → Jx s B) →
    (∀ pre x W', J pre W' → Rd n₀ pre x W' → YieldAt F (n - 1) P l (encs x) W' fun e W'' => (e = .returned (.bool true) ∧ J (pre ++ [x]) W'' ∧ RW n₀ (ow x) W' W'') ∨ (e = .returned (.bool false) ∧ Jx (pre ++ [x]) W'')) →
    J [] W → CallsIn F n P g (#[.func (.yield l) #[] #[]] ++ lb) W fun e W' => (∃ v, e = .returned v) ∧ ((∃ xs, S xs ∧ J xs W') ∨ (∃ pre, Sp pre ∧ Jx pre W'))
/-- How a round's body may be left. -/
def postR {α : Type} (N : Nat) (own : Option Nat) (I : List α → World → Prop) (Ix : Code → List α → World → Prop) (xs : List α) (A : World) : Exit → Act → World → Prop
  | .normal, _, B => RW N own A B ∧ I xs B
  | .ret, _, B => RW N own A B ∧ Ix .ret xs B
  | .exit id, _, B => RW N own A B ∧ Ix (.exit id) xs B
  | _, _, _ => False
/-- The statement. -/
theorem wpIn_rangeR {α : Type} {g : Operand} {ps : Array Tmp} {assign body : Code} {Q : Exit → Act → World → Prop} {a : Act} {w : World}
    (hro : F.round = none) (h1 : 1 ≤ n) {gf : Nat} {lb : Array Value} (hg : a.eval g = .func (.func gf) #[] lb) (hFg : F.fn gf) (eg : ∀ args w, (callFunc gf args).run P w = .ok (.enter gf args) w)
    {encs : α → Array Value} {Rd : Nat → List α → α → World → Prop} {ow : α → Option Nat} {S Sp : List α → Prop} (hseq : SeqR F (n - 1) P gf lb encs Rd ow S Sp w) (hps : ∀ x, (encs x).size = ps.size)
    (I : List α → World → Prop) (Ix : Code → List α → World → Prop) (Ax : List α → α → Act → World → Prop) (hI : ∀ s, KC w.heap.size (I s)) (hIx : ∀ c s, KC w.heap.size (Ix c s)) (hAx : ∀ pre x a', KC w.heap.size (Ax pre x a')) (h0 : I [] w)
    (hassign : ∀ (l : Nat) (pre : List α) (x : α) (A : World) (K : Act → World → Prop), w.heap.size ≤ A.heap.size → I pre A → Rd w.heap.size pre x A → (∀ a' B, RW w.heap.size (ow x) A B → I pre B → Ax pre x a' B → K a' B) →
      assign.wpIn (F.inRound l) (n - 1 - 1) P (Exit.then K (fun _ _ _ => False)) { tmps := (ps.zip (encs x)).foldl (fun t (p, v) => t.setIfInBounds p v) a.tmps, defers := [] } A)
    (hbody : ∀ (l : Nat) (pre : List α) (x : α) (a' : Act) (A : World), w.heap.size ≤ A.heap.size → I pre A → Ax pre x a' A → body.wpIn (F.inRound l) (n - 1 - 1) P (postR w.heap.size (ow x) I Ix (pre ++ [x]) A) a' A)
    (hdone : ∀ (D : Nat) (xs : List α) (A : World), w.heap.size ≤ D → S xs → I xs A → A.heap[D]? = some (.deferred (some [])) → Q .normal { a with defers := { target := .collected D, args := #[] } :: a.defers } A)
    (hstop : ∀ (D : Nat) (c : Code) (pre : List α) (A : World), w.heap.size ≤ D → Sp pre → Ix c pre A → A.heap[D]? = some (.deferred (some [])) → c.wpIn F n P Q { a with defers := { target := .collected D, args := #[] } :: a.defers } A) :
    (Code.rangeFunc g ps assign body).wpIn F n P Q a w := by
  refine wpIn_rangeFunc ?_
  intro fn hfn
  rw [hro]
  -- the block for deferred calls (D), the record (L)
  let D := w.heap.size
  let L := w.heap.size + 1
  let rec_ : LoopState → Option Code → Loop := fun st pe => { state := st, pending := pe, fn, tmps := a.tmps, params := ps, assign, body, defers := D }
  obtain ⟨W1, hW1⟩ : ∃ W1, (w.alloc (.deferred (some []))).alloc (.loop (rec_ .ready none)) = W1 := ⟨_, rfl⟩
  have hB1 : Below w.heap.size w W1 := by rw [← hW1]; exact ((Below.refl _ w).alloc (Nat.le_refl _) _).alloc (by simp) _
  have hsz : W1.heap.size = w.heap.size + 2 := by rw [← hW1]; simp
  have hL1 : W1.heap[L]? = some (.loop (rec_ .ready none)) := by
    rw [← hW1]
    have := World.alloc_heap_new (w.alloc (.deferred (some []))) (.loop (rec_ .ready none))
    rwa [World.size_alloc] at this
  have hD1 : W1.heap[D]? = some (.deferred (some [])) := by
    rw [← hW1]
    exact (Below.heap_alloc _ _ _ (by simp [D])).trans (World.alloc_heap_new w _)
  -- book-keeping: the record and the block lie
  let Bk : LoopState → Option Code → World → Prop := fun st pe A => A.heap[L]? = some (.loop (rec_ st pe)) ∧ A.heap[D]? = some (.deferred (some []))
  have hBk : ∀ st pe (A B : World), Bk st pe A → Below A.heap.size A B → Bk st pe B := fun st pe A B h hb =>
    ⟨(hb.block _ (Array.getElem?_eq_some_iff.1 h.1).1).trans h.1, (hb.block _ (Array.getElem?_eq_some_iff.1 h.2).1).trans h.2⟩
  -- the record turned
  have turn : ∀ (st st' : LoopState) (pe pe' : Option Code) (A : World), Bk st pe A → Bk st' pe' (A.putObj L (.loop (rec_ st' pe'))) ∧ KeepC w.heap.size A (A.putObj L (.loop (rec_ st' pe'))) := fun st st' pe pe' A h =>
    ⟨⟨World.putObj_heap_same (Array.getElem?_eq_some_iff.1 h.1).1, (World.putObj_heap_other (by simp [D, L])).trans h.2⟩, KeepC.put h.1 rfl (by simp [L]) _⟩
  refine ⟨L, [{ target := .collected D, args := #[] }], W1, { target := .fn (.func gf) lb, args := #[.func (.yield L) #[] #[]] }, W1, gf, #[.func (.yield L) #[] #[]] ++ lb, W1, ?_, ?_, ?_, ?_, fun _ => h1, ?_⟩
  · rw [← hW1]; exact run_enterLoop_outer _ _ _ _ _
  · simp only [resolve, hg]
    simp [go_sem]
  · intro f' hf'
    simp [Target.leads] at hf'
    subst hf'
    exact hFg
  · simp [invoke, go_sem, eg]
  refine (hseq L (fun s A => I s A ∧ Bk .ready none A ∧ w.heap.size ≤ A.heap.size) (fun s A => ∃ c, Ix c s A ∧ Bk .done (some c) A ∧ w.heap.size ≤ A.heap.size) W1 w.heap.size hB1 (by omega)
    (fun s A B h hb => ⟨hI s A B h.1 (KeepC.below hb), hBk _ _ A B h.2.1 hb, Nat.le_trans h.2.2 hb.size⟩)
    (fun s A B h hb => by obtain ⟨c, h1, h2, h3⟩ := h; exact ⟨c, hIx c s A B h1 (KeepC.below hb), hBk _ _ A B h2 hb, Nat.le_trans h3 hb.size⟩) ?_ ⟨hI [] w W1 h0 (KeepC.below hB1), ⟨hL1, hD1⟩, by omega⟩).mono ?_
  · -- one round
    rintro pre x A ⟨hi, hbk, hsA⟩ hrd
    refine ⟨fn, _, assign, body, run_yield (P := P) (args := encs x) hbk.1 (hps x), roundIn_of_wpIn hfn ?_⟩
    refine hassign L pre x A _ hsA hi hrd ?_
    intro a' B hrw hiB hax
    have hbB : Bk .ready none B := ⟨hrw.others _ _ hbk.1 rfl, hrw.others _ _ hbk.2 rfl⟩
    refine ⟨_, run_beginRound hbB.1 rfl, ?_⟩
    obtain ⟨hbC, hkC⟩ := turn .ready .busy none none B hbB
    have hsC : w.heap.size ≤ (B.putObj L (.loop (rec_ .busy none))).heap.size := Nat.le_trans hsA (Nat.le_trans hrw.size hkC.size)
    have rwput : ∀ (X : World) (st st' : LoopState) (pe pe' : Option Code), Bk st pe X → ∀ (k : Nat) (o : Obj), X.heap[k]? = some o → o.isCells = true → (X.putObj L (.loop (rec_ st' pe'))).heap[k]? = some o := fun X st st' pe pe' h k o hk hc =>
      (KeepC.put (N := w.heap.size) h.1 rfl (by simp [L]) (.loop (rec_ st' pe'))).same k o hk (.inr hc)
    refine wpIn_mono (hbody L pre x a' _ hsC (hI _ _ _ hiB hkC) (hAx _ _ _ _ _ hax hkC)) ?_
    rintro e a3 C hp
    have fin : ∀ (jump : Option Code), RW w.heap.size (ow x) (B.putObj L (.loop (rec_ .busy none))) C →
        (Instr.endRound L jump).run P C = .ok (.bool jump.isNone) (C.putObj L (.loop (rec_ (if jump.isNone then .ready else .done) jump))) ∧ Bk .busy none C := fun jump hr => by
      have hbC' : Bk .busy none C := ⟨hr.others _ _ hbC.1 rfl, hr.others _ _ hbC.2 rfl⟩
      exact ⟨run_endRound (P := P) jump hbC'.1, hbC'⟩
    cases e with
    | normal =>
      obtain ⟨hr, hi3⟩ := hp
      obtain ⟨hrun, hbC'⟩ := fin none hr
      obtain ⟨hbE, hkE⟩ := turn .busy .ready none none C hbC'
      refine ⟨_, _, hrun, .inl ⟨rfl, ⟨hI _ _ _ hi3 hkE, hbE, Nat.le_trans hsC (Nat.le_trans hr.size hkE.size)⟩, ?_⟩⟩
      refine ⟨Nat.le_trans hrw.size (Nat.le_trans hkC.size (Nat.le_trans hr.size hkE.size)), fun k o hN hk hc ho => ?_, fun k o hk hc => ?_⟩
      · exact rwput C _ _ none none hbC' k o (hr.cells k o hN (rwput B _ _ none none hbB k o (hrw.cells k o hN hk hc ho) hc) hc ho) hc
      · by_cases hkL : k = L
        · subst hkL
          have e : o = .loop (rec_ .ready none) := by
            have := hk.symm.trans hbk.1
            injection this
          rw [e]
          exact hbE.1
        · have h1 := hrw.others k o hk hc
          have h2 : (B.putObj L (.loop (rec_ .busy none))).heap[k]? = some o := (World.putObj_heap_other hkL).trans h1
          exact (World.putObj_heap_other hkL).trans (hr.others k o h2 hc)
    | ret =>
      obtain ⟨hr, hi3⟩ := hp
      obtain ⟨hrun, hbC'⟩ := fin (some .ret) hr
      obtain ⟨hbE, hkE⟩ := turn .busy .done none (some .ret) C hbC'
      exact ⟨_, _, hrun, .inr ⟨rfl, .ret, hIx _ _ _ _ hi3 hkE, hbE, Nat.le_trans hsC (Nat.le_trans hr.size hkE.size)⟩⟩
    | exit id =>
      obtain ⟨hr, hi3⟩ := hp
      obtain ⟨hrun, hbC'⟩ := fin (some (.exit id)) hr
      obtain ⟨hbE, hkE⟩ := turn .busy .done none (some (.exit id)) C hbC'
      exact ⟨_, _, hrun, .inr ⟨rfl, .exit id, hIx _ _ _ _ hi3 hkE, hbE, Nat.le_trans hsC (Nat.le_trans hr.size hkE.size)⟩⟩
    | goto t => exact hp.elim
    | panic ch => exact hp.elim
    | outgrown => exact hp.elim
  · -- behind the iterator
    rintro e A ⟨⟨v, rfl⟩, (⟨xs, hS, hi, hbk, hs⟩ | ⟨pre, hSp, c, hi, hbk, hs⟩)⟩
    · obtain ⟨hbE, hkE⟩ := turn .ready .exhausted none none A hbk
      exact ⟨none, _, run_endLoop (P := P) hbk.1 (by simp [rec_]), hdone D xs _ (Nat.le_refl _) hS (hI _ _ _ hi hkE) hbE.2⟩
    · obtain ⟨hbE, hkE⟩ := turn .done .exhausted (some c) (some c) A hbk
      exact ⟨some c, _, run_endLoop (P := P) hbk.1 (by simp [rec_]), hstop D c pre _ (Nat.le_refl _) hSp (hIx _ _ _ _ hi hkE) hbE.2⟩
end Go.Proofs.YtooojhlndlebdaaRRRDoorRRRR.Q
end
section
set_option linter.unusedVariables false
set_option linter.unusedSimpArgs false
namespace Go.Proofs.YtooojhlndlebdaaRRRDoorRRRR.Q
open Go
variable {F : Fence} {n : Nat} {P : Program} {ops : Array Oper} {md : Region.Mode} {C : World → Prop}

def noDefer (o : Oper) : Bool := match o.op with | .defer _ => false | _ => true
theorem noDefer_spec {o : Oper} (h : noDefer o = true) : ∀ c, o.op ≠ .defer c := fun c e => by simp [noDefer, e] at h
theorem semAt_any {o : Oper} (hd : ∀ c, o.op ≠ .defer c) (r : Option Nat) (ρ : Operand → Value) : Oper.semAt r ρ o = execOp ρ o := by
  cases r with
  | none => exact Oper.semAt_none _ _
  | some l => exact Oper.semAt_some l _ o hd
theorem wpIn_of_quietR {o : Oper} {a : Act} {K : Act → Prop} {K' : Act → World → Prop} {Q' : Exit → Act → World → Prop} {w : World} (hd : ∀ c, o.op ≠ .defer c) (hw : C w) (h : ∀ a w', C w' → K a → K' a w')
    (ha : o.askedIn F P a C) (hh : o.quietIn F n P a C K) : o.wpIn F n P a w K' Q' := by
  obtain ⟨v, h1, h2⟩ := hh
  have h3 := h1 w hw
  unfold Oper.quietAtIn at h3
  unfold Oper.wpIn
  refine ⟨ha w hw, ?_⟩
  rw [semAt_any hd]
  generalize (execOp a.eval o).run P w = r at *
  cases r with
  | ok x w' =>
    cases x <;> simp only [Oper.quietUponIn] at h3 <;> simp only [Oper.uponIn]
    case value u =>
      obtain ⟨e1, e2⟩ := h3
      rw [e1, e2]
      exact h _ _ hw h2
    case skip =>
      obtain ⟨e1, e2⟩ := h3
      rw [e1, ← e2]
      exact h _ _ hw h2
    case enter f args =>
      obtain ⟨e1, hd, hc⟩ := h3
      rw [e1]
      exact ⟨hd, hc.mono fun e w'' ⟨he, hw''⟩ => by subst he; exact h _ _ hw'' h2⟩
  | halt x w' => simp only [Oper.quietUponIn] at h3
theorem wpOpIn_of_qOpInR {i : Nat} {a : Act} {K : Act → Prop} {K' : Act → World → Prop} {Q' : Exit → Act → World → Prop} {w : World} (hd : ∀ (i : Nat) o, ops[i]? = some o → ∀ c, o.op ≠ .defer c) (hC : C w) (h : ∀ a w', C w' → K a → K' a w')
    (hh : qOpIn F n P ops C i K a) : wpOpIn F n P ops Q' i K' a w := by
  unfold qOpIn at hh
  unfold wpOpIn
  split
  · rename_i ho; simp only [ho] at hh; exact h _ _ hC hh
  · rename_i o ho
    simp only [ho] at hh
    obtain ⟨ha, hh⟩ := hh
    split
    · rename_i hw; simp only [hw, if_true] at hh; exact wpIn_of_quietR (hd i o ho) hC h ha hh
    · rename_i hw; simp only [hw] at hh; exact ⟨ha w hC, h _ _ hC hh⟩
theorem wpAnyIn_of_quietR {Q : Act → Prop} {Q' : Exit → Act → World → Prop} (hd : ∀ (i : Nat) o, ops[i]? = some o → ∀ c, o.op ≠ .defer c) (hQ : ∀ a w, C w → Q a → Q' .normal a w) : ∀ (fuel : Nat) (listed : Array Bool) (a : Act) (w : World), C w →
    wpAnyQIn F n P md ops C Q fuel listed a → wpAnyIn F n P md ops Q' fuel listed a w
  | 0, _, _, _, hw, h => ⟨h.1, hQ _ _ hw h.2⟩
  | fuel + 1, _, _, _, hw, h => ⟨fun h0 => hQ _ _ hw (h.1 h0), fun i hi => wpOpIn_of_qOpInR hd hw (fun a' w' hw' => wpAnyIn_of_quietR hd hQ fuel _ a' w' hw') (h.2 i hi)⟩
theorem region_quietR {id : Nat} {Q : Exit → Act → World → Prop} {a : Act} {w : World} {l : List Oper} (hd : l.all noDefer = true) (hm : P.follows .mixedOrders = true) (hB : Region.lexB .any l.toArray = true)
    (h : wpQuietIn F n P l.toArray (fun w' => ∃ n, w' = w.drewN n) (fun a' => ∀ w', (∃ n, w' = w.drewN n) → Q .normal a' w') l a) : (Code.region id l.toArray true).wpIn F n P Q a w := by
  simp only [Region.lexB, Bool.and_eq_true] at hB
  have hC : (fun w' => ∃ n, w' = w.drewN n) { w with drawn := w.drawn + 1 } := ⟨1, rfl⟩
  have hd' : ∀ (i : Nat) o, l.toArray[i]? = some o → ∀ c, o.op ≠ .defer c := fun i o ho => noDefer_spec (List.all_eq_true.1 hd o (by
    rw [List.getElem?_toArray] at ho
    exact List.mem_of_getElem? ho))
  refine wpIn_region_any hm (wpAnyIn_of_quietR (C := fun w' => ∃ n, w' = w.drewN n) (Q := fun a' => ∀ w', (∃ n, w' = w.drewN n) → Q .normal a' w') hd' (fun _ w' hw' h => h w' hw') _ _ _ _ hC ?_)
  have := wpAnyQIn_lex (F := F) (n := n) (C := fun w' => ∃ n, w' = w.drewN n) (md := .any) hB.1 l 0 (Array.replicate l.toArray.size false) a (by simp) (by simpa using hB.2) h
  simpa using this
end Go.Proofs.YtooojhlndlebdaaRRRDoorRRRR.Q
end
section
set_option linter.unusedVariables false
set_option linter.unusedSimpArgs false
namespace Go.Proofs.YtooojhlndlebdaaRRRDoorRRRR.R
open Go.RowKit Go.Lib Go.Proofs.YtooojhlndlebdaaRRRDoorRRRRW.PrintWords Go.Proofs.YtooojhlndlebdaaRRRDoorRRRRW.PrintLast Go.Proofs.YtooojhlndlebdaaRRRDoorRRRRW.PrintMore
open Go.Proofs.YtooojhlndlebdaaRRRDoorRRRR.Q (KeepC KC RW SeqR postR)
attribute [local go_sem] Oper.semAt_some

/-- An element handed over: the step, and its literals' slice. -/
abbrev El := S33 × Value
def encE (x : El) : Array Value := #[.agg #[.bool x.1.f0, x.2]]
def owE (x : El) : Option Nat := x.2.ownBlock
/-- The next step of the list, its literals in a row of their own. -/
def RdS (l : List S33) (n₀ : Nat) (pre : List El) (x : El) (W : World) : Prop := l[pre.length]? = some x.1 ∧ Kd.R (Kd.int .i64) 3 W n₀ (fun _ => True) x.2 x.1.f1
theorem tag_elem {w : World} {base G n cap : Nat} {ok : Nat → Prop} {l : List S33} {f : Nat → Nat} (h : (Kd.tag f k33).R 33 w base ok (.slice (some ⟨G, 0, none⟩) n cap) l.zipIdx) (i : Nat) (hi : i < l.length) (hn : n = l.length) :
    ∃ v, w.cell? ⟨G, i * 2, none⟩ = some (.bool l[i].f0) ∧ w.cell? ⟨G, i * 2 + 1, none⟩ = some v ∧ Kd.R (Kd.int .i64) 3 w base (fun k => k ≠ G ∧ f k = i) v l[i].f1 := by
  obtain ⟨c, hcl, hM, hcc, _⟩ := Kd.R_elem h (z33, 0) ((i : Nat) : Int) (by omega) (by omega)
  rw [Int.toNat_natCast] at hM hcc
  have hg : l.zipIdx.getD i (z33, 0) = (l[i], i) := by
    rw [List.getD_eq_getElem?_getD, Kd.zip_at (List.getElem?_eq_getElem hi)]
    rfl
  rw [hg] at hM
  have hM2 : k33.M w base (fun k => (ok k ∧ k ≠ G) ∧ f k = i) l[i] c := hM
  obtain ⟨v, rfl, hv⟩ := k33_openM hM2
  exact ⟨v, hcc 0 _ rfl, hcc 1 _ rfl, Kd.R_mono hv (fun k hk => ⟨hk.1.2, hk.2⟩)⟩
/-- Where the literals of step j lie. -/
def rowAt (w : World) (G j : Nat) : Option Nat := match w.cell? ⟨G, j * 2 + 1, none⟩ with | some v => v.ownBlock | none => none
/-- Cells from n₀ on lie as they lay, but for the literals of the first i steps. -/
structure AG (w : World) (n₀ G i : Nat) (w' : World) : Prop where
  size : w.heap.size ≤ w'.heap.size
  same : ∀ (k : Nat) (o : Obj), n₀ ≤ k → w.heap[k]? = some o → o.isCells = true → (∀ j, j < i → some k ≠ rowAt w G j) → w'.heap[k]? = some o
theorem AG.below {w : World} {n₀ G i : Nat} {A B : World} (h : AG w n₀ G i A) (hb : Below A.heap.size A B) : AG w n₀ G i B :=
  ⟨Nat.le_trans h.size hb.size, fun k o h1 h2 h3 h4 => by
    have := h.same k o h1 h2 h3 h4
    exact (hb.block k (Array.getElem?_eq_some_iff.1 this).1).trans this⟩
theorem AG.round {w : World} {n₀ G i : Nat} {A B : World} {own : Option Nat} (h : AG w n₀ G i A) (hr : RW n₀ own A B) (ho : own = rowAt w G i) : AG w n₀ G (i + 1) B :=
  ⟨Nat.le_trans h.size hr.size, fun k o h1 h2 h3 h4 => hr.cells k o h1 (h.same k o h1 h2 h3 (fun j hj => h4 j (by omega))) h3 (by rw [ho]; exact h4 i (Nat.lt_succ_self _))⟩
/-- The next step's cells, and its row, where the earlier ones have been given away. -/
theorem next_elem {w : World} {base n₀ G n cap : Nat} {ok : Nat → Prop} {l : List S33} {f : Nat → Nat} (h : (Kd.tag f k33).R 33 w base ok (.slice (some ⟨G, 0, none⟩) n cap) l.zipIdx) (hn : n = l.length) (hb : n₀ ≤ base) (i : Nat) (hi : i < l.length) {w' : World} (ha : AG w n₀ G i w') :
    ∃ v, w'.cell? ⟨G, i * 2, none⟩ = some (.bool l[i].f0) ∧ w'.cell? ⟨G, i * 2 + 1, none⟩ = some v ∧ Kd.R (Kd.int .i64) 3 w' n₀ (fun _ => True) v l[i].f1 ∧ v.ownBlock = rowAt w G i := by
  obtain ⟨v, c0, c1, hv⟩ := tag_elem h i hi hn
  obtain ⟨g', cap', hvs, hbg, hlg, cells, hcells⟩ := Kd.R_form h (by rw [List.length_zipIdx]; omega)
  have hG : g' = G := by injection hvs with h1 _ _; injection h1 with h1; injection h1 with h1; exact h1.symm
  subst hG
  have hrow : ∀ j, (hj : j < l.length) → ∃ u : Value, rowAt w g' j = u.ownBlock ∧ ∀ k, u.ownBlock = some k → k ≠ g' ∧ f k = j := fun j hj => by
    obtain ⟨u, _, d1, hu⟩ := tag_elem h j hj hn
    exact ⟨u, by unfold rowAt; rw [d1], fun k hk => hu.1 k hk⟩
  have hGs : w'.heap[g']? = some (.cells cells 33 (0, 0)) := ha.same g' _ (by omega) hcells rfl (fun j hj e => by
    obtain ⟨u, hu, hk⟩ := hrow j (by omega)
    rw [hu] at e
    exact (hk g' e.symm).1 rfl)
  have hcell : ∀ o, w'.cell? ⟨g', o, none⟩ = w.cell? ⟨g', o, none⟩ := fun o => by rw [blk_cell hGs, blk_cell hcells]
  refine ⟨v, (hcell _).trans c0, (hcell _).trans c1, ?_, by unfold rowAt; rw [c1]⟩
  have hb2 := Kd.R_bound hv
  refine Kd.R_lower (Kd.R_mono (Kd.R_step hb2 (fun k hk hlt => ?_)) (fun _ _ => trivial)) hb
  obtain ⟨⟨hkg, hkf⟩, hkb, _, q, _, cs, hcs⟩ := hk
  refine (ha.same k _ (by omega) hcs rfl (fun j hj e => ?_)).trans hcs.symm
  obtain ⟨u, hu, hk2⟩ := hrow j (by omega)
  rw [hu] at e
  have := (hk2 k e.symm).2
  omega
set_option maxHeartbeats 8000000 in
set_option maxRecDepth 100000 in
theorem steps_seq (s : ByteArray) (hs : s.size ≤ 4294967280) (n : Nat) (g : Nat) (w : World) (hg : w.heap[g]? = some (.cells #[.string s] 9 (0, 0))) (hE : Env w) :
    SeqR Fence.wide n Tryd.prog 33 #[.pointer (some ⟨g, 0, none⟩)] encE (RdS (readF s).1.steps) owE (fun xs => xs.map (·.1) = (readF s).1.steps) (fun pre => pre.map (·.1) <+: (readF s).1.steps) w := by
  intro l J Jx W n₀ hW hn hJ hJx hY h0
  have hrw := fun W hE => read_walk W W.heap.size s _ (rd_new W) hE hs
  obtain ⟨st, hst⟩ : ∃ st, (readF s).1 = st := ⟨_, rfl⟩
  rw [hst] at hY hrw
  rw [hst]
  clear hst
  have hgW : W.heap[g]? = some (.cells #[.string s] 9 (0, 0)) := (hW.block g (Array.getElem?_eq_some_iff.1 hg).1).trans hg
  have HEW := Aside0.mk (hE.below hW)
  have HJ := Aside0.mk hJ
  have HJX := Aside0.mk hJx
  have HY := Aside0.mk hY
  have H0 := Aside0.mk h0
  have HN := Aside0.mk hn
  have HGW := Aside0.mk hgW
  have cg : W.cell? ⟨g, 0, none⟩ = some (.string s) := (blk_cell hgW 0).trans rfl
  have hglt : g < W.heap.size := blk_lt hgW
  have HRW := Aside0.mk (hrw W HEW.out)
  clear hrw
  clear hW hn hJ hJx hY h0 hgW hE hg
  refine callsIn_of_wp Tryd.func33 rfl trivial ?_ rfl
  simp only [Tryd.ntmps33, List.size_toArray, List.length_cons, List.length_nil, Nat.reduceAdd, Nat.reduceSub, Array.replicate_succ, Array.replicate_zero, List.push_toArray, List.append_toArray, List.nil_append, List.cons_append]
  gi_wp2
  refine ⟨trivial, fun h => (by cases h), (callsIn_wide.2 HRW.out).mono ?_⟩
  rintro e w2 ⟨rfl, hR⟩
  obtain ⟨ws, vs, vl, hV⟩ := hR
  obtain ⟨f, hf⟩ := hV.s
  obtain ⟨Ao, co, eo⟩ := Kd.R_slice (Kd.S_R hV.s)
  subst eo
  have c0 : w2.cell? ⟨W.heap.size, 0, none⟩ = some (.slice Ao st.steps.length co) := (blk_cell hV.blk 0).trans rfl
  have HF := Aside0.mk hf
  have HB2 := Aside0.mk hV.below
  have hmax : st.steps.length ≤ 9223372036854775807 := Kd.C_max (Kd.R_reads' (Kd.S_R hV.s)).2.2
  have HMX := Aside0.mk hmax
  clear hV hf hmax
  gi_wp2
  gi_loopw [16] (fun iv wr => ∃ pre : List El, iv = .int .i64 (pre.length : Nat) ∧ Aside0 (pre.map (·.1) = st.steps.take pre.length) ∧ pre.length ≤ st.steps.length ∧ Aside0 (J pre wr) ∧ Aside0 (∀ G, Ao = some ⟨G, 0, none⟩ → AG w2 n₀ G pre.length wr)) (fun iv _ => st.steps.length - (RowKit.intOf iv).toNat)
  case atStart => exact ⟨[], rfl, ⟨by simp⟩, Nat.zero_le _, ⟨HJ.out _ _ _ H0.out HB2.out⟩, ⟨fun G _ => ⟨Nat.le_refl _, fun _ _ _ h _ _ => h⟩⟩⟩
  case round =>
    obtain ⟨pre, rfl, HP, hle, HJP, HAG⟩ := hrel
    by_cases hlt : pre.length < st.steps.length
    · obtain ⟨G, rfl⟩ : ∃ G, Ao = some ⟨G, 0, none⟩ := by
        obtain ⟨g', cap', hv, _⟩ := Kd.R_form HF.out (by rw [List.length_zipIdx]; omega)
        injection hv with h1 _ _
        exact ⟨g', h1⟩
      have hag := HAG.out G rfl
      have hpb : pre.length < 9223372036854775807 := by have := HMX.out; omega
      obtain ⟨v, x0, x1, hR, ho⟩ := next_elem HF.out rfl HN.out pre.length hlt hag
      have HRV := Aside0.mk hR
      have HO := Aside0.mk ho
      have hge : st.steps[pre.length]? = some st.steps[pre.length] := List.getElem?_eq_getElem hlt
      obtain ⟨x, hx⟩ : ∃ x, st.steps[pre.length] = x := ⟨_, rfl⟩
      rw [hx] at x0 HRV hge
      have HGE := Aside0.mk hge
      obtain ⟨Av, cv, ev⟩ := Kd.R_slice HRV.out
      subst ev
      have hgl : G < wr.heap.size := by
        have := World.block_lt_of_cell? _ _ x0
        exact this
      clear hag hR ho hge hx
      have hbw : Below wr.heap.size wr (wr.alloc (.cells #[.bool x.f0, .slice Av x.f1.length cv] 33)) := (Below.refl _ wr).alloc (Nat.le_refl _) _
      obtain ⟨fn, tmps, assign, body, hy, hRd⟩ := HY.out pre (x, .slice Av x.f1.length cv) _ (HJ.out _ _ _ HJP.out hbw) ⟨HGE.out, Kd.R_below HRV.out hbw⟩
      dsimp only [encE] at hy
      have HBW := Aside0.mk hbw
      have HRD := Aside0.mk hRd
      clear hbw hRd
      gi_wp2
      refine ⟨fun h => (by cases h), HRD.out.mono ?_⟩
      have hpx : (pre ++ [((x, .slice Av x.f1.length cv) : El)]).map (·.1) = st.steps.take (pre.length + 1) := by
        have e1 := HP.out
        have e2 : st.steps.take (pre.length + 1) = st.steps.take pre.length ++ [x] := by rw [List.take_add_one, HGE.out]; rfl
        rw [List.map_append, e1, e2]
        rfl
      have HPX := Aside0.mk hpx
      clear hpx
      rintro e W3 (⟨rfl, hJ3, hk3⟩ | ⟨rfl, hx3⟩)
      · have HJ3 := Aside0.mk hJ3
        have HAG3 := Aside0.mk (show ∀ G', (some ⟨G, 0, none⟩ : Option Addr) = some ⟨G', 0, none⟩ → AG w2 n₀ G' (pre.length + 1) W3 from fun G' hG' => by
          injection hG' with h1
          injection h1 with h1
          subst h1
          exact ((HAG.out G rfl).below HBW.out).round hk3 HO.out)
        clear hJ3 hk3
        gi_wp2
        go_roundw
        case rel => exact ⟨pre ++ [(x, .slice Av x.f1.length cv)], by simp, by rw [List.length_append]; exact HPX, by simp; omega, HJ3, by rw [List.length_append]; exact HAG3⟩
        case measure => simp [RowKit.intOf]; omega
      · have HX3 := Aside0.mk hx3
        clear hx3
        gi_wp2
        refine bodyPost_ret (results_none rfl _ _ _) rfl ?_
        exact ⟨⟨_, rfl⟩, .inr ⟨pre ++ [(x, .slice Av x.f1.length cv)], by rw [HPX.out]; exact List.take_prefix _ _, HX3.out⟩⟩
    · have HE2 := Aside0.mk (show pre.map (·.1) = st.steps by rw [HP.out]; exact List.take_of_length_le (by omega))
      have hpl : pre.length = st.steps.length := by omega
      have HPL := Aside0.mk hpl
      rw [hpl]
      clear hpl hlt hle
      gi_wp2
      go_end0
      exact ⟨⟨_, rfl⟩, .inl ⟨pre, HE2.out, HJP.out⟩⟩
end Go.Proofs.YtooojhlndlebdaaRRRDoorRRRR.R
end
section
set_option linter.unusedVariables false
set_option linter.unusedSimpArgs false
namespace Go.Proofs.YtooojhlndlebdaaRRRDoorRRRR.R
open Go.RowKit Go.Lib Go.Proofs.YtooojhlndlebdaaRRRDoorRRRRW.PrintWords Go.Proofs.YtooojhlndlebdaaRRRDoorRRRRW.PrintLast Go.Proofs.YtooojhlndlebdaaRRRDoorRRRRW.PrintMore
open Go.Proofs.YtooojhlndlebdaaRRRDoorRRRR.Q (KeepC KC RW SeqR postR wpIn_rangeR)
attribute [local go_sem] Oper.semAt_some

theorem wide_fn (k : FuncId) : Fence.wide.fn k = True := rfl
attribute [local go_sem] wide_fn
theorem heap33 : Kd.Heap k33 := Kd.heap_iso _ (Kd.heap_pair Kd.heap_bool (Kd.heap_slice 3 (Kd.heap_int .i64)))
theorem C33_below {w W : World} {A : Option Addr} {n : Nat} {l : List S33} (h : Kd.C k33 w A n l) (hb : Below w.heap.size w W) : Kd.C k33 W A n l := heap33.C (fun k hk => hb.block k hk) h
/-- A box lies. -/
def Bx (W : World) (g t : Nat) (v : Value) : Prop := W.heap[g]? = some (.cells #[v] t (0, 0))
theorem Bx.keep {N g t : Nat} {v : Value} {A B : World} (h : Bx A g t v) (k : KeepC N A B) : Bx B g t v := k.same g _ h (.inr rfl)
theorem Bx.cell {g t : Nat} {v : Value} {W : World} (h : Bx W g t v) : W.cell? ⟨g, 0, none⟩ = some v := (blk_cell h 0).trans rfl
theorem below_keep {M N : Nat} {w A B : World} (hM : M ≤ w.heap.size) (hMN : M ≤ N) (h : Below M w A) (k : KeepC N A B) : Below M w B :=
  ⟨k.os.trans h.os, k.tape.trans h.tape, k.output.trans h.output, Nat.le_trans h.size k.size, fun i hi => by
    have e := h.block i hi
    have hlt : i < w.heap.size := by omega
    rw [← e]
    have e2 : A.heap[i]? = some w.heap[i] := by rw [e]; exact Array.getElem?_eq_getElem hlt
    rw [e2]
    exact k.same i _ e2 (.inl (by omega))⟩
theorem RI_keep {N M : Nat} {A B : World} {v : Value} {l : List Int} (h : (Kd.int .i64).R 3 A N (fun _ => True) v l) (k : KeepC M A B) : (Kd.int .i64).R 3 B N (fun _ => True) v l :=
  Kd.R_mono (Kd.R_step (Kd.R_bound h) (fun i hi hlt => by
    obtain ⟨_, hb, _, q, _, cs, hcs⟩ := hi
    exact (k.same i _ hcs (.inr rfl)).trans hcs.symm)) (fun _ _ => trivial)
theorem eqIn_func (d : Nat) (f : Fn) (a b : Array Value) (w : World) : (Op.equalIn (d + 1) 41 (.func f a b) .nilFunc).run Tryd.prog w = .ok false w := by
  simp [Op.equalIn, run_underlying Tryd.underlying41]
theorem eq_func (f : Fn) (a b : Array Value) (w : World) : (Op.equal 41 (.func f a b) .nilFunc).run Tryd.prog w = .ok false w := eqIn_func 9999 f a b w
theorem eql_func (f : Fn) (a b : Array Value) (w : World) : (binOp .eql 41 (.func f a b) .nilFunc).run Tryd.prog w = .ok (.bool false) w := by
  simp only [binOp]
  simp [eq_func f a b w]
theorem fold_one (x : El) (p : Tmp) (t : Array Value) : ((#[p] : Array Tmp).zip (encE x)).foldl (fun t (p, v) => t.setIfInBounds p v) t = t.setIfInBounds p (.agg #[.bool x.1.f0, x.2]) := by simp [encE]
/-- What lies while gives goes round. -/
structure IG (w0 : World) (b : Nat) (wv : Value) (k : Nat) (W : World) : Prop where
  below : Below w0.heap.size w0 W
  want : Bx W b 22 wv
  res : Bx W (b + 1) 4 (.bool false)
  num : Bx W (b + 1 + 1) 3 (.int .i64 (k : Nat))
theorem IG.keep {w0 : World} {b : Nat} {wv : Value} {k N : Nat} {A B : World} (hN : w0.heap.size ≤ N) (h : IG w0 b wv k A) (q : KeepC N A B) : IG w0 b wv k B :=
  ⟨below_keep (Nat.le_refl _) hN h.below q, h.want.keep q, h.res.keep q, h.num.keep q⟩
theorem IG.num_set {w0 : World} {b : Nat} {wv : Value} {k k' : Nat} {A : World} (hb : w0.heap.size ≤ b) (h : IG w0 b wv k A) : IG w0 b wv k' (A.setCell ⟨b + 1 + 1, 0, none⟩ (.int .i64 (k' : Nat))) :=
  ⟨h.below.setCell (by show w0.heap.size ≤ b + 1 + 1; omega) _, blk_far h.want (by simp; omega) _, blk_far h.res (by simp) _, blk_set h.num 0 _⟩
theorem IG.far {w0 : World} {b : Nat} {wv : Value} {k : Nat} {A : World} (h : IG w0 b wv k A) {p : Addr} (hp : b + 1 + 1 < p.block) (hb : w0.heap.size ≤ b) (v : Value) : IG w0 b wv k (A.setCell p v) :=
  ⟨h.below.setCell (by omega) _, blk_far h.want (by omega) _, blk_far h.res (by omega) _, blk_far h.num (by omega) _⟩
/-- The literals' cells. -/
def LC (W : World) (A : Option Addr) (n : Nat) : Prop := ∀ G, A = some ⟨G, 0, none⟩ → ∃ cs, W.heap[G]? = some (.cells cs 3 (0, 0)) ∧ n ≤ cs.size
theorem LC_of {W : World} {N : Nat} {ok : Nat → Prop} {A : Option Addr} {n c : Nat} {l : List Int} (h : (Kd.int .i64).R 3 W N ok (.slice A n c) l) : LC W A l.length := by
  rintro G rfl
  by_cases hp : 0 < l.length
  · obtain ⟨G', cap, e, _, _, cs, hcs⟩ := Kd.R_form h hp
    have e2 : G' = G := by injection e with h1 _ _; injection h1 with h1; injection h1 with h1; exact h1.symm
    subst e2
    refine ⟨cs, hcs, ?_⟩
    have h3 := Kd.R_reads' h
    have h4 := Kd.foot_int h3.2.2 ((l.length - 1 : Nat) : Int) (by omega) (by omega)
    rw [show (Addr.add ⟨G', 0, none⟩ ((l.length - 1 : Nat) : Int).toNat) = ⟨G', l.length - 1, none⟩ by
      simp only [Addr.add, Int.toNat_natCast, Nat.zero_add]
      split
      · rename_i h0; rw [h0]
      · rfl, blk_cell hcs] at h4
    have := (Array.getElem?_eq_some_iff.1 h4).1
    omega
  · have h2 := Kd.R_typed h G rfl
    obtain ⟨cs, hcs⟩ := h2
    exact ⟨cs, hcs, by omega⟩
theorem LC.set {W : World} {A : Option Addr} {n G j : Nat} {v : Value} (h : LC W A n) (hA : A = some ⟨G, 0, none⟩) : LC (W.setCell ⟨G, j, none⟩ v) A n := by
  intro G' e
  have e2 : G' = G := by rw [hA] at e; injection e with h1; injection h1 with h1; exact h1.symm
  subst e2
  obtain ⟨cs, hcs, hn⟩ := h G' e
  exact ⟨_, blk_set hcs j v, by simpa using hn⟩
/-- The round's variable. -/
def Bv (W : World) (g : Nat) (x : S33) (v : Value) : Prop := W.heap[g]? = some (.cells #[.bool x.f0, v] 33 (0, 0))
theorem Bv.keep {N g : Nat} {x : S33} {v : Value} {A B : World} (h : Bv A g x v) (k : KeepC N A B) : Bv B g x v := k.same g _ h (.inr rfl)
set_option maxHeartbeats 8000000 in
set_option maxRecDepth 100000 in
theorem gives_true (s : ByteArray) (hs : s.size ≤ 4294967280) (A0 : Option Addr) (c0 : Nat) (g : Nat) (w0 : World) (hE : Env w0) (hg : w0.heap[g]? = some (.cells #[.string s] 9 (0, 0)))
    (hr0 : Kd.C k33 w0 A0 (readF s).1.steps.length (readF s).1.steps) (hc0 : (readF s).1.steps.length ≤ c0) (hml : ∀ x ∈ (readF s).1.steps, x.f1.length ≤ 4398046511104) (hmx : (readF s).1.steps.length ≤ 4398046511104) :
    Calls Tryd.prog 20 #[.func (.func 33) #[] #[.pointer (some ⟨g, 0, none⟩)], .slice A0 (readF s).1.steps.length c0] w0 fun e w' => e = .returned (.bool true) ∧ Below w0.heap.size w0 w' := by
  refine (callsIn_wide (n := 3)).1 ?_
  refine callsIn_of_wp_marks Tryd.func20 rfl trivial ?_ rfl
  have hseq := fun (w : World) (hb : Below w0.heap.size w0 w) => steps_seq s hs 2 g w ((hb.block g (Array.getElem?_eq_some_iff.1 hg).1).trans hg) (hE.below hb)
  obtain ⟨sl, hsl⟩ : ∃ sl, (readF s).1.steps = sl := ⟨_, rfl⟩
  rw [hsl] at hr0 hc0 hml hseq hmx
  rw [hsl]
  have HSEQ := Aside0.mk hseq
  have HR0 := Aside0.mk hr0
  have HC0 := Aside0.mk hc0
  have HML := Aside0.mk hml
  have HMX := Aside0.mk hmx
  clear hseq hr0 hc0 hml hsl hE hg hmx
  simp only [Tryd.ntmps20, List.size_toArray, List.length_cons, List.length_nil, Nat.reduceAdd, Nat.reduceSub, Array.replicate_succ, Array.replicate_zero, List.push_toArray, List.append_toArray, List.nil_append, List.cons_append]
  have hqf := fun w => eql_func (.func 33) #[] #[.pointer (some ⟨g, 0, none⟩)] w
  gi_wp2
  obtain ⟨W1, hW1⟩ : ∃ W1, ((w0.alloc (.cells #[.slice A0 sl.length c0] 22)).alloc (.cells #[.bool false] 4)).alloc (.cells #[.int .i64 0] 3) = W1 := ⟨_, rfl⟩
  have hb1 : Below w0.heap.size w0 W1 := by rw [← hW1]; exact (((Below.refl _ w0).alloc (Nat.le_refl _) _).alloc (by simp) _).alloc (by simp; omega) _
  have hsz1 : W1.heap.size = w0.heap.size + 3 := by rw [← hW1]; simp
  have h0 : IG w0 w0.heap.size (.slice A0 sl.length c0) 0 W1 := by
    refine ⟨hb1, ?_, ?_, ?_⟩
    · rw [← hW1]
      exact (Below.heap_alloc _ _ _ (by simp; omega)).trans ((Below.heap_alloc _ _ _ (by simp)).trans (World.alloc_heap_new _ _))
    · rw [← hW1]
      refine (Below.heap_alloc _ _ _ (by simp)).trans ?_
      have := World.alloc_heap_new (w0.alloc (.cells #[.slice A0 sl.length c0] 22)) (.cells #[.bool false] 4)
      rwa [World.size_alloc] at this
    · rw [← hW1]
      have := World.alloc_heap_new ((w0.alloc (.cells #[.slice A0 sl.length c0] 22)).alloc (.cells #[.bool false] 4)) (.cells #[.int .i64 0] 3)
      rwa [World.size_alloc, World.size_alloc] at this
  rw [hW1]
  clear hW1 hqf
  refine wpIn_rangeR rfl (by decide) (gf := 33) (lb := #[.pointer (some ⟨g, 0, none⟩)]) rfl trivial (enters_of Tryd.func33 (by kernel_rfl) rfl) (HSEQ.out W1 hb1) (fun _ => rfl)
    (fun pre W => IG w0 w0.heap.size (.slice A0 sl.length c0) pre.length W)
    (fun _ _ _ => False)
    (fun pre x a' W => ∃ bx, a' = { tmps := #[.func (.func 33) #[] #[.pointer (some ⟨g, 0, none⟩)], .slice A0 sl.length c0, undef, .pointer (some ⟨w0.heap.size, 0, none⟩), .pointer (some ⟨w0.heap.size + 1, 0, none⟩), .pointer (some ⟨w0.heap.size + 1 + 1, 0, none⟩), .pointer (some ⟨bx, 0, none⟩), undef, .func (.func 33) #[] #[.pointer (some ⟨g, 0, none⟩)], .bool false, .func (.func 33) #[] #[.pointer (some ⟨g, 0, none⟩)], .agg #[.bool x.1.f0, x.2], undef, undef, undef, undef, undef, undef, undef, undef, undef, undef, undef, undef, undef, undef, undef, undef, undef, undef, undef, undef, undef, undef, undef, undef, undef, undef, undef, undef, undef, undef, undef, undef, undef, undef, undef, undef, undef, undef, undef, undef, undef, undef, undef, undef], defers := [] } ∧ W1.heap.size ≤ bx ∧ Bv W bx x.1 x.2 ∧ RdS sl W1.heap.size pre x W)
    ?hI (fun _ _ _ _ h _ => h) ?hAx h0 ?assign ?body ?done ?stop
  case hI => exact fun s A B h k => h.keep (by omega) k
  case hAx => exact fun pre x a' A B ⟨bx, h1, h2, h3, h4⟩ k => ⟨bx, h1, h2, h3.keep k, h4.1, RI_keep h4.2 k⟩
  case assign =>
    rintro l pre ⟨x, xv⟩ A K hN hi ⟨hge, hR⟩ hK
    obtain ⟨Av, cv, ev⟩ := Kd.R_slice hR
    dsimp only at ev
    subst ev
    have HK := Aside0.mk hK
    have HR := Aside0.mk hR
    have HI := Aside0.mk hi
    clear hR hi hK
    rw [fold_one]
    simp only [List.setIfInBounds_toArray, List.set]
    gi_wp2
    have hbw : Below A.heap.size A (A.alloc (.cells #[.bool x.f0, .slice Av x.f1.length cv] 33)) := (Below.refl _ A).alloc (Nat.le_refl _) _
    exact HK.out _ _ (RW.below hbw) (HI.out.keep (N := W1.heap.size) (by omega) (KeepC.below hbw)) ⟨A.heap.size, rfl, hN, World.alloc_heap_new _ _, hge, Kd.R_below HR.out hbw⟩
  case body =>
    rintro l pre ⟨x, xv⟩ a' A hN hi ⟨bx, rfl, hbx, hv, hge, hR⟩
    obtain ⟨Av, cv, ev⟩ := Kd.R_slice hR
    dsimp only at ev
    subst ev
    dsimp only at hv hge hR
    have hlt : pre.length < sl.length := (List.getElem?_eq_some_iff.1 hge).1
    have hrd : rd_T33 sl ((pre.length : Nat) : Int) = x := by rw [rdT_natr hlt]; exact (List.getElem?_eq_some_iff.1 hge).2
    obtain ⟨ad, A1, c1, eA, y0, y1, hl1, hc1⟩ := at_T33 (C33_below HR0.out hi.below) ((pre.length : Nat) : Int) (by omega) (by omega)
    subst eA
    rw [hrd] at y0 y1 hl1 hc1
    rw [Int.toNat_natCast] at y0 y1
    have z0 : A.cell? ⟨bx, 0, none⟩ = some (.bool x.f0) := (blk_cell hv 0).trans rfl
    have z1 : A.cell? ⟨bx, 1, none⟩ = some (.slice Av x.f1.length cv) := (blk_cell hv 1).trans rfl
    have k3 := hi.want.cell
    have k5 := hi.num.cell
    have hlm := HML.out x (List.mem_of_getElem? hge)
    have hR2 := Kd.R_reads' hR
    have hS := fun q => CallsIn.inRound (n := 0) l (callsIn_wide.2 (depotref00_SameInts.calls (x.f1.length + 1) Av cv x.f1 A1 c1 x.f1 true (A.drewN q) (Kd.C_drewN hR2.2.2 q) hR2.2.1 (Kd.C_drewN hc1 q) hl1 (sameInts_self _ hlm _ (by omega))))
    have HS := Aside0.mk hS
    have HR := Aside0.mk hR
    have HI := Aside0.mk hi
    have HV := Aside0.mk hv
    have HGE := Aside0.mk hge
    have HLM := Aside0.mk hlm
    have hmx := HMX.out
    have hd0 : decide (sl.length ≤ pre.length) = false := decide_eq_false (by omega)
    have hd1 : decide ((sl.length : Int) ≤ (pre.length : Int)) = false := decide_eq_false (by omega)
    have hd2 : (x.f0 != x.f0) = false := bne_self_eq_false _
    clear hS hR hi hv hge hR2 hc1 hrd hlm
    gi_wp2
    refine Go.Proofs.YtooojhlndlebdaaRRRDoorRRRR.Q.region_quietR (by kernel_rfl) (by kernel_rfl) (by kernel_rfl) ?_
    repeat (gi_big_quiet_step (first | (gi_at_call 23; exact CallsIn.quiet_of ((HS.out _).mono fun e w' h => ⟨h.1, h.2.out⟩))))
    refine wpQuietIn_nil ?_
    intro _ hw'
    obtain ⟨nq, hw''⟩ := hw'
    subst hw''
    gi_wp2
    have hqb : Below A.heap.size A (A.drewN nq) := pw_below_drewN (Below.refl _ _) nq
    gi_loopw [7] (fun iv wr => ∃ j : Nat, iv = .int .i64 (j : Nat) ∧ j ≤ x.f1.length ∧ Aside0 (RW W1.heap.size (owE (x, .slice Av x.f1.length cv)) A wr) ∧ Aside0 (IG w0 w0.heap.size (.slice (some ad) sl.length c0) pre.length wr) ∧ Aside0 (Bv wr bx x (.slice Av x.f1.length cv)) ∧ Aside0 (LC wr Av x.f1.length)) (fun iv _ => x.f1.length - (RowKit.intOf iv).toNat)
    case atStart => exact ⟨0, rfl, Nat.zero_le _, ⟨RW.below hqb⟩, ⟨HI.out.keep (N := W1.heap.size) (by omega) (KeepC.below hqb)⟩, ⟨HV.out⟩, ⟨LC_of HR.out⟩⟩
    case round =>
      obtain ⟨j, rfl, hj, HRW, HI2, HV2, HL2⟩ := hrel
      clear z0 z1 k3 k5 y0 y1
      have k5 := HI2.out.num.cell
      have f5 := blk_frozen HI2.out.num 0
      have z1 : wr.cell? ⟨bx, 1, none⟩ = some (.slice Av x.f1.length cv) := (blk_cell HV2.out 1).trans rfl
      have hlm := HLM.out
      by_cases hjl : j < x.f1.length
      · obtain ⟨G, cap, e, hNG, _⟩ := Kd.R_form HR.out (by omega)
        injection e with e1 e2 e3
        subst e1
        obtain ⟨cs, hcs, hn⟩ := HL2.out G rfl
        have c1 : wr.cell? ⟨G, j, none⟩ = some cs[j] := (blk_cell hcs j).trans (Array.getElem?_eq_getElem (by omega))
        have f1 := blk_frozen hcs j
        have hbG : bx ≠ G := blk_ne HV2.out hcs (by decide)
        have hn5 : pre.length ≤ 4398046511104 := by omega
        gi_wp2
        go_roundw
        case rel =>
          refine ⟨j + 1, by simp, by omega, ⟨HRW.out.trans (RW.set (.inr rfl))⟩, ⟨HI2.out.far (by show w0.heap.size + 1 + 1 < G; omega) (Nat.le_refl _) _⟩, ⟨blk_far HV2.out hbG _⟩, ⟨HL2.out.set rfl⟩⟩
        case measure => simp [RowKit.intOf]; omega
      · have hje : j = x.f1.length := by omega
        gi_wp2
        have h := HI2.out.num_set (k' := pre.length + 1) (Nat.le_refl _)
        refine ⟨HRW.out.trans (RW.set (.inl (by show w0.heap.size + 1 + 1 < W1.heap.size; omega))), ?_⟩
        show IG _ _ _ (pre ++ [_]).length _
        rw [List.length_append]
        exact h
  case done =>
    rintro D xs A hD hS hI hK
    have hxl : xs.length = sl.length := by rw [← hS]; simp
    rw [hxl] at hI
    have k3 := hI.want.cell
    have k4 := hI.res.cell
    have k5 := hI.num.cell
    have f4 := blk_frozen hI.res 0
    have HK := Aside0.mk hK
    have HI := Aside0.mk hI
    have hmx := HMX.out
    clear hS hI hK
    gi_wp2
    have hK2 : (A.setCell ⟨w0.heap.size + 1, 0, none⟩ (.bool true)).heap[D]? = some (.deferred (some [])) := (Below.heap_setCell A _ _ D (by show D ≠ w0.heap.size + 1; omega)).trans HK.out
    refine ⟨by simp, .inl ⟨_, _, rfl, run_takeDeferred hK2, ?_⟩⟩
    have hres : ((A.setCell ⟨w0.heap.size + 1, 0, none⟩ (.bool true)).putObj D (.deferred none)).heap[w0.heap.size + 1]? = some (.cells #[.bool true] 4 (0, 0)) :=
      (World.putObj_heap_other (by omega)).trans (blk_set HI.out.res 0 _)
    have hc := (blk_cell hres 0).trans rfl
    refine ⟨.bool true, ?_, rfl, below_keep (N := W1.heap.size) (Nat.le_refl _) (by omega) (HI.out.below.setCell (by show w0.heap.size ≤ w0.heap.size + 1; omega) _) (KeepC.put hK2 rfl hD _)⟩
    simp [results, Tryd.results20, go_sem, hc]
  case stop => exact fun _ _ _ _ _ _ h _ => h.elim
end Go.Proofs.YtooojhlndlebdaaRRRDoorRRRR.R
end
section
set_option linter.unusedVariables false
set_option linter.unusedSimpArgs false
namespace Go.Proofs.YtooojhlndlebdaaRRRDoorRRRR.R
open Go.RowKit Go.Lib Go.Proofs.YtooojhlndlebdaaRRRDoorRRRRW.PrintWords Go.Proofs.YtooojhlndlebdaaRRRDoorRRRRW.PrintLast Go.Proofs.YtooojhlndlebdaaRRRDoorRRRRW.PrintMore
attribute [local go_sem] Oper.semAt_some

theorem steps_calls (s : ByteArray) (w : World) : Calls Tryd.prog 21 #[.string s] w fun e w' => e = .returned (.func (.func 33) #[] #[.pointer (some ⟨w.heap.size, 0, none⟩)]) ∧ w' = w.alloc (.cells #[.string s] 9 (0, 0)) := by
  go_enter Tryd.func21, Tryd.ntmps21
  go_wp2_with fail
  go_ret
  exact ⟨rfl, rfl⟩
/-- The text '1 0'. -/
def oneS : ByteArray := ⟨#[49, 32, 48]⟩
def oneL : List S33 := [⟨false, [1]⟩]
theorem one_is : (readF oneS).1.steps = oneL := by kernel_rfl
theorem C_one {w : World} {G G2 : Nat} (h1 : w.heap[G]? = some (.cells #[.int .i64 1] 3 (0, 0))) (h2 : w.heap[G2]? = some (.cells #[.bool false, .slice (some ⟨G, 0, none⟩) 1 1] 33 (0, 0))) : Kd.C k33 w (some ⟨G2, 0, none⟩) oneL.length oneL := by
  refine ⟨rfl, by decide, fun _ => ⟨_, rfl, fun j p hj => ?_⟩⟩
  cases j with
  | succ j => cases hj
  | zero =>
    obtain rfl := Option.some.inj hj
    refine ⟨[.bool false, .slice (some ⟨G, 0, none⟩) 1 1], rfl, k33_mk w ⟨false, [1]⟩ (A1 := some ⟨G, 0, none⟩) (c1 := 1) (Nat.le_refl _) ⟨rfl, by decide, fun _ => ⟨_, rfl, fun j p hj => ?_⟩⟩, fun i u hu => ?_⟩
    · cases j with
      | succ j => cases hj
      | zero =>
        obtain rfl := Option.some.inj hj
        refine ⟨[.int .i64 1], rfl, rfl, fun i u hu => ?_⟩
        cases i with
        | succ i => cases hu
        | zero => exact (blk_cell h1 0).trans hu
    · cases i with
      | zero => exact (blk_cell h2 0).trans hu
      | succ i =>
        cases i with
        | zero => exact (blk_cell h2 1).trans hu
        | succ i => cases hu
/-- gives over '1 0'. -/
theorem gives_one (G G2 g : Nat) (w : World) (hE : Env w) (hg : w.heap[g]? = some (.cells #[.string oneS] 9 (0, 0))) (h1 : w.heap[G]? = some (.cells #[.int .i64 1] 3 (0, 0))) (h2 : w.heap[G2]? = some (.cells #[.bool false, .slice (some ⟨G, 0, none⟩) 1 1] 33 (0, 0))) :
    Calls Tryd.prog 20 #[.func (.func 33) #[] #[.pointer (some ⟨g, 0, none⟩)], .slice (some ⟨G2, 0, none⟩) 1 1] w fun e w' => e = .returned (.bool true) ∧ Below w.heap.size w w' := by
  have h := gives_true oneS (by decide) (some ⟨G2, 0, none⟩) 1 g w hE hg
  rw [one_is] at h
  exact h (C_one h1 h2) (Nat.le_refl _) (fun x hx => by simp [oneL] at hx; subst hx; decide) (by decide)
set_option maxHeartbeats 4000000 in
set_option maxRecDepth 100000 in
theorem numbers_calls (w : World) (hE : Env w) : Calls Tryd.prog 6 #[] w fun e w' => e = .returned (.bool true) ∧ Below w.heap.size w w' := by
  have HE := Aside0.mk hE
  clear hE
  go_enter Tryd.func6, Tryd.ntmps6
  go_wp2_with fail
  refine (steps_calls oneS w).mono ?_
  rintro e w1 ⟨rfl, rfl⟩
  go_wp2_with fail
  obtain ⟨w3, hw3⟩ : ∃ w3, ((w.alloc (.cells #[.string oneS] 9)).alloc (.cells #[.int .i64 1] 3)).alloc (.cells #[.bool false, .slice (some ⟨w.heap.size + 1, 0, none⟩) 1 1] 33) = w3 := ⟨_, rfl⟩
  have hb : Below w.heap.size w w3 := by rw [← hw3]; exact (((Below.refl _ w).alloc (Nat.le_refl _) _).alloc (by simp) _).alloc (by simp; omega) _
  have e0 : w3.heap[w.heap.size]? = some (.cells #[.string oneS] 9 (0, 0)) := by rw [← hw3]; exact blk_alloc (blk_alloc (blk_new w _) _) _
  have e1 : w3.heap[w.heap.size + 1]? = some (.cells #[.int .i64 1] 3 (0, 0)) := by
    rw [← hw3]
    have := blk_new (w.alloc (.cells #[.string oneS] 9)) (.cells #[.int .i64 1] 3)
    rw [World.size_alloc] at this
    exact blk_alloc this _
  have e2 : w3.heap[w.heap.size + 1 + 1]? = some (.cells #[.bool false, .slice (some ⟨w.heap.size + 1, 0, none⟩) 1 1] 33 (0, 0)) := by
    rw [← hw3]
    have := blk_new ((w.alloc (.cells #[.string oneS] 9)).alloc (.cells #[.int .i64 1] 3)) (.cells #[.bool false, .slice (some ⟨w.heap.size + 1, 0, none⟩) 1 1] 33)
    rw [World.size_alloc, World.size_alloc] at this
    exact this
  rw [hw3]
  refine (gives_one (w.heap.size + 1) (w.heap.size + 1 + 1) w.heap.size w3 (HE.out.below hb) e0 e1 e2).mono ?_
  rintro e w4 ⟨rfl, hb4⟩
  have HB := Aside0.mk (hb.trans (hb4.mono hb.size))
  clear hb hb4 e0 e1 e2 hw3
  go_wp2_with fail
  go_ret
  exact ⟨rfl, HB.out⟩
end Go.Proofs.YtooojhlndlebdaaRRRDoorRRRR.R
end
