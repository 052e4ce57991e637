/- What lies while a law's own range over drat.Steps' iterator goes round; a region of calls inside a round. No conditions. -/
import Derived.Test.YtooojhlndlebdaaRRRDoorRRRRStepsR
set_option linter.unusedVariables false
set_option linter.unusedSimpArgs false
namespace Go.Proofs.YtooojhlndlebdaaRRRDoorRRRR.R
open Go.RowKit Go.Lib Go.Proofs.YtooojhlndlebdaaRRRDoorRRRRW.PrintWords Go.Proofs.YtooojhlndlebdaaRRRDoorRRRRW.PrintLast Go.Proofs.YtooojhlndlebdaaRRRDoorRRRRW.PrintMore
open Go.Proofs.YtooojhlndlebdaaRRRDoorRRRR.Q (KeepC KC RW SeqR postR wpIn_rangeR noDefer noDefer_spec wpAnyIn_of_quietR)

/-- The boxes lie, the count stands. -/
structure IB (w0 : World) (Bs : List (Nat × Nat × Value)) (m k : Nat) (W : World) : Prop where
  below : Below w0.heap.size w0 W
  boxes : ∀ x ∈ Bs, Bx W x.1 x.2.1 x.2.2
  num : Bx W m 3 (.int .i64 (k : Nat))
theorem IB.keep {w0 : World} {Bs : List (Nat × Nat × Value)} {m k N : Nat} {A B : World} (hN : w0.heap.size ≤ N) (h : IB w0 Bs m k A) (q : KeepC N A B) : IB w0 Bs m k B :=
  ⟨below_keep (Nat.le_refl _) hN h.below q, fun x hx => (h.boxes x hx).keep q, h.num.keep q⟩
theorem IB.on {w0 : World} {Bs : List (Nat × Nat × Value)} {m k : Nat} {A B : World} (h : IB w0 Bs m k A) (q : Below A.heap.size A B) : IB w0 Bs m k B := h.keep (Nat.le_refl _) (KeepC.below (N := w0.heap.size) q)
theorem IB.num_set {w0 : World} {Bs : List (Nat × Nat × Value)} {m k k' : Nat} {A : World} (hm : w0.heap.size ≤ m) (ht : ∀ x ∈ Bs, x.2.1 ≠ 3) (h : IB w0 Bs m k A) : IB w0 Bs m k' (A.setCell ⟨m, 0, none⟩ (.int .i64 (k' : Nat))) :=
  ⟨h.below.setCell hm _, fun x hx => by
    have hn : x.1 ≠ m := blk_ne (h.boxes x hx) h.num (ht x hx)
    exact blk_far (h.boxes x hx) hn _, blk_set h.num 0 _⟩
/-- A world in which what lay still lies. -/
structure Wb (A : World) where
  val : World
  bel : Below A.heap.size A val
variable {F : Fence} {n : Nat} {P : Program} {ops : Array Oper}
theorem region_classR {id : Nat} {Q : Exit → Act → World → Prop} {a : Act} {w : World} {l : List Oper} (hd : l.all noDefer = true) (hm : P.follows .mixedOrders = true) (hB : Region.lexB .any l.toArray = true)
    (h : wpQuietIn F n P l.toArray (fun w' => ∃ i : Wb w, w' = i.val) (fun a' => ∀ w', (∃ i : Wb w, w' = i.val) → Q .normal a' w') l a) : (Code.region id l.toArray true).wpIn F n P Q a w := by
  simp only [Region.lexB, Bool.and_eq_true] at hB
  have hC : (fun w' => ∃ i : Wb w, w' = i.val) { w with drawn := w.drawn + 1 } := ⟨⟨{ w with drawn := w.drawn + 1 }, ⟨rfl, rfl, rfl, Nat.le_refl _, fun _ _ => rfl⟩⟩, rfl⟩
  have hd' : ∀ (i : Nat) o, l.toArray[i]? = some o → ∀ c, o.op ≠ .defer c := fun i o ho => noDefer_spec (List.all_eq_true.1 hd o (by
    rw [List.getElem?_toArray] at ho
    exact List.mem_of_getElem? ho))
  refine wpIn_region_any hm (wpAnyIn_of_quietR (C := fun w' => ∃ i : Wb w, w' = i.val) (Q := fun a' => ∀ w', (∃ i : Wb w, w' = i.val) → Q .normal a' w') hd' (fun _ w' hw' h => h w' hw') _ _ _ _ hC ?_)
  have := wpAnyQIn_lex (F := F) (n := n) (C := fun w' => ∃ i : Wb w, w' = i.val) (md := .any) hB.1 l 0 (Array.replicate l.toArray.size false) a (by simp) (by simpa using hB.2) h
  simpa using this
end Go.Proofs.YtooojhlndlebdaaRRRDoorRRRR.R
