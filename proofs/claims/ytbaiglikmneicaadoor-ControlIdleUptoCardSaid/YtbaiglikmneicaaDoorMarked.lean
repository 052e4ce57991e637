/- A row of bytes that a call has made by []byte(s) and appends to: []byte(s) marks its block (a place behind the last cell), so the laws over owned rows do not take it. No conditions. -/
import Derived.Test.YtbaiglikmneicaaDoorPx0
import Derived.Lib.FrozenHead2
import Derived.Lib.ConvBytes
import Derived.Lib.UnsafeStr
import Derived.Lib.AtoiErrMem
set_option linter.unusedVariables false
set_option linter.unusedSimpArgs false
namespace Go.Proofs.YtbaiglikmneicaaDoor.M
open Go.RowKit Go.Lib Go.Proofs.YtbaiglikmneicaaDoorW.PrintWords

/-- The slice value v holds the cells cs in a block of the call's own (from 'base' on), none of whose cells is frozen. -/
def Owns (w : World) (base : Nat) (e : TypeId) (v : Value) (cs : List Value) : Prop :=
  ∃ g cap cur fz, v = .slice (some ⟨g, 0, none⟩) cs.length cap ∧ base ≤ g ∧ w.heap[g]? = some (.cells cur e fz) ∧ (∀ j, j < cur.size → ¬ (fz.1 ≤ j ∧ j < fz.2)) ∧ cs.length ≤ cap ∧ cap ≤ maxLen ∧ cur.size = cap ∧ cur.toList.take cs.length = cs

theorem store_at (P : Program) (g o : Nat) (t : TypeId) (fz : Nat × Nat) (vs : List Value) : ∀ (i : Nat) (cur : Array Value) (w : World), w.heap[g]? = some (.cells cur t fz) → (∀ j, j < cur.size → ¬ (fz.1 ≤ j ∧ j < fz.2)) → o + i + vs.length ≤ cur.size → (∀ v ∈ vs, v.oneCell' = true) →
    (storeCells ⟨g, o, none⟩ vs i).run P w = .ok () (w.setRow g (cur.toList.take (o + i) ++ vs ++ cur.toList.drop (o + i + vs.length)).toArray) := by
  induction vs with
  | nil =>
    intro i cur w hg _ _ _
    simp only [storeCells, List.append_nil, List.length_nil, Nat.add_zero, List.take_append_drop, Array.toArray_toList]
    rw [setRow_self w g cur t fz hg]
    rfl
  | cons v rest ih =>
    intro i cur w hg hfz hl h1
    simp only [List.length_cons] at hl
    have hi : o + i < cur.size := by omega
    have hadd : (⟨g, o, none⟩ : Addr).add i = ⟨g, o + i, none⟩ := by unfold Addr.add; split <;> simp_all
    have hcell : w.cell? ⟨g, o + i, none⟩ = some cur[o + i] := by simp [World.cell?, hg, hi]
    have hfro : w.frozen? ⟨g, o + i, none⟩ = false := by
      have := hfz (o + i) hi
      obtain ⟨lo, hi'⟩ := fz
      simp only [World.frozen?, hg, Bool.and_eq_false_iff, decide_eq_false_iff_not]
      simp only at this
      omega
    have hst : (store ((⟨g, o, none⟩ : Addr).add i) v).run P w = .ok () (w.setRow g (cur.setIfInBounds (o + i) v)) := by
      rw [hadd, run_store P w _ v _ (h1 v (by simp)), hcell]
      simp [hfro, setCell_eq_setRow w g (o + i) cur t fz v hg]
    have ih' := ih (i + 1) (cur.setIfInBounds (o + i) v) (w.setRow g (cur.setIfInBounds (o + i) v)) (setRow_heap w g cur _ t _ hg) (by simpa using hfz) (by simp; omega) (fun x hx => h1 x (by simp [hx]))
    simp only [storeCells, Sem.run_bind, hst, Result.andThen_ok, ih', setRow_setRow]
    congr 3
    have e := list_seg_step cur.toList (o + i) v rest (by simp; omega)
    simpa [Array.toList_setIfInBounds, Nat.add_assoc] using e

section
variable {P : Program} {w : World} {base : Nat} {e : TypeId} {v : Value} {cs : List Value}

theorem Owns.on {w' : World} (h : Owns w base e v cs) (hb : Below w.heap.size w w') : Owns w' base e v cs := by
  obtain ⟨g, cap, cur, fz, hv, hbg, hg, rest⟩ := h
  exact ⟨g, cap, cur, fz, hv, hbg, (hb.block g (Array.getElem?_eq_some_iff.1 hg).1).trans hg, rest⟩

theorem Owns.cells (h : Owns w base e v cs) : ∃ g cap, v = .slice (some ⟨g, 0, none⟩) cs.length cap ∧ base ≤ g ∧ g < w.heap.size ∧ cs.length ≤ cap ∧ cap ≤ maxLen ∧ ∀ j u, cs[j]? = some u → w.cell? ((⟨g, 0, none⟩ : Addr).add j) = some u := by
  obtain ⟨g, cap, cur, fz, rfl, hbg, hg, hfz, hnc, hcm, hcs, htake⟩ := h
  refine ⟨g, cap, rfl, hbg, (Array.getElem?_eq_some_iff.1 hg).1, hnc, hcm, fun j u hu => ?_⟩
  have hadd : (⟨g, 0, none⟩ : Addr).add j = ⟨g, j, none⟩ := by unfold Addr.add; split <;> simp_all
  rw [hadd, cell_of_row w g j cur e fz hg]
  rw [← htake, List.getElem?_take] at hu
  split at hu
  · simpa using hu
  · cases hu

/-- A new block that growth has laid. -/
theorem Owns.laid (w : World) (news : List Value) (n old : Nat) (hn : n = (cs ++ news).length) (hbase : base ≤ w.heap.size) (h63 : n ≤ maxLen) :
    Owns (w.drew.alloc (.cells (cs.toArray ++ news.toArray ++ Builtin.zeroCells (Value.int .u8 0).cells (grownCap w n old e - n)) e)) base e (.slice (some ⟨w.heap.size, 0, none⟩) n (grownCap w n old e)) (cs ++ news) := by
  have hge := grownCap_ge w n old e
  subst hn
  refine ⟨w.heap.size, _, _, (0, 0), rfl, hbase, heap_alloc_new w.drew _, fun j _ h => absurd h.2 (Nat.not_lt_zero _), hge, grownCap_le_maxLen w _ old e h63, ?_, ?_⟩
  · have hz1 : (Value.int IntKind.u8 0).cells.size = 1 := rfl
    simp only [Array.size_append, List.size_toArray, size_zeroCells, hz1, List.length_append] at hge ⊢
    omega
  · simp only [Array.toList_append]
    exact List.take_left

theorem grownBy_laid (w : World) (o : Obj) (row : Option Nat) : w.grownBy (w.drew.alloc o) row := ⟨rfl, rfl, rfl, by simp, fun k hk _ => Go.Lib.alloc_old w.drew _ k hk⟩

/-- The room's arm: the row written in place. -/
theorem Owns.put {g cap : Nat} {cur : Array Value} {fz : Nat × Nat} (hbg : base ≤ g) (hg : w.heap[g]? = some (.cells cur e fz)) (hfz : ∀ j, j < cur.size → ¬ (fz.1 ≤ j ∧ j < fz.2)) (hcm : cap ≤ maxLen) (hcs : cur.size = cap) (htake : cur.toList.take cs.length = cs) (news : List Value) (hroom : cs.length + news.length ≤ cap) :
    Owns (w.setRow g (cur.toList.take cs.length ++ news ++ cur.toList.drop (cs.length + news.length)).toArray) base e (.slice (some ⟨g, 0, none⟩) (cs.length + news.length) cap) (cs ++ news) := by
  have hsz : (cur.toList.take cs.length ++ news ++ cur.toList.drop (cs.length + news.length)).toArray.size = cap := by
    simp only [List.size_toArray, List.length_append, List.length_take, List.length_drop, Array.length_toList]
    omega
  refine ⟨g, cap, _, fz, by rw [List.length_append], hbg, setRow_heap w g cur _ e _ hg, by rw [hsz, ← hcs]; exact hfz, by rw [List.length_append]; exact hroom, hcm, hsz, ?_⟩
  rw [htake]
  exact List.take_left

theorem run_string (t u ty : TypeId) (i : TypeInfo) (ht : P.underlying t = some (.slice e)) (hu : P.underlying u = some .string) (hi : P.info? e = some i) (hz : i.zero = some (.int .u8 0)) (hsize : i.size = 1) (hby : i.bytes = 1)
    (hown : Owns w base e v cs) (s : ByteArray) (hl : cs.length + s.size ≤ 140737488355328) (hbase : base ≤ w.heap.size) :
    ∃ v' w', (Builtin.append_ #[t, u] ty #[v, .string s]).run P w = .ok v' w' ∧ Owns w' base e v' (cs ++ strCells s) ∧ w.grownBy w' v.ownBlock := by
  obtain ⟨g0, cap0, hv0, _, _, _, _, holds⟩ := hown.cells
  obtain ⟨g, cap, cur, fz, rfl, hbg, hg, hfz, hnc, hcm, hcs, htake⟩ := hown
  injection hv0 with h1 h2 h3
  injection h1 with h1
  injection h1 with h1
  subst h1
  by_cases hroom : cs.length + s.size ≤ cap
  · have hf := run_firstCells_string (P := P) w 1 s
    have hst := store_at P g cs.length e fz (strCells s) 0 cur w hg hfz (by rw [strCells_length]; omega) (strCells_oneCell s)
    simp only [Nat.add_zero, strCells_length] at hst
    have hp := Owns.put (w := w) (base := base) hbg hg hfz hcm hcs htake (strCells s) (by rw [strCells_length]; exact hroom)
    rw [strCells_length] at hp
    refine ⟨_, _, ?_, hp, ⟨rfl, rfl, rfl, by simp, fun k _ hk => setRow_other w g k _ (fun e => hk (by simp [Value.ownBlock, e]))⟩⟩
    simp [Builtin.append_, run_underlying ht, run_underlying hu, sizeOf, typeInfo, hi, hsize, Builtin.lenOf, hroom, hf, Addr.add_lit, hst]
  · have hr := run_append_grow_string (P := P) w t u ty e i (.int .u8 0) ht hu hi hz ⟨g, 0, none⟩ cs.length cap cs (by rw [hsize]; simp) holds s (by omega) (by omega) (by rw [hby]; exact growslice_fits (by omega) (by omega))
    exact ⟨_, _, hr, Owns.laid w (strCells s) _ cap (by rw [List.length_append, strCells_length]) hbase (by unfold maxLen; omega), grownBy_laid w _ _⟩

theorem run_slice (t ty : TypeId) (i : TypeInfo) (ht : P.underlying t = some (.slice e)) (hi : P.info? e = some i) (hz : i.zero = some (.int .u8 0)) (hsize : i.size = 1) (hby : i.bytes = 1)
    (hown : Owns w base e v cs) (a : Addr) (m c : Nat) (news : List Value) (hm : news.length = m) (hnews : ∀ j u, news[j]? = some u → w.cell? (a.add j) = some u) (h1 : ∀ u ∈ news, u.oneCell' = true) (hl : cs.length + m ≤ 140737488355328) (hbase : base ≤ w.heap.size) :
    ∃ v' w', (Builtin.append_ #[t, t] ty #[v, .slice (some a) m c]).run P w = .ok v' w' ∧ Owns w' base e v' (cs ++ news) ∧ w.grownBy w' v.ownBlock := by
  obtain ⟨g0, cap0, hv0, _, _, _, _, holds⟩ := hown.cells
  obtain ⟨g, cap, cur, fz, rfl, hbg, hg, hfz, hnc, hcm, hcs, htake⟩ := hown
  injection hv0 with h1' h2 h3
  injection h1' with h1'
  injection h1' with h1'
  subst h1'
  subst hm
  by_cases hroom : cs.length + news.length ≤ cap
  · have hf := run_firstCells_some (P := P) w 1 news.length a news.length c news (by simp) hnews
    have hst := store_at P g cs.length e fz news 0 cur w hg hfz (by omega) h1
    simp only [Nat.add_zero] at hst
    refine ⟨_, _, ?_, Owns.put (w := w) (base := base) hbg hg hfz hcm hcs htake news hroom, ⟨rfl, rfl, rfl, by simp, fun k _ hk => setRow_other w g k _ (fun e => hk (by simp [Value.ownBlock, e]))⟩⟩
    simp [Builtin.append_, run_underlying ht, sizeOf, typeInfo, hi, hsize, Builtin.lenOf, hroom, hf, Addr.add_lit, hst]
  · have hr := run_append_grow (P := P) w t ty e i (.int .u8 0) ht hi hz ⟨g, 0, none⟩ cs.length cap cs (by rw [hsize]; simp) holds a news.length c news (by rw [hsize]; simp) hnews (by omega) (by omega) (by rw [hby]; exact growslice_fits (by omega) (by omega))
    exact ⟨_, _, hr, Owns.laid w news _ cap (by rw [List.length_append]) hbase (by unfold maxLen; omega), grownBy_laid w _ _⟩
end

/-- The bytes xs, held by the value v in a row of the call's own; nothing that stood in w0 is touched. -/
structure Row (e : TypeId) (w0 : World) (xs : List UInt8) (v : Value) (w : World) : Prop where
  own : Owns w w0.heap.size e v (byteCells xs)
  below : Below w0.heap.size w0 w

section
variable {P : Program} {e : TypeId} {w0 w : World} {xs : List UInt8} {v : Value}
theorem Row.on {w' : World} (h : Row e w0 xs v w) (hb : Below w.heap.size w w') : Row e w0 xs v w' := ⟨h.own.on hb, h.below.trans (hb.mono h.below.size)⟩
theorem Row.alloc (h : Row e w0 xs v w) (o : Obj) : Row e w0 xs v (w.alloc o) := h.on ((Below.refl _ _).alloc (Nat.le_refl _) o)
theorem Row.drew (h : Row e w0 xs v w) : Row e w0 xs v w.drew := h.on (Below.refl _ _).drew

/-- What []byte(s) leaves. -/
theorem Row.made (hb : Below w0.heap.size w0 w) (s : ByteArray) (hs : s.size ≤ 140737488355328) : Row e w0 s.data.toList (.slice (some ⟨w.heap.size, 0, none⟩) s.size (grownCap w s.size 0 e)) (bytesWorld w e s) := by
  refine ⟨?_, hb.trans ((bytesWorld_below w e s).mono hb.size)⟩
  have hge := grownCap_ge w s.size 0 e
  have hcl : (bytesCells w e s).size = grownCap w s.size 0 e := by
    have : s.data.size = s.size := rfl
    simp [bytesCells, this]; omega
  have hbl : (byteCells s.data.toList).length = s.size := by simp [byteCells]
  refine ⟨w.heap.size, _, _, _, by rw [hbl], hb.size, bytesWorld_at_new w e s, fun j hj h => by simp only at h; omega, by rw [hbl]; exact hge, grownCap_le_maxLen w _ 0 e (by unfold maxLen; omega), hcl, ?_⟩
  rw [hbl]
  have : (bytesCells w e s).toList = byteCells s.data.toList ++ List.replicate (grownCap w s.size 0 e - s.size) (.int .u8 0) := by simp [bytesCells, byteCells]
  rw [this, ← hbl]
  exact List.take_left

theorem Row.grown {w' : World} {v' : Value} {ys : List UInt8} (h : Row e w0 xs v w) (ho : Owns w' w0.heap.size e v' (byteCells ys)) (hg : w.grownBy w' v.ownBlock) : Row e w0 ys v' w' := by
  obtain ⟨g, cap, hv, hbg, _⟩ := h.own.cells
  exact ⟨ho, h.below.grown hg h.below.size (fun k hk => by subst hv; simp [Value.ownBlock] at hk; omega)⟩

/-- append(v, s...), s a string. -/
theorem Row.append_string {ops : Array Oper} {rest : List Oper} {o : Oper} {a : Act} {Q : Exit → Act → World → Prop} (h0 : Row e w0 xs v w) (hgd : o.guard = none) (sl x : Operand) (t u : TypeId)
    (ho : o.op = .call { callee := .builtin .append, args := #[sl, x], argTypes := #[t, u] })
    (ht : P.underlying t = some (.slice e)) (hu : P.underlying u = some .string) (hinfo : (P.info? e).map (fun i => (i.zero, i.size, i.bytes)) = some (some (.int .u8 0), 1, 1))
    (hs : a.eval sl = v) (s : ByteArray) (hx : a.eval x = .string s) (hl : xs.length + s.size ≤ 140737488355328)
    (h : ∀ v' w', Row e w0 (xs ++ s.data.toList) v' w' → w.grownBy w' v.ownBlock → wpList P ops Q rest (a.put o.dst v') w') : wpList P ops Q (o :: rest) a w := by
  refine wpList_plain hgd fun K hK => ?_
  obtain ⟨i, hi, hzz⟩ := Option.map_eq_some_iff.1 hinfo
  simp only [Prod.mk.injEq] at hzz
  obtain ⟨v', w', hr, h2, h3⟩ := run_string (P := P) t u o.type i ht hu hi hzz.1 hzz.2.1 hzz.2.2 h0.own s (by rw [byteCells_length]; exact hl) h0.below.size
  unfold Oper.wp execOp
  simp only [ho, resolve, invoke, builtin, Sem.run_bind, Sem.run_pure, Result.andThen_ok, List.map_toArray, List.map_cons, List.map_nil, hs, hx, hr]
  rw [strCells_eq, ← byteCells_append] at h2
  exact hK _ _ (h v' w' (h0.grown h2 h3) h3)

/-- append(v, b), the b laid in a row of one cell. -/
theorem Row.append_slice {ops : Array Oper} {rest : List Oper} {o : Oper} {a : Act} {Q : Exit → Act → World → Prop} (h0 : Row e w0 xs v w) (hgd : o.guard = none) (sl x : Operand) (t : TypeId)
    (ho : o.op = .call { callee := .builtin .append, args := #[sl, x], argTypes := #[t, t] })
    (ht : P.underlying t = some (.slice e)) (hinfo : (P.info? e).map (fun i => (i.zero, i.size, i.bytes)) = some (some (.int .u8 0), 1, 1))
    (hs : a.eval sl = v) (b : UInt8) (z : Int) (hz : z = (b.toNat : Int)) (ad : Addr) (c : Nat) (hx : a.eval x = .slice (some ad) 1 c) (hcell : w.cell? (ad.add 0) = some (.int .u8 z)) (hl : xs.length + 1 ≤ 140737488355328)
    (h : ∀ v' w', Row e w0 (xs ++ [b]) v' w' → w.grownBy w' v.ownBlock → wpList P ops Q rest (a.put o.dst v') w') : wpList P ops Q (o :: rest) a w := by
  refine wpList_plain hgd fun K hK => ?_
  obtain ⟨i, hi, hzz⟩ := Option.map_eq_some_iff.1 hinfo
  simp only [Prod.mk.injEq] at hzz
  obtain ⟨v', w', hr, h2, h3⟩ := run_slice (P := P) t o.type i ht hi hzz.1 hzz.2.1 hzz.2.2 h0.own ad 1 c [.int .u8 z] rfl
    (fun j u hj => by
      cases j with
      | zero => simp at hj; rw [← hj]; exact hcell
      | succ j => simp at hj) (fun u hu => by simp at hu; subst hu; rfl) (by rw [byteCells_length]; exact hl) h0.below.size
  unfold Oper.wp execOp
  simp only [ho, resolve, invoke, builtin, Sem.run_bind, Sem.run_pure, Result.andThen_ok, List.map_toArray, List.map_cons, List.map_nil, hs, hx, hr]
  have e1 : byteCells xs ++ [Value.int .u8 z] = byteCells (xs ++ [b]) := by rw [byteCells_append, hz]; rfl
  rw [e1] at h2
  exact hK _ _ (h v' w' (h0.grown h2 h3) h3)

/-- string(v). -/
theorem Row.string {src dst : TypeId} (h0 : Row e w0 xs v w) (hs : P.underlying src = some (.slice e)) (he : P.underlying e = some (.int .u8)) (hd : P.underlying dst = some .string) (hl : xs.length ≤ 140737488355328) :
    (convert src dst v).run P w = .ok (.string ⟨xs.toArray⟩) w := by
  obtain ⟨g, cap, hv, hbg, hgl, hnc, hcm, hc⟩ := h0.own.cells
  rw [hv, byteCells_length]
  have hR : ReadsInt w .u8 (some ⟨g, 0, none⟩) xs.length (xs.map fun b => (b.toNat : Int)) := by
    refine ⟨by simp, by omega, fun _ => ⟨_, rfl, fun j hj => ?_⟩⟩
    have hj' : j < xs.length := by simpa using hj
    have := hc j (.int .u8 (xs[j]'hj').toNat) (by simp [byteCells, hj'])
    simpa [List.getD_eq_getElem?_getD, hj'] using this
  rw [string_of_reads hs he hd hR]
  have : strOfNums (xs.map fun b => (b.toNat : Int)) = ⟨xs.toArray⟩ := by
    unfold strOfNums
    rw [List.map_map]
    congr 2
    conv => rhs; rw [← List.map_id xs]
    apply List.map_congr_left
    intro b _
    simp
  rw [this]
end
end Go.Proofs.YtbaiglikmneicaaDoor.M
