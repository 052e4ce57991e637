/- Rows with room behind them: what lies, and how it reads. No conditions. depotkit.LentRows: what lies while it builds, and what each row leaves. No conditions. depotkit.OverRows: all is written over. Conditions: bounds on the lengths. What lies behind OverRows, as a list; what lay before. No conditions. Rows of numbers that were read: their cells, their own rows, all apart; several such lists in parted ranges: depotkit.ApartFormulas is true of them. No conditions. depotkit.LentRows: what it makes. Condition: fewer than two million rows, each of fewer than two million numbers. -/
import Derived.Test.YtlhajfepcggjaaaGreatDoorKA
import Derived.Test.YtlhajfepcggjaaaGreatDoorRx0
import Derived.Test.YtlhajfepcggjaaaGreatDoorRx6
import Derived.LoopN
import Derived.Deep.DeepAppendRoom
set_option linter.unusedVariables false
set_option linter.unusedSimpArgs false
namespace Go.Proofs.YtlhajfepcggjaaaGreatDoor.KP
open Go Go.RowKit Go.Proofs.YtlhajfepcggjaaaGreatDoorW.PrintWords Go.Proofs.YtlhajfepcggjaaaGreatDoorW.PrintLast Go.Proofs.YtlhajfepcggjaaaGreatDoorW.PrintMore Go.Proofs.YtlhajfepcggjaaaGreatDoor.R

/-- A row of numbers that is one's own. -/
abbrev RI (w : World) (base : Nat) (v : Value) (R : List Int) : Prop := Kd.R (Kd.int .i64) 3 w base (fun _ => True) v R
theorem C_take {α : Type} {d : Kd α} {w : World} {A : Option Addr} {n m : Nat} {xs : List α} (h : d.C w A n xs) (hm : m ≤ n) : d.C w A m (xs.take m) := by
 obtain ⟨h1, h2, h3⟩ := h
 refine ⟨by rw [List.length_take]; omega, by omega, fun hp => ?_⟩
 obtain ⟨ad, hA, hc⟩ := h3 (by omega)
 refine ⟨ad, hA, fun j p hj => hc j p ?_⟩
 have hjl : j < m := by
  have := (List.getElem?_eq_some_iff.1 hj).1
  rw [List.length_take] at this
  omega
 rwa [List.getElem?_take, if_pos hjl] at hj
/-- A row behind the list: its mark in a list of its own. -/
def behR (w : World) (i : Nat) (b : Value) : Prop := ∃ g, b = .slice (some ⟨g, 0, none⟩) 1 1 ∧ w.heap[g]? = some (.cells #[.int .i64 (mkv 1 i)] 3 (0, 0))
/-- The cells of rows: m of l's, each the head of its row; q that bear a mark. -/
structure InR (l : List (List Int)) (w : World) (rs cs : List Value) (m q : Nat) : Prop where
 len : cs.length = m + q
 each : ∀ (j : Nat) (x : List Int), j < m → l[j]? = some x → ∃ A n c, rs[j]? = some (.slice A n c) ∧ cs[j]? = some (.slice A x.length c)
 beh : ∀ i : Nat, i < q → ∃ b, cs[m + i]? = some b ∧ behR w i b
theorem InR.keep {l : List (List Int)} {w W : World} {rs cs : List Value} {m q : Nat} (h : InR l w rs cs m q) (hq : Kp 3 w W) : InR l W rs cs m q :=
 ⟨h.len, h.each, fun i hi => by
  obtain ⟨b, h1, g, h4, h5⟩ := h.beh i hi
  exact ⟨b, h1, g, h4, hq g _ h5⟩⟩
/-- The rows. -/
structure RowsR (w : World) (base : Nat) (rs : List Value) (Rs : List (List Int)) : Prop where
 len : rs.length = Rs.length
 own : ∀ (j : Nat) (r : Value) (R : List Int), rs[j]? = some r → Rs[j]? = some R → RI w base r R
 sep : apart rs
theorem RowsR.below {w w1 : World} {base : Nat} {rs : List Value} {Rs : List (List Int)} (h : RowsR w base rs Rs) (hb : Below w.heap.size w w1) : RowsR w1 base rs Rs :=
 ⟨h.len, fun j r R hr hR => Kd.R_below (h.own j r R hr hR) hb, h.sep⟩
/-- What LentRows makes. -/
structure PapersR (w : World) (base : Nat) (wholeV rowsV : Value) (l : List (List Int)) (rs cs : List Value) (Rs : List (List Int)) : Prop where
 own : w.ownsRow base 43 1 wholeV (l.length + 64) cs
 inn : InR l w rs cs l.length 64
 own2 : w.ownsRow base 43 1 rowsV l.length rs
 rows : RowsR w base rs Rs
 fit : ∀ (j : Nat) (x : List Int), l[j]? = some x → ∃ R, Rs[j]? = some R ∧ x.length ≤ R.length
 nrow : Rs.length = l.length
 two : ∀ b, wholeV.ownBlock = some b → rowsV.ownBlock = some b → False
theorem PapersR.below {w w1 : World} {base : Nat} {wholeV rowsV : Value} {l : List (List Int)} {rs cs : List Value} {Rs : List (List Int)} (h : PapersR w base wholeV rowsV l rs cs Rs) (hb : Below w.heap.size w w1) : PapersR w1 base wholeV rowsV l rs cs Rs :=
 ⟨own_below h.own hb, h.inn.keep (Kp.below hb), own_below h.own2 hb, h.rows.below hb, h.fit, h.nrow, h.two⟩
/-- The rows that are read at the list's head. -/
def headsR (l : List (List Int)) (Rs : List (List Int)) : List (List Int) := (List.range l.length).map fun j => (Rs.getD j []).take (l.getD j []).length
theorem headsR_len (l : List (List Int)) (Rs : List (List Int)) : (headsR l Rs).length = l.length := by unfold headsR; simp
theorem headsR_at {l : List (List Int)} {Rs : List (List Int)} {j : Nat} {x : List Int} {R : List Int} (hx : l[j]? = some x) (hR : Rs[j]? = some R) : (headsR l Rs)[j]? = some (R.take x.length) := by
 have hj : j < l.length := (List.getElem?_eq_some_iff.1 hx).1
 have e1 : l.getD j [] = x := by rw [List.getD_eq_getElem?_getD, hx]; rfl
 have e2 : Rs.getD j [] = R := by rw [List.getD_eq_getElem?_getD, hR]; rfl
 unfold headsR
 rw [List.getElem?_map, List.getElem?_range hj, Option.map_some, e1, e2]
/-- The rows behind the list. -/
def behL : List (List Int) := (List.range 64).map fun i => [mkv 1 i]
theorem behL_len : behL.length = 64 := by unfold behL; simp
theorem behL_at {i : Nat} (h : i < 64) : behL[i]? = some [mkv 1 i] := by
 unfold behL
 rw [List.getElem?_map, List.getElem?_range h]
 rfl
theorem C_mark {w : World} {g : Nat} {v : Int} (h : w.heap[g]? = some (.cells #[.int .i64 v] 3 (0, 0))) : Kd.C (Kd.int .i64) w (some ⟨g, 0, none⟩) 1 [v] := by
 refine ⟨rfl, by decide, fun _ => ⟨_, rfl, fun j p hj => ?_⟩⟩
 match j, hj with
 | 0, hj =>
  injection hj with hj
  subst hj
  refine ⟨[.int .i64 v], rfl, rfl, fun i u hu => ?_⟩
  match i, hu with
  | 0, hu =>
   rw [← hu]
   exact (blk_cell h 0).trans rfl
  | i + 1, hu => simp at hu
 | j + 1, hj => simp at hj
section
variable {w : World} {base : Nat} {wholeV rowsV : Value} {l : List (List Int)} {rs cs : List Value} {Rs : List (List Int)}
theorem PapersR.reads (h : PapersR w base wholeV rowsV l rs cs Rs) : ∃ g c, wholeV = .slice (some ⟨g, 0, none⟩) (l.length + 64) c ∧ l.length + 64 ≤ c ∧ Kd.C (Kd.slice 3 (Kd.int .i64)) w (some ⟨g, 0, none⟩) (l.length + 64) (headsR l Rs ++ behL) ∧ Kd.C (Kd.slice 3 (Kd.int .i64)) w (some ⟨g, 0, none⟩) l.length (headsR l Rs) := by
 obtain ⟨g, c, hv, _, _⟩ := h.own.form (by omega)
 have ho := h.own
 rw [hv] at ho
 obtain ⟨cur, _, _, hn, hc, _⟩ := own_at ho
 unfold maxLen at hc
 have key : ∀ (j : Nat) (p : List Int), (headsR l Rs ++ behL)[j]? = some p → ∃ c2, c2.length = (Kd.slice 3 (Kd.int .i64)).sz ∧ (Kd.slice 3 (Kd.int .i64)).K w p c2 ∧ ∀ i u, c2[i]? = some u → w.cell? ((⟨g, 0, none⟩ : Addr).add (j * (Kd.slice 3 (Kd.int .i64)).sz + i)) = some u := by
  intro j p hp
  rw [List.getElem?_append, headsR_len] at hp
  by_cases hj : j < l.length
  ·rw [if_pos hj] at hp
   have hx := List.getElem?_eq_getElem hj
   obtain ⟨x, ex⟩ : ∃ x, l[j] = x := ⟨_, rfl⟩
   rw [ex] at hx
   obtain ⟨R, hR, hle⟩ := h.fit j x hx
   rw [headsR_at hx hR] at hp
   injection hp with hp
   subst hp
   obtain ⟨A, n, c', hr, e1⟩ := h.inn.each j x hj hx
   have hown := h.rows.own j _ R hr hR
   obtain ⟨hn1, hcc, hCR⟩ := Kd.R_reads' hown
   subst hn1
   have hCT := C_take hCR hle
   have hlt : (R.take x.length).length = x.length := by rw [List.length_take, Nat.min_eq_left hle]
   refine ⟨[.slice A (R.take x.length).length c'], rfl, ⟨A, c', rfl, by omega, by rw [hlt]; exact hCT⟩, fun i u hu => ?_⟩
   refine own_news ho (j * 1 + i) u ?_
   rw [hlt] at hu
   match i, hu with
   | 0, hu => rw [← hu, Nat.mul_one]; exact e1
   | i + 1, hu => simp at hu
  ·rw [if_neg hj] at hp
   have hq := (List.getElem?_eq_some_iff.1 hp).1
   rw [behL_len] at hq
   rw [behL_at hq] at hp
   injection hp with hp
   subst hp
   obtain ⟨b, e1, gl, rfl, hgl⟩ := h.inn.beh (j - l.length) hq
   rw [show l.length + (j - l.length) = j by omega] at e1
   refine ⟨[.slice (some ⟨gl, 0, none⟩) 1 1], rfl, ⟨some ⟨gl, 0, none⟩, 1, rfl, by simp, C_mark hgl⟩, fun i u hu => ?_⟩
   refine own_news ho (j * 1 + i) u ?_
   match i, hu with
   | 0, hu => rw [← hu, Nat.mul_one]; exact e1
   | i + 1, hu => simp at hu
 refine ⟨g, c, hv, by omega, ⟨by rw [List.length_append, headsR_len, behL_len], by omega, fun _ => ⟨_, rfl, key⟩⟩, ⟨headsR_len _ _, by omega, fun _ => ⟨_, rfl, fun j p hp => key j p ?_⟩⟩⟩
 rw [List.getElem?_append_left (List.getElem?_eq_some_iff.1 hp).1]
 exact hp
theorem PapersR.rowsC (h : PapersR w base wholeV rowsV l rs cs Rs) : ∃ A c, rowsV = .slice A Rs.length c ∧ Rs.length ≤ c ∧ Kd.C (Kd.slice 3 (Kd.int .i64)) w A Rs.length Rs := by
 have ho := h.own2
 rw [← h.nrow] at ho
 obtain ⟨A, n, hA, c, hv⟩ : ∃ A n, n = Rs.length ∧ ∃ c, rowsV = .slice A n c := by
  rcases ho.2 with ⟨h0, h1⟩ | ⟨g', cap', cur, hv, _⟩
  ·exact ⟨none, 0, h1.symm, 0, h0⟩
  ·exact ⟨_, _, rfl, _, hv⟩
 subst hA
 subst hv
 have hc : Rs.length ≤ c ∧ Rs.length ≤ 9223372036854775807 := by
  rcases ho.2 with ⟨h0, h1⟩ | ⟨g', cap', cur, hv, _, _, hn, hc, _⟩
  ·injection h0 with _ _ h2
   omega
  ·injection hv with _ _ h2
   unfold maxLen at hc
   omega
 refine ⟨A, c, rfl, hc.1, rfl, hc.2, fun hp => ?_⟩
 obtain ⟨g, cap, hv, _, _⟩ := ho.form hp
 injection hv with e1 e2 e3
 subst e1
 refine ⟨_, rfl, fun j R hR => ?_⟩
 have hjl : j < Rs.length := (List.getElem?_eq_some_iff.1 hR).1
 have hr : rs[j]? = some (rs[j]'(by rw [h.rows.len]; exact hjl)) := List.getElem?_eq_getElem _
 obtain ⟨r, er⟩ : ∃ r, rs[j]'(by rw [h.rows.len]; exact hjl) = r := ⟨_, rfl⟩
 rw [er] at hr
 have hown := h.rows.own j r R hr hR
 obtain ⟨A', c', rfl, hcc, hCR⟩ := Kd.R_reads hown
 refine ⟨[.slice A' R.length c'], rfl, ⟨A', c', rfl, hcc, hCR⟩, fun i u hu => ?_⟩
 rw [e2, e3] at ho
 refine own_news ho (j * 1 + i) u ?_
 match i, hu with
 | 0, hu =>
  rw [← hu, Nat.mul_one]
  exact hr
 | i + 1, hu => simp at hu
end
end Go.Proofs.YtlhajfepcggjaaaGreatDoor.KP

set_option linter.unusedVariables false
set_option linter.unusedSimpArgs false
namespace Go.Proofs.YtlhajfepcggjaaaGreatDoor.KP
open Go Go.RowKit Go.Proofs.YtlhajfepcggjaaaGreatDoorW.PrintWords Go.Proofs.YtlhajfepcggjaaaGreatDoorW.PrintLast Go.Proofs.YtlhajfepcggjaaaGreatDoorW.PrintMore Go.Proofs.YtlhajfepcggjaaaGreatDoor.R

/-- The marks behind a row. -/
def marksL : List Int := (List.range 64).map fun i => mkv 0 i
theorem marksL_len : marksL.length = 64 := by unfold marksL; simp
/-- The rows that are lent. -/
def RsL (l : List (List Int)) : List (List Int) := l.map fun x => x ++ marksL
theorem RsL_at {l : List (List Int)} {j : Nat} {x : List Int} (h : l[j]? = some x) : (RsL l)[j]? = some (x ++ marksL) := by
 unfold RsL
 rw [List.getElem?_map, h]
 rfl
theorem RsL_len (l : List (List Int)) : (RsL l).length = l.length := by unfold RsL; rw [List.length_map]
theorem RI_keep {w W : World} {base : Nat} {v : Value} {R : List Int} (h : RI w base v R) (hk : ∀ b, v.ownBlock = some b → W.heap[b]? = w.heap[b]?) : RI W base v R :=
 Kd.R_mono (Kd.R_move (Kd.R_tight rfl h) (fun k hk2 => hk k hk2.symm)) (fun _ _ => trivial)
/-- Not one of the rows' blocks. -/
def offK (rs : List Value) (k : Nat) : Prop := ∀ r ∈ rs, r.ownBlock ≠ some k
/-- Within LentRows: x's cell, its lists, the rows; i rows of l's, q marked ones, m rows. -/
structure LNR (B gx : Nat) (l : List (List Int)) (i q m : Nat) (wholeV rowsV : Value) (rs cs : List Value) (w0 w : World) : Prop where
 res : w.heap[B]? = some (.cells #[.slice none 0 0, .slice none 0 0, .slice none 0 0] 29 (0, 0))
 box : w.heap[gx]? = some (.cells #[.slice none 0 0, wholeV, rowsV] 29 (0, 0))
 own : w.ownsRow B 43 1 wholeV (i + q) cs
 inn : InR l w rs cs i q
 own2 : w.ownsRow B 43 1 rowsV m rs
 rows : RowsR w B rs ((RsL l).take m)
 bel : Below B w0 w
 two : ∀ b, wholeV.ownBlock = some b → rowsV.ownBlock = some b → False
theorem bel_grown {w0 w w1 : World} {B : Nat} {v : Value} (hw : Below B w0 w) (hB : B ≤ w0.heap.size) (hg : w.grownBy w1 v.ownBlock) (hv : ∀ k, v.ownBlock = some k → B ≤ k) : Below B w0 w1 :=
 ⟨hg.os.trans hw.os, hg.tape.trans hw.tape, hg.output.trans hw.output, Nat.le_trans hw.size hg.size, fun b hb => (hg.block b (Nat.lt_of_lt_of_le hb (Nat.le_trans hB hw.size)) (fun e => by
  have := hv b e.symm
  omega)).trans (hw.block b hb)⟩
theorem cell_snoc {b : Value} {cs : List Value} {j n : Nat} (hl : cs.length = n) : (j < n → (cs ++ [b])[j]? = cs[j]?) ∧ (j = n → (cs ++ [b])[j]? = some b) := by
 refine ⟨fun h => List.getElem?_append_left (by omega), fun h => ?_⟩
 subst h
 rw [List.getElem?_append_right (by omega), hl, Nat.sub_self]
 rfl
section
variable {B gx : Nat} {l : List (List Int)} {i q m : Nat} {wholeV rowsV : Value} {rs cs : List Value} {w0 w w1 : World}
theorem LNR.below (h : LNR B gx l i q m wholeV rowsV rs cs w0 w) (hB : B ≤ w.heap.size) (hb : Below w.heap.size w w1) : LNR B gx l i q m wholeV rowsV rs cs w0 w1 :=
 ⟨blk_below h.res hb, blk_below h.box hb, own_below h.own hb, h.inn.keep (Kp.below hb), own_below h.own2 hb, h.rows.below hb, h.bel.trans (hb.mono hB), h.two⟩
theorem LNR.len (h : LNR B gx l i q m wholeV rowsV rs cs w0 w) : rs.length = m := by
 have := own_len h.own2
 omega
theorem LNR.box_rows (h : LNR B gx l i q m wholeV rowsV rs cs w0 w) (hg : w.grownBy w1 rowsV.ownBlock) : w1.heap[gx]? = some (.cells #[.slice none 0 0, wholeV, rowsV] 29 (0, 0)) := by
 refine blk_grown h.box hg fun e2 => ?_
 obtain ⟨c, hc⟩ := own_typed h.own2 gx e2.symm
 exact blk_ne h.box hc (by decide) rfl
theorem LNR.box_in (h : LNR B gx l i q m wholeV rowsV rs cs w0 w) (hg : w.grownBy w1 wholeV.ownBlock) : w1.heap[gx]? = some (.cells #[.slice none 0 0, wholeV, rowsV] 29 (0, 0)) := by
 refine blk_grown h.box hg fun e2 => ?_
 obtain ⟨c, hc⟩ := own_typed h.own gx e2.symm
 exact blk_ne h.box hc (by decide) rfl
theorem RowsR.off {w : World} {B : Nat} {rs : List Value} {Rs : List (List Int)} (h : RowsR w B rs Rs) : ∀ k, w.heap.size ≤ k → offK rs k := fun k hk r hr e => by
 obtain ⟨j, hj⟩ := List.mem_iff_getElem?.1 hr
 have hjl : j < Rs.length := by rw [← h.len]; exact (List.getElem?_eq_some_iff.1 hj).1
 have := Kd.R_lt (h.own j r _ hj (List.getElem?_eq_getElem hjl)) k e
 omega
theorem InR.more {w : World} {g : Value} (h : InR l w rs cs i q) (hi : i ≤ rs.length) : InR l w (rs ++ [g]) cs i q :=
 ⟨h.len, fun j x hj hx => by
  obtain ⟨A, n, c, h1, h2⟩ := h.each j x hj hx
  exact ⟨A, n, c, by rw [List.getElem?_append_left (by omega)]; exact h1, h2⟩, h.beh⟩
/-- The row under way joins the rows: appended, and laid into x. -/
theorem LNR.row (h : LNR B gx l i q m wholeV rowsV rs cs w0 w) (hB : B ≤ w0.heap.size) (hgx : B < gx) {x : List Int} (hx : l[m]? = some x) (him : i ≤ m) {v : Value} (hv : RI w B v (x ++ marksL)) (hoff : ∀ b, v.ownBlock = some b → offK rs b) {v' : Value} (hg : w.grownBy w1 rowsV.ownBlock) (hat : v'.ownBlock = rowsV.ownBlock ∨ ∃ b, v'.ownBlock = some b ∧ w.heap.size ≤ b) (ho : w1.ownsRow B 43 1 v' (m + 1) (rs ++ [v])) :
  LNR B gx l i q (m + 1) wholeV v' (rs ++ [v]) cs w0 (w1.setCell ⟨gx, 2, none⟩ v') := by
 have hm : m < l.length := (List.getElem?_eq_some_iff.1 hx).1
 have hml := h.len
 have hne : ∀ (b : Nat) (e : Nat) (cur : Array Value), w.heap[b]? = some (.cells cur e (0, 0)) → e ≠ 43 → some b ≠ rowsV.ownBlock := fun b e cur hb he e2 => by
  obtain ⟨c, hc⟩ := own_typed h.own2 b e2.symm
  exact blk_ne hb hc he rfl
 have hbox1 := h.box_rows hg
 have hst : ∀ {e sz n : Nat} {u : Value} {ys : List Value}, e ≠ 29 → w1.ownsRow B e sz u n ys → (w1.setCell ⟨gx, 2, none⟩ v').ownsRow B e sz u n ys := fun {e sz n u ys} he hu => own_keep hu fun b hb => by
  obtain ⟨cur, hc⟩ := own_typed hu b hb
  exact Below.heap_setCell w1 ⟨gx, 2, none⟩ v' b (blk_ne hc hbox1 he)
 have hkw : w1.ownsRow B 43 1 wholeV (i + q) cs := own_keep h.own fun b hb => hg.block b (own_lt h.own b hb).2 (fun e2 => h.two b hb e2.symm)
 have h3 : ∀ (b : Nat) (cur : Array Value), w.heap[b]? = some (.cells cur 3 (0, 0)) → (w1.setCell ⟨gx, 2, none⟩ v').heap[b]? = some (.cells cur 3 (0, 0)) := fun b cur hb => by
  have e1 := (hg.block b (blk_lt hb) (hne b 3 cur hb (by decide))).trans hb
  exact (Below.heap_setCell w1 ⟨gx, 2, none⟩ v' b (blk_ne e1 hbox1 (by decide))).trans e1
 have hRI : ∀ {r : Value} {R : List Int}, RI w B r R → RI (w1.setCell ⟨gx, 2, none⟩ v') B r R := fun {r R} hr => RI_keep hr fun b hb => by
  obtain ⟨cur, hc⟩ := Kd.R_typed hr b hb
  exact (h3 b cur hc).trans hc.symm
 have htl : ((RsL l).take m).length = m := by rw [List.length_take, RsL_len]; omega
 have htk : (RsL l).take (m + 1) = (RsL l).take m ++ [x ++ marksL] := by
  rw [List.take_add_one, RsL_at hx]
  rfl
 refine ⟨blk_far (blk_grown h.res hg (hne B 29 _ h.res (by decide))) (Nat.ne_of_lt hgx) _, ?_, hst (by decide) hkw, (h.inn.keep h3).more (by omega), hst (by decide) ho, ⟨?_, fun j r R hr hR => ?_, ?_⟩, (bel_grown h.bel hB hg (fun k hk => (own_lt h.own2 k hk).1)).setCell (Nat.le_of_lt hgx) _, fun b hb hb2 => by
  rcases hat with h1 | ⟨c, h1, h2⟩
  ·exact h.two b hb (h1 ▸ hb2)
  ·have := (own_lt h.own b hb).2
   rw [h1] at hb2
   injection hb2 with hb2
   omega⟩
 ·have := blk_set hbox1 2 v'
  exact this
 ·rw [htk, List.length_append, List.length_append, htl, hml]
  rfl
 ·rw [htk] at hR
  rcases Nat.lt_or_ge j m with hj | hj
  ·rw [List.getElem?_append_left (by omega)] at hr hR
   exact hRI (h.rows.own j r R hr hR)
  ·have hjm : j = m := by
    have := (List.getElem?_eq_some_iff.1 hr).1
    rw [List.length_append, hml] at this
    simp at this
    omega
   subst hjm
   rw [List.getElem?_append_right (by omega), hml, Nat.sub_self] at hr
   rw [List.getElem?_append_right (by omega), htl, Nat.sub_self] at hR
   injection hr with hr
   injection hR with hR
   subst hr hR
   exact hRI hv
 ·intro j k a b ha hb hjk n hn hn2
  have key : ∀ (j : Nat) (a : Value), (rs ++ [v])[j]? = some a → (j < m ∧ rs[j]? = some a) ∨ (j = m ∧ a = v) := fun j a ha => by
   rcases Nat.lt_or_ge j m with hj | hj
   ·rw [List.getElem?_append_left (by omega)] at ha
    exact .inl ⟨hj, ha⟩
   ·have hjm : j = m := by
     have := (List.getElem?_eq_some_iff.1 ha).1
     rw [List.length_append, hml] at this
     simp at this
     omega
    subst hjm
    rw [List.getElem?_append_right (by omega), hml, Nat.sub_self] at ha
    injection ha with ha
    exact .inr ⟨rfl, ha.symm⟩
  rcases key j a ha with ⟨h1, h2⟩ | ⟨h1, h2⟩
  ·rcases key k b hb with ⟨h3, h4⟩ | ⟨h3, h4⟩
   ·exact h.rows.sep j k a b h2 h4 hjk n hn hn2
   ·subst h4
    exact hoff n hn2 a (List.mem_of_getElem? h2) hn
  ·rcases key k b hb with ⟨h3, h4⟩ | ⟨h3, h4⟩
   ·subst h2
    exact hoff n hn b (List.mem_of_getElem? h4) hn2
   ·omega
/-- A row joins the list: appended, and laid into x. -/
theorem LNR.inn_ (h : LNR B gx l i q m wholeV rowsV rs cs w0 w) (hB : B ≤ w0.heap.size) (hgx : B < gx) {b : Value} {i' q' : Nat} (hs : i' + q' = i + q + 1) (hI : InR l w rs (cs ++ [b]) i' q') {v' : Value} (hg : w.grownBy w1 wholeV.ownBlock) (hat : v'.ownBlock = wholeV.ownBlock ∨ ∃ b, v'.ownBlock = some b ∧ w.heap.size ≤ b) (ho : w1.ownsRow B 43 1 v' (i + q + 1) (cs ++ [b])) :
  LNR B gx l i' q' m v' rowsV rs (cs ++ [b]) w0 (w1.setCell ⟨gx, 1, none⟩ v') := by
 have hne : ∀ (b : Nat) (e : Nat) (cur : Array Value), w.heap[b]? = some (.cells cur e (0, 0)) → e ≠ 43 → some b ≠ wholeV.ownBlock := fun b e cur hb he e2 => by
  obtain ⟨c, hc⟩ := own_typed h.own b e2.symm
  exact blk_ne hb hc he rfl
 have hbox1 := h.box_in hg
 have hst : ∀ {e sz n : Nat} {u : Value} {ys : List Value}, e ≠ 29 → w1.ownsRow B e sz u n ys → (w1.setCell ⟨gx, 1, none⟩ v').ownsRow B e sz u n ys := fun {e sz n u ys} he hu => own_keep hu fun b hb => by
  obtain ⟨cur, hc⟩ := own_typed hu b hb
  exact Below.heap_setCell w1 ⟨gx, 1, none⟩ v' b (blk_ne hc hbox1 he)
 have hkr : w1.ownsRow B 43 1 rowsV m rs := own_keep h.own2 fun b hb => hg.block b (own_lt h.own2 b hb).2 (fun e2 => h.two b e2.symm hb)
 have h3 : ∀ (b : Nat) (cur : Array Value), w.heap[b]? = some (.cells cur 3 (0, 0)) → (w1.setCell ⟨gx, 1, none⟩ v').heap[b]? = some (.cells cur 3 (0, 0)) := fun b cur hb => by
  have e1 := (hg.block b (blk_lt hb) (hne b 3 cur hb (by decide))).trans hb
  exact (Below.heap_setCell w1 ⟨gx, 1, none⟩ v' b (blk_ne e1 hbox1 (by decide))).trans e1
 refine ⟨blk_far (blk_grown h.res hg (hne B 29 _ h.res (by decide))) (Nat.ne_of_lt hgx) _, ?_, by rw [hs]; exact hst (by decide) ho, hI.keep h3, hst (by decide) hkr, ⟨h.rows.len, fun j r R hr hR => RI_keep (h.rows.own j r R hr hR) fun b hb => ?_, h.rows.sep⟩, (bel_grown h.bel hB hg (fun k hk => (own_lt h.own k hk).1)).setCell (Nat.le_of_lt hgx) _, fun c hb hb2 => by
  rcases hat with h1 | ⟨d, h1, h2⟩
  ·exact h.two c (h1 ▸ hb) hb2
  ·have := (own_lt h.own2 c hb2).2
   rw [h1] at hb
   injection hb with hb
   omega⟩
 ·have := blk_set hbox1 1 v'
  exact this
 ·obtain ⟨cur, hc⟩ := Kd.R_typed (h.rows.own j r R hr hR) b hb
  exact (h3 b cur hc).trans hc.symm
theorem InR.step {w : World} (h : InR l w rs cs i 0) {x : List Int} (hx : l[i]? = some x) {A : Option Addr} {n c : Nat} (hr : rs[i]? = some (.slice A n c)) : InR l w rs (cs ++ [.slice A x.length c]) (i + 1) 0 := by
 have hl : cs.length = i := by have := h.len; omega
 refine ⟨by rw [List.length_append, hl]; rfl, fun j y hj hy => ?_, fun j hj => by omega⟩
 rcases Nat.lt_or_ge j i with hji | hji
 ·obtain ⟨A', n', c', h1, h3⟩ := h.each j y hji hy
  have e2 := (cell_snoc (b := .slice A x.length c) (j := j) hl).1 hji
  exact ⟨A', n', c', h1, e2.trans h3⟩
 ·have hj2 : j = i := by omega
  subst hj2
  rw [hx] at hy
  injection hy with hy
  subst hy
  exact ⟨A, n, c, hr, (cell_snoc (b := .slice A x.length c) (j := j) hl).2 rfl⟩
theorem InR.marked {w : World} (h : InR l w rs cs i q) {b : Value} (hb : behR w q b) : InR l w rs (cs ++ [b]) i (q + 1) := by
 have hl : cs.length = i + q := h.len
 refine ⟨by rw [List.length_append, hl]; rfl, fun j y hj hy => ?_, fun j hj => ?_⟩
 ·obtain ⟨A', n', c', h1, h3⟩ := h.each j y hj hy
  have e2 := (cell_snoc (b := b) (j := j) hl).1 (by omega)
  exact ⟨A', n', c', h1, e2.trans h3⟩
 ·rcases Nat.lt_or_ge j q with hji | hji
  ·obtain ⟨b', h2, h3⟩ := h.beh j hji
   have e2 := (cell_snoc (b := b) (j := i + j) hl).1 (by omega)
   exact ⟨b', e2.trans h2, h3⟩
  ·have hj2 : j = q := by omega
   subst hj2
   exact ⟨b, (cell_snoc (b := b) (j := i + j) hl).2 rfl, hb⟩
/-- All blocks but those of type 29 lie. -/
def Off29 (w W : World) : Prop := ∀ (b : Nat) (cur : Array Value) (t : Nat), t ≠ 29 → w.heap[b]? = some (.cells cur t (0, 0)) → W.heap[b]? = some (.cells cur t (0, 0))
theorem off29_refl (w : World) : Off29 w w := fun _ _ _ _ h => h
theorem off29_set {w W : World} (h : Off29 w W) {g j : Nat} {cs : Array Value} {u : Value} (hg : W.heap[g]? = some (.cells cs 29 (0, 0))) : Off29 w (W.setCell ⟨g, j, none⟩ u) := fun b cur t ht hb => by
 have h1 := h b cur t ht hb
 exact (Below.heap_setCell W ⟨g, j, none⟩ u b (blk_ne h1 hg ht)).trans h1
theorem LNR.papers (h : LNR B gx l l.length 64 l.length wholeV rowsV rs cs w0 w) {W : World} (hW : Off29 w W) : PapersR W B wholeV rowsV l rs cs (RsL l) := by
 have hst : ∀ {e sz n : Nat} {u : Value} {ys : List Value}, e ≠ 29 → w.ownsRow B e sz u n ys → W.ownsRow B e sz u n ys := fun {e sz n u ys} he hu => own_keep hu fun k hk => by
  obtain ⟨cur, hc⟩ := own_typed hu k hk
  exact (hW k cur e he hc).trans hc.symm
 have hl : (RsL l).take l.length = RsL l := List.take_of_length_le (by rw [RsL_len]; exact Nat.le_refl _)
 have hrows := h.rows
 rw [hl] at hrows
 refine ⟨hst (by decide) h.own, h.inn.keep (fun b cur hb => hW b cur 3 (by decide) hb), hst (by decide) h.own2, ⟨hrows.len, fun j r R hr hR => RI_keep (hrows.own j r R hr hR) fun b hb => ?_, hrows.sep⟩, fun j x hx => ⟨_, RsL_at hx, by simp⟩, RsL_len l, h.two⟩
 obtain ⟨cur, hc⟩ := Kd.R_typed (hrows.own j r R hr hR) b hb
 exact (hW b cur 3 (by decide) hc).trans hc.symm
end
end Go.Proofs.YtlhajfepcggjaaaGreatDoor.KP

set_option linter.unusedVariables false
set_option linter.unusedSimpArgs false
namespace Go.Proofs.YtlhajfepcggjaaaGreatDoor.KP
open Go Go.RowKit Go.Proofs.YtlhajfepcggjaaaGreatDoorW.PrintWords Go.Proofs.YtlhajfepcggjaaaGreatDoorW.PrintLast Go.Proofs.YtlhajfepcggjaaaGreatDoorW.PrintMore Go.Proofs.YtlhajfepcggjaaaGreatDoor.R

/-- A row that is written over. -/
def MV (W : World) (k i : Nat) (cs : List Value) : Prop := ∃ g, cs = [.slice (some ⟨g, 0, none⟩) 3 3] ∧ W.heap[g]? = some (.cells #[.int .i64 1, .int .i64 (-1), .int .i64 2] 3 (0, 0))
theorem MV_ok : MarkM MV 1 3 :=
 ⟨fun h => by obtain ⟨g, h, _⟩ := h; rw [h]; rfl, fun h q hq => by
  obtain ⟨g, h, _⟩ := h
  rw [h] at hq
  simp only [List.mem_cons, List.not_mem_nil, or_false] at hq
  subst hq
  rfl, fun q h => by
  obtain ⟨g, h, hg⟩ := h
  exact ⟨g, h, q g _ hg⟩⟩
/-- The rows from index i on are as they were. -/
structure RowsO (i base : Nat) (rs : List Value) (Rs : List (List Int)) (w : World) : Prop where
 own : ∀ (j : Nat) (r : Value) (R : List Int), i ≤ j → rs[j]? = some r → Rs[j]? = some R → RI w base r R
theorem apart_one (v : Value) : apart [v] := fun j k u u' hu hu' hjk => by
 have h1 := (List.getElem?_eq_some_iff.1 hu).1
 have h2 := (List.getElem?_eq_some_iff.1 hu').1
 simp at h1 h2
 omega
theorem Rest.mono {vs us : List Value} {w W : World} (h : Rest vs w W) (hs : ∀ v ∈ vs, v ∈ us) : Rest us w W := ⟨h.os, h.tape, h.output, h.size, fun b hb hn => h.same b hb fun v hv => hn v (hs v hv)⟩
theorem Rest.trans {vs : List Value} {A B C : World} (h : Rest vs A B) (g : Rest vs B C) : Rest vs A C :=
 ⟨g.os.trans h.os, g.tape.trans h.tape, g.output.trans h.output, Nat.le_trans h.size g.size, fun b hb hn => (g.same b (Nat.lt_of_lt_of_le hb h.size) hn).trans (h.same b hb hn)⟩
theorem Rest.of_below {vs : List Value} {A B : World} (h : Below A.heap.size A B) : Rest vs A B := ⟨h.os, h.tape, h.output, h.size, fun b hb _ => h.block b hb⟩
set_option maxHeartbeats 16000000 in
set_option maxRecDepth 100000 in
theorem overRows_calls (ko : Nat) (inV : Value) (A : Option Addr) (n c : Nat) (rowsV : Value) (rs cs : List Value) (Rs : List (List Int)) (wb w0 : World) (hi1 : inV.oneCell' = true) (hbb : Below wb.heap.size wb w0)
  (hW : w0.ownsRow wb.heap.size 43 1 (.slice A n c) n cs) (hO : w0.ownsRow wb.heap.size 43 1 rowsV rs.length rs) (hR : RowsR w0 wb.heap.size rs Rs) (hn : n ≤ 1000000000) (hlen : rs.length ≤ 1000000000)
  (hov : ∀ R ∈ Rs, ∃ R', depotkit_Over.f ko R = some R') :
  Calls Tryz.prog 9 #[.agg #[inV, .slice A n c, rowsV]] w0 fun e w' => (∃ v, e = .returned v) ∧ P1 MV 43 1 [.slice A n c] 1 0 w' ∧ Rest (rs ++ [.slice A n c]) w0 w' := by
 obtain ⟨AO, cO, rfl⟩ := own_slice hO
 have HBB := Aside0.mk hbb
 have HW := Aside0.mk hW
 have HO := Aside0.mk hO
 have HRW := Aside0.mk hR
 have HOV := Aside0.mk hov
 clear hbb hW hO hR hov
 go_enter Tryz.func9, Tryz.ntmps9
 go_wp2
 obtain ⟨w1, hw1⟩ : ∃ w1, w0.alloc (.cells #[inV, .slice A n c, .slice AO rs.length cO] 29) = w1 := ⟨_, rfl⟩
 have hb1 : Below w0.heap.size w0 w1 := by rw [← hw1]; exact alloc_below _ _
 have hs1 : w1.heap.size = w0.heap.size + 1 := by rw [← hw1, World.size_alloc]
 have hbox : w1.heap[w0.heap.size]? = some (.cells #[inV, .slice A n c, .slice AO rs.length cO] 29 (0, 0)) := by rw [← hw1]; exact heap_alloc_new w0 _
 rw [hw1]
 clear hw1
 obtain ⟨B, hB⟩ : ∃ B, w0.heap.size = B := ⟨_, rfl⟩
 rw [hB] at hs1 hbox ⊢
 have hO1 := own_below HO.out hb1
 have hW1 := own_below HW.out hb1
 have hrs1 := HRW.out.below hb1
 have hty : ∀ v ∈ rs, ∀ b, v.ownBlock = some b → b < B ∧ ∃ cur, w1.heap[b]? = some (.cells cur 3 (0, 0)) := fun v hv b hb => by
  obtain ⟨j, hj⟩ := List.mem_iff_getElem?.1 hv
  have hjl : j < Rs.length := by rw [← HRW.out.len]; exact (List.getElem?_eq_some_iff.1 hj).1
  have h1 := HRW.out.own j v _ hj (List.getElem?_eq_getElem hjl)
  exact ⟨by rw [← hB]; exact Kd.R_lt h1 b hb, Kd.R_typed (hrs1.own j v _ hj (List.getElem?_eq_getElem hjl)) b hb⟩
 have hkeep : ∀ (W : World), Rest rs w1 W → ∀ (b t : Nat) (cur : Array Value), t ≠ 3 → w1.heap[b]? = some (.cells cur t (0, 0)) → W.heap[b]? = some (.cells cur t (0, 0)) := fun W h b t cur ht hb =>
  (h.same b (blk_lt hb) (fun v hv e => by
   obtain ⟨c2, h2⟩ := (hty v hv b e).2
   exact blk_ne hb h2 ht rfl)).trans hb
 have hOU := fun (W : World) (h : Rest rs w1 W) => own_keep hO1 (fun k hk => by
  obtain ⟨cur, hc⟩ := own_typed hO1 k hk
  exact (hkeep W h k 43 cur (by decide) hc).trans hc.symm)
 have hWU := fun (W : World) (h : Rest rs w1 W) => own_keep hW1 (fun k hk => by
  obtain ⟨cur, hc⟩ := own_typed hW1 k hk
  exact (hkeep W h k 43 cur (by decide) hc).trans hc.symm)
 have hBX := fun (W : World) (h : Rest rs w1 W) => hkeep W h B 29 _ (by decide) hbox
 have HBW := Aside0.mk (fun (W : World) (h : Rest rs w1 W) => show Below wb.heap.size wb W from ⟨h.os.trans (hb1.os.trans HBB.out.os), h.tape.trans (hb1.tape.trans HBB.out.tape), h.output.trans (hb1.output.trans HBB.out.output), Nat.le_trans HBB.out.size (Nat.le_trans hb1.size h.size), fun b hb => (h.same b (Nat.lt_of_lt_of_le hb (Nat.le_trans HBB.out.size hb1.size)) (fun v hv e => by
   obtain ⟨j, hj⟩ := List.mem_iff_getElem?.1 hv
   have hjl : j < Rs.length := by rw [← HRW.out.len]; exact (List.getElem?_eq_some_iff.1 hj).1
   have := Kd.R_base (HRW.out.own j v _ hj (List.getElem?_eq_getElem hjl)) b e
   omega)).trans ((hb1.block b (Nat.lt_of_lt_of_le hb HBB.out.size)).trans (HBB.out.block b hb))⟩)
 have HOU := Aside0.mk hOU
 have HWU := Aside0.mk hWU
 have HBX := Aside0.mk hBX
 have HR0 := Aside0.mk (Rest.refl rs w1)
 have HP0 : Aside0 (RowsO 0 wb.heap.size rs Rs w1) := ⟨⟨fun j r R _ hr hR => hrs1.own j r R hr hR⟩⟩
 have HB1 := Aside0.mk hb1
 clear hO1 hW1 hrs1 hty hkeep hOU hWU hBX hb1 hs1 hbox
 go_loopw [2] (fun kv wr => ∃ k : Nat, kv = .int .i64 (k : Nat) ∧ k ≤ rs.length ∧ Aside0 (RowsO k wb.heap.size rs Rs wr) ∧ Aside0 (Rest rs w1 wr)) (fun kv _ => rs.length - (RowKit.intOf kv).toNat)
 case atStart => exact ⟨0, rfl, Nat.zero_le _, HP0, HR0⟩
 case round =>
  clear HP0 HR0
  obtain ⟨k, rfl, hk, HPk, HRk⟩ := hrel
  have hbx := HBX.out _ HRk.out
  have xb := (blk_cell hbx 2).trans (show _ = some (Value.slice AO rs.length cO) from rfl)
  clear hbx
  by_cases hlt : k < rs.length
  ·have hov := HOU.out _ HRk.out
   have hvk : rs[k]? = some rs[k] := List.getElem?_eq_getElem hlt
   obtain ⟨v, hv⟩ : ∃ v, rs[k] = v := ⟨_, rfl⟩
   rw [hv] at hvk
   have hkR : k < Rs.length := by rw [← HRW.out.len]; exact hlt
   have hRk := List.getElem?_eq_getElem hkR
   obtain ⟨R, hRR⟩ : ∃ R, Rs[k] = R := ⟨_, rfl⟩
   rw [hRR] at hRk
   obtain ⟨GO, capO, eO, _, _⟩ := hov.form (by omega)
   have eA : AO = some ⟨GO, 0, none⟩ := by injection eO
   have hx0 := HPk.out.own k v R (Nat.le_refl _) hvk hRk
   obtain ⟨Av, cv, ev⟩ := Kd.R_slice hx0
   have xk : wr.cell? ⟨GO, k, none⟩ = some v := by
    rw [eA] at hov
    exact (own_cell hov (by omega)).trans hvk
   obtain ⟨R', hR'⟩ := HOV.out R (List.mem_of_getElem? hRk)
   have HX0 := Aside0.mk (Kd.R_tight rfl hx0)
   have HVK := Aside0.mk hvk
   have HR' := Aside0.mk hR'
   have EA := Aside0.mk eA
   subst ev
   rw [EA.out] at xb
   clear hov hv hRR eO hx0 hR' hvk hRk hkR eA
   go_wp2_with fail
   refine (depotkit_Over.calls ko (fun b => some b = (Value.slice Av R.length cv).ownBlock) (.slice Av R.length cv) R R' wb wr (HBW.out _ HRk.out) HX0.out HR'.out).mono ?_
   rintro e w2 ⟨rfl, _, hB2, hkp⟩
   have hw1 := HBW.out w1 (Rest.refl rs w1)
   have hR2 : Rest rs w1 w2 := ⟨hB2.os.trans hw1.os.symm, hB2.tape.trans hw1.tape.symm, hB2.output.trans hw1.output.symm, Nat.le_trans HRk.out.size hkp.1, fun b hb hn => (hkp.2 b (Nat.lt_of_lt_of_le hb HRk.out.size) (fun e => hn _ (List.mem_of_getElem? HVK.out) e.symm)).trans (HRk.out.same b hb hn)⟩
   have hP2 : RowsO (k + 1) wb.heap.size rs Rs w2 := ⟨fun j r Rj hj hr hRj => RI_keep (HPk.out.own j r Rj (by omega) hr hRj) fun b hb =>
    hkp.2 b (Kd.R_lt (HPk.out.own j r Rj (by omega) hr hRj) b hb) (fun e => HRW.out.sep j k r _ hr HVK.out (by omega) b hb e.symm)⟩
   have HP2 := Aside0.mk hP2
   have HR2 := Aside0.mk hR2
   clear hB2 hkp hw1 hR2 hP2 xk xb HPk HRk
   go_wp2
   go_roundw
   case rel => exact ⟨k + 1, by simp, by omega, HP2, HR2⟩
   case measure => simp [RowKit.intOf]; omega
  ·have hke : k = rs.length := by omega
   subst hke
   obtain ⟨wo, rfl⟩ : ∃ wo, wo = wr := ⟨_, rfl⟩
   have hwo := HWU.out _ HRk.out
   have hbx := HBX.out _ HRk.out
   have HWR := Aside0.mk hwo
   have HP1 : Aside0 (P1 MV 43 1 [.slice A n c] 0 0 wo) := ⟨P1.start fun j v hv => by
    match j, hv with
    | 0, hv =>
     injection hv with hv
     subst hv
     exact ⟨_, own_zero hwo⟩
    | j + 1, hv => simp at hv⟩
   have hty : ∀ b, (Value.slice A n c).ownBlock = some b → ∃ cur, wo.heap[b]? = some (.cells cur 43 (0, 0)) := own_typed hwo
   have HBY := Aside0.mk (fun (W : World) (h : Rest [.slice A n c] wo W) => show W.heap[B]? = some (.cells #[inV, .slice A n c, .slice AO rs.length cO] 29 (0, 0)) from (h.same B (blk_lt hbx) (fun v hv e => by
    rw [List.mem_singleton] at hv
    subst hv
    obtain ⟨cur, hc⟩ := hty B e
    exact blk_ne hbx hc (by decide) rfl)).trans hbx)
   have HRW2 := Aside0.mk (Rest.refl [Value.slice A n c] wo)
   clear hwo hbx hty
   go_wp2
   go_loopw [3] (fun iv ws => ∃ i : Nat, iv = .int .i64 (i : Nat) ∧ i ≤ n ∧ Aside0 (P1 MV 43 1 [.slice A n c] 0 i ws) ∧ Aside0 (Rest [.slice A n c] wo ws)) (fun iv _ => n - (RowKit.intOf iv).toNat)
   case atStart => exact ⟨0, rfl, Nat.zero_le _, HP1, HRW2⟩
   case round =>
    clear HP1 HRW2 xb
    obtain ⟨i, rfl, hi, HPi, HRi⟩ := hrel
    have xb := (blk_cell (HBY.out _ HRi.out) 1).trans (show _ = some (Value.slice A n c) from rfl)
    by_cases hin : i < n
    ·obtain ⟨xs, hx, _, _⟩ := HPi.out.row 0 _ rfl
     have hx2 : wr.ownsRow 0 43 1 (.slice A n c) n xs := hx
     obtain ⟨g, cap, eg, _, _⟩ := hx2.form (by omega)
     have eg2 : A = some ⟨g, 0, none⟩ := by injection eg
     subst eg2
     have hba := alloc_below wr (.cells #[.int .i64 1, .int .i64 (-1), .int .i64 2] 3)
     have HX := Aside0.mk (own_below hx2 hba)
     have HPa := Aside0.mk (HPi.out.below MV_ok hba)
     have HRa := Aside0.mk (HRi.out.below hba)
     have HSa : Aside0 (MV (wr.alloc (.cells #[.int .i64 1, .int .i64 (-1), .int .i64 2] 3)) 0 i [.slice (some ⟨wr.heap.size, 0, none⟩) 3 3]) := ⟨⟨_, rfl, heap_alloc_new wr _⟩⟩
     clear hx hx2 eg hba
     go_wp2_with (first | (refine wpList_plain rfl fun _ hK => wp_store_own (e := 43) (size := 1) 43 (.tmp 28) (.tmp 27) rfl (off := i) _ [.slice (some ⟨wr.heap.size, 0, none⟩) 3 3] rfl rfl rfl (by kernel_rfl) (MV_ok.one HSa.out) HX.out (by show i + 1 ≤ n * 1; omega) (hK _ _ ?_)))
     have HP2 := Aside0.mk (by have h := HPa.out.seg MV_ok (by decide) (apart_one _) (g := g) rfl hin HSa.out; rw [Nat.mul_one] at h; exact h)
     have HR2 := Aside0.mk (HRa.out.seg (v := .slice (some ⟨g, 0, none⟩) n c) (o := i) (seg := [.slice (some ⟨wr.heap.size, 0, none⟩) 3 3]) (List.mem_singleton.2 rfl) rfl)
     clear xb HPa HRa HX HPi HRi
     go_wp2
     go_roundw
     case rel => exact ⟨i + 1, by simp, by omega, HP2, HR2⟩
     case measure => simp [RowKit.intOf]; omega
    ·have hie : i = n := by omega
     subst hie
     go_wp2
     refine bodyPost_end (results_none rfl _ _ _) rfl ?_
     refine ⟨⟨_, rfl⟩, P1.next (v := .slice A i c) rfl HPi.out, ?_⟩
     exact Rest.trans (Rest.of_below HB1.out) (Rest.trans (HRk.out.mono fun v hv => List.mem_append_left _ hv) (HRi.out.mono fun v hv => List.mem_append_right _ hv))
end Go.Proofs.YtlhajfepcggjaaaGreatDoor.KP

set_option linter.unusedVariables false
set_option linter.unusedSimpArgs false
namespace Go.Proofs.YtlhajfepcggjaaaGreatDoor.KP
open Go Go.RowKit Go.Proofs.YtlhajfepcggjaaaGreatDoorW.PrintWords Go.Proofs.YtlhajfepcggjaaaGreatDoorW.PrintLast Go.Proofs.YtlhajfepcggjaaaGreatDoorW.PrintMore Go.Proofs.YtlhajfepcggjaaaGreatDoor.R

/-- A list of rows, written over. -/
def overL (n : Nat) : List (List Int) := (List.range n).map fun _ => [1, -1, 2]
theorem overL_len (n : Nat) : (overL n).length = n := by unfold overL; simp
theorem overL_at {n i : Nat} (h : i < n) : (overL n)[i]? = some [1, -1, 2] := by
 unfold overL
 rw [List.getElem?_map, List.getElem?_range h]
 rfl
theorem C_three {w : World} {g : Nat} (h : w.heap[g]? = some (.cells #[.int .i64 1, .int .i64 (-1), .int .i64 2] 3 (0, 0))) : Kd.C (Kd.int .i64) w (some ⟨g, 0, none⟩) 3 [1, -1, 2] := by
 refine ⟨rfl, by decide, fun _ => ⟨_, rfl, fun j p hj => ?_⟩⟩
 match j, hj with
 | 0, hj =>
  injection hj with hj
  subst hj
  refine ⟨[.int .i64 1], rfl, rfl, fun i u hu => ?_⟩
  match i, hu with
  | 0, hu =>
   rw [← hu]
   exact (blk_cell h 0).trans rfl
  | i + 1, hu => simp at hu
 | 1, hj =>
  injection hj with hj
  subst hj
  refine ⟨[.int .i64 (-1)], rfl, rfl, fun i u hu => ?_⟩
  match i, hu with
  | 0, hu =>
   rw [← hu]
   exact (blk_cell h 1).trans rfl
  | i + 1, hu => simp at hu
 | 2, hj =>
  injection hj with hj
  subst hj
  refine ⟨[.int .i64 2], rfl, rfl, fun i u hu => ?_⟩
  match i, hu with
  | 0, hu =>
   rw [← hu]
   exact (blk_cell h 2).trans rfl
  | i + 1, hu => simp at hu
 | j + 3, hj => simp at hj
theorem over_reads {W : World} {A : Option Addr} {n c m : Nat} (hP : P1 MV 43 1 [.slice A n c] 1 0 W) (hm : m ≤ n) : Kd.C (Kd.slice 3 (Kd.int .i64)) W A m (overL m) := by
 obtain ⟨xs, ho, hc0, _⟩ := hP.row 0 _ rfl
 have hc : Cont MV 1 W 0 n xs := hc0 (by omega)
 have ho : W.ownsRow 0 43 1 (.slice A n c) n xs := ho
 rcases Nat.eq_zero_or_pos m with h0 | hpos
 ·subst h0
  exact ⟨rfl, by decide, fun h => absurd h (Nat.lt_irrefl _)⟩
 obtain ⟨g, cap, hv, _, _⟩ := ho.form (by omega)
 injection hv with e1 _ _
 subst e1
 obtain ⟨cur, _, _, hn, hcp, _⟩ := own_at ho
 unfold maxLen at hcp
 refine ⟨overL_len m, by omega, fun _ => ⟨_, rfl, fun j p hj => ?_⟩⟩
 have hjm : j < m := by
  have := (List.getElem?_eq_some_iff.1 hj).1
  rwa [overL_len] at this
 rw [overL_at hjm] at hj
 injection hj with hj
 subst hj
 obtain ⟨g2, hcs, hg2⟩ := hc.at_ j (by omega)
 refine ⟨[.slice (some ⟨g2, 0, none⟩) 3 3], rfl, ⟨some ⟨g2, 0, none⟩, 3, rfl, Nat.le_refl _, C_three hg2⟩, fun i u hu => ?_⟩
 have hi : i < 1 := (List.getElem?_eq_some_iff.1 hu).1
 refine own_news ho (j * 1 + i) u ?_
 rw [hc.get (n := n) (by omega) hi, hcs]
 exact hu
/-- What lay before the rows and the list lies behind OverReps, too. -/
theorem PapersR.belowR {w W : World} {base : Nat} {wholeV rowsV : Value} {l : List (List Int)} {rs cs : List Value} {Rs : List (List Int)} (h : PapersR w base wholeV rowsV l rs cs Rs) (hR : Rest (rs ++ [wholeV]) w W) : ∀ (A : World), A.heap.size ≤ base → Below A.heap.size A w → Below A.heap.size A W := fun A hA hb =>
 ⟨hR.os.trans hb.os, hR.tape.trans hb.tape, hR.output.trans hb.output, Nat.le_trans hb.size hR.size, fun b hlt => (hR.same b (Nat.lt_of_lt_of_le hlt hb.size) fun v hv e => by
  rcases List.mem_append.1 hv with hv | hv
  ·obtain ⟨j, hj⟩ := List.mem_iff_getElem?.1 hv
   have hjl : j < Rs.length := by rw [← h.rows.len]; exact (List.getElem?_eq_some_iff.1 hj).1
   have := Kd.R_base (h.rows.own j v _ hj (List.getElem?_eq_getElem hjl)) b e
   omega
  ·rw [List.mem_singleton] at hv
   subst hv
   have := (own_lt h.own b e).1
   omega).trans (hb.block b hlt)⟩
end Go.Proofs.YtlhajfepcggjaaaGreatDoor.KP

set_option linter.unusedVariables false
set_option linter.unusedSimpArgs false
namespace Go.Proofs.YtlhajfepcggjaaaGreatDoor.KP
open Go Go.RowKit Go.Proofs.YtlhajfepcggjaaaGreatDoorW.PrintWords Go.Proofs.YtlhajfepcggjaaaGreatDoorW.PrintLast Go.Proofs.YtlhajfepcggjaaaGreatDoorW.PrintMore Go.Proofs.YtlhajfepcggjaaaGreatDoor.R

/-- What lies of a list of rows. -/
structure OpR (w : World) (lo hi : Nat) (v : Value) (l : List (List Int)) (X : List Value) : Prop where
 len : lenV v = l.length
 row : w.ownsRow lo 43 1 v l.length X
 low : ∀ k, v.ownBlock = some k → k < hi
 fld : ∀ (j : Nat) (x : List Int), l[j]? = some x → ∃ A c, X[j]? = some (.slice A x.length c) ∧ Kd.R (Kd.int .i64) 3 w lo (fun k => k < hi) (.slice A x.length c) x
 sep : apart X
theorem apart_append {es bs : List Value} {N : Nat} (ha : apart es) (hb : apart bs) (hl : ∀ v ∈ es, ∀ k, v.ownBlock = some k → k < N) (hg : ∀ v ∈ bs, ∀ k, v.ownBlock = some k → N ≤ k) : apart (es ++ bs) := by
 intro j k v u hv hu hjk b hb1 hb2
 rw [List.getElem?_append] at hv hu
 split at hv
 ·split at hu
  ·exact ha j k v u hv hu hjk b hb1 hb2
  ·have h1 := hl v (List.mem_of_getElem? hv) b hb1
   have h2 := hg u (List.mem_of_getElem? hu) b hb2
   omega
 ·split at hu
  ·have h1 := hg v (List.mem_of_getElem? hv) b hb1
   have h2 := hl u (List.mem_of_getElem? hu) b hb2
   omega
  ·exact hb _ _ v u hv hu (by omega) b hb1 hb2
theorem apart_nil : apart [] := fun j k v u hv => by simp at hv
theorem own_len1 {w : World} {base e n : Nat} {v : Value} {xs : List Value} (h : w.ownsRow base e 1 v n xs) : xs.length = n := by
 have := own_len h
 omega
theorem S_openR {w : World} {base : Nat} {v : Value} {l : List (List Int)} (h : Kd.S (Kd.slice 3 (Kd.int .i64)) 43 w base (fun _ => True) v l) : ∃ X, OpR w base w.heap.size v l X := by
 obtain ⟨A, c, hv⟩ := Kd.S_slice h
 obtain ⟨f, hr⟩ := h
 obtain ⟨h0, inner, ho, hrep⟩ := Kd.R_bound hr
 rw [List.length_zipIdx] at ho
 have hat : ∀ (j : Nat) (x : List Int), l[j]? = some x → ∃ u, inner[j]? = some u ∧ Kd.R (Kd.int .i64) 3 w base (fun k => f k = j ∧ k < w.heap.size) u x := by
  intro j x hx
  have h1 := hrep.2 j (x, j) (Kd.zip_at hx)
  obtain ⟨u, hcs, hu⟩ := (show (Kd.slice 3 (Kd.int .i64)).M w base _ x _ from h1)
  have hcs2 : (inner.drop (j * 1)).take 1 = [u] := hcs
  have e0 : ((inner.drop (j * 1)).take 1)[0]? = some u := by rw [hcs2]; rfl
  rw [List.getElem?_take, if_pos (by omega), List.getElem?_drop, Nat.mul_one, Nat.add_zero] at e0
  exact ⟨u, e0, Kd.R_mono hu fun k hk => ⟨hk.2, hk.1.1.2.2.1⟩⟩
 refine ⟨inner, by rw [hv]; rfl, ho, fun k hk => (h0 k hk).2.2.1, fun j x hx => ?_, fun j k u u' hu hu' hjk b hb1 hb2 => ?_⟩
 ·obtain ⟨u, h2, h3⟩ := hat j x hx
  obtain ⟨A', c', rfl⟩ := Kd.R_slice h3
  exact ⟨A', c', h2, Kd.R_mono h3 fun k hk => hk.2⟩
 ·have hil : inner.length = l.length := own_len1 ho
  have hj : j < l.length := by rw [← hil]; exact (List.getElem?_eq_some_iff.1 hu).1
  have hk : k < l.length := by rw [← hil]; exact (List.getElem?_eq_some_iff.1 hu').1
  obtain ⟨a, e2, e3⟩ := hat j _ (List.getElem?_eq_getElem hj)
  obtain ⟨a', e2', e3'⟩ := hat k _ (List.getElem?_eq_getElem hk)
  rw [hu] at e2
  rw [hu'] at e2'
  injection e2 with e2
  injection e2' with e2'
  subst e2 e2'
  have q1 := (e3.1 b hb1).1
  have q2 := (e3'.1 b hb2).1
  omega
theorem OpR.below {w w1 : World} {lo hi : Nat} {v : Value} {l : List (List Int)} {X : List Value} (h : OpR w lo hi v l X) (hb : Below w.heap.size w w1) : OpR w1 lo hi v l X :=
 ⟨h.len, own_below h.row hb, h.low, fun j x hx => by
  obtain ⟨A, c, h1, h2⟩ := h.fld j x hx
  exact ⟨A, c, h1, Kd.R_below h2 hb⟩, h.sep⟩
theorem own_low {w : World} {lo hi e sz n : Nat} {v : Value} {xs : List Value} (h : w.ownsRow lo e sz v n xs) (hl : hi ≤ lo) : w.ownsRow hi e sz v n xs := by
 refine ⟨h.1, ?_⟩
 rcases h.2 with h0 | ⟨g, cap, cur, hv, hb, hr⟩
 ·exact .inl h0
 ·exact .inr ⟨g, cap, cur, hv, by omega, hr⟩
theorem OpR.mem {w : World} {lo hi : Nat} {v : Value} {l : List (List Int)} {X : List Value} (h : OpR w lo hi v l X) {u : Value} (hu : u ∈ X) :
  (∃ xs, w.ownsRow 0 3 1 u (lenV u) xs) ∧ (∃ x ∈ l, lenV u = x.length) ∧ ∀ k, u.ownBlock = some k → lo ≤ k ∧ k < hi := by
 obtain ⟨j, hj⟩ := List.mem_iff_getElem?.1 hu
 have hlt : j < l.length := by rw [← own_len1 h.row]; exact (List.getElem?_eq_some_iff.1 hj).1
 obtain ⟨A, c, h1, h2⟩ := h.fld j _ (List.getElem?_eq_getElem hlt)
 rw [hj] at h1
 injection h1 with h1
 subst h1
 obtain ⟨xs, hx⟩ := Kd.R_own h2
 refine ⟨⟨xs, own_low hx (Nat.zero_le _)⟩, ⟨_, List.getElem_mem hlt, rfl⟩, fun k hk => ⟨Kd.R_base h2 k hk, h2.1 k hk⟩⟩
/-- Their blocks lie from lo on, below hi. -/
def rng (lo hi : Nat) (us : List Value) : Prop := ∀ u ∈ us, ∀ k, u.ownBlock = some k → lo ≤ k ∧ k < hi
theorem rng_append {lo hi : Nat} {us vs : List Value} (h1 : rng lo hi us) (h2 : rng lo hi vs) : rng lo hi (us ++ vs) := fun u hu => by
 rcases List.mem_append.1 hu with h | h
 ·exact h1 u h
 ·exact h2 u h
theorem rng_wide {lo hi lo' hi' : Nat} {us : List Value} (h : rng lo hi us) (h1 : lo' ≤ lo) (h2 : hi ≤ hi') : rng lo' hi' us := fun u hu k hk => by
 have := h u hu k hk
 omega
theorem apart_rng {es bs : List Value} {a b c d : Nat} (ha : apart es) (hb : apart bs) (h1 : rng a b es) (h2 : rng c d bs) (h : b ≤ c) : apart (es ++ bs) :=
 apart_append ha hb (fun v hv k hk => (h1 v hv k hk).2) (fun v hv k hk => by have := (h2 v hv k hk).1; omega)
theorem OpR.rngF {w : World} {lo hi : Nat} {v : Value} {l : List (List Int)} {X : List Value} (h : OpR w lo hi v l X) : rng lo hi X := fun u hu => (h.mem hu).2.2
theorem OpR.rngV {w : World} {lo hi : Nat} {v : Value} {l : List (List Int)} {X : List Value} (h : OpR w lo hi v l X) : rng lo hi [v] := fun u hu k hk => by
 rw [List.mem_singleton] at hu
 subst hu
 exact ⟨(own_lt h.row k hk).1, h.low k hk⟩
theorem OpR.rowV {W : World} {a0 a1 : Nat} {va : Value} {la : List (List Int)} {Xa : List Value} (h : OpR W a0 a1 va la Xa) : W.ownsRow 0 43 1 va (lenV va) Xa := by
 rw [h.len]
 exact own_low h.row (Nat.zero_le _)
/-- Lists whose blocks lie in parted ranges, one behind the other. -/
structure ListsR (W : World) (lo hi M : Nat) (vs : List Value) (X : Nat → List Value) : Prop where
 row : ∀ (j : Nat) (v : Value), vs[j]? = some v → W.ownsRow 0 43 1 v (lenV v) (X j)
 mem : ∀ u ∈ rowsK X vs.length, (∃ xs, W.ownsRow 0 3 1 u (lenV u) xs) ∧ lenV u ≤ 1000000000
 sep : apart vs
 sepF : apart (rowsK X vs.length)
 le : ∀ v ∈ vs, lenV v ≤ M
 leF : (rowsK X vs.length).length ≤ vs.length * M
 rng1 : rng lo hi vs
 rngF : rng lo hi (rowsK X vs.length)
theorem rowsK_congr {X X' : Nat → List Value} : ∀ K : Nat, (∀ k, k < K → X k = X' k) → rowsK X K = rowsK X' K
 | 0, _ => rfl
 | K + 1, h => by
  rw [rowsK, rowsK, rowsK_congr K fun k hk => h k (by omega), h K (Nat.lt_succ_self _)]
theorem ListsR.nil (W : World) (lo M : Nat) (X : Nat → List Value) : ListsR W lo lo M [] X :=
 ⟨fun j v h => by simp at h, fun u h => by simp [rowsK] at h, apart_nil, apart_nil, fun v h => by simp at h, by simp [rowsK], fun v h => by simp at h, fun u h => by simp [rowsK] at h⟩
theorem snoc_case {vs : List Value} {v u : Value} {j : Nat} (h : (vs ++ [v])[j]? = some u) : (j < vs.length ∧ vs[j]? = some u) ∨ (j = vs.length ∧ u = v) := by
 rw [List.getElem?_append] at h
 split at h
 ·rename_i hj; exact .inl ⟨hj, h⟩
 ·have hjl := (List.getElem?_eq_some_iff.1 h).1
  simp only [List.length_cons, List.length_nil] at hjl
  have e : j = vs.length := by omega
  subst e
  rw [Nat.sub_self] at h
  injection h with h
  exact .inr ⟨rfl, h.symm⟩
theorem ListsR.snoc {W : World} {lo hi a0 a1 M : Nat} {vs : List Value} {X X' : Nat → List Value} {v : Value} {l : List (List Int)} {Xv : List Value} (h : ListsR W lo hi M vs X) (g : OpR W a0 a1 v l Xv) (hX : ∀ k, k < vs.length → X' k = X k) (hXv : X' vs.length = Xv) (h1 : hi ≤ a0) (hlo : lo ≤ a0) (ha : hi ≤ a1) (hl : l.length ≤ M) (hf : ∀ x ∈ l, x.length ≤ 1000000000) : ListsR W lo a1 M (vs ++ [v]) X' := by
 have e : rowsK X' (vs ++ [v]).length = rowsK X vs.length ++ Xv := by
  rw [List.length_append, List.length_singleton, rowsK, hXv, rowsK_congr (X := X') (X' := X) vs.length hX]
 refine ⟨fun j u hu => ?_, fun u hu => ?_, ?_, ?_, fun u hu => ?_, ?_, ?_, ?_⟩
 ·rcases snoc_case hu with ⟨hj, hu2⟩ | ⟨hj, hu2⟩
  ·rw [hX j hj]
   exact h.row j u hu2
  ·rw [hj, hXv, hu2]
   exact g.rowV
 ·rw [e] at hu
  rcases List.mem_append.1 hu with hu | hu
  ·exact h.mem u hu
  ·obtain ⟨hr, ⟨x, hx, hle⟩, _⟩ := g.mem hu
   exact ⟨hr, by rw [hle]; exact hf x hx⟩
 ·exact apart_rng h.sep (apart_one v) h.rng1 g.rngV h1
 ·rw [e]
  exact apart_rng h.sepF g.sep h.rngF g.rngF h1
 ·rcases List.mem_append.1 hu with hu | hu
  ·exact h.le u hu
  ·rw [List.mem_singleton] at hu
   subst hu
   rw [g.len]
   exact hl
 ·rw [e, List.length_append, own_len1 g.row, List.length_append, List.length_singleton, Nat.succ_mul]
  have := h.leF
  omega
 ·exact rng_append (rng_wide h.rng1 (Nat.le_refl _) ha) (rng_wide g.rngV hlo (Nat.le_refl _))
 ·rw [e]
  exact rng_append (rng_wide h.rngF (Nat.le_refl _) ha) (rng_wide g.rngF hlo (Nat.le_refl _))
theorem ListsR.below {W W1 : World} {lo hi M : Nat} {vs : List Value} {X : Nat → List Value} (h : ListsR W lo hi M vs X) (hb : Below W.heap.size W W1) : ListsR W1 lo hi M vs X :=
 ⟨fun j v hv => own_below (h.row j v hv) hb, fun u hu => by
  obtain ⟨⟨xs, hx⟩, hl⟩ := h.mem u hu
  exact ⟨⟨xs, own_below hx hb⟩, hl⟩, h.sep, h.sepF, h.le, h.leF, h.rng1, h.rngF⟩
theorem ListsR.calls {W : World} {lo hi M : Nat} {vs : List Value} {X : Nat → List Value} (h : ListsR W lo hi M vs X) (V : Value) (cs : List Value) (hV : W.ownsRow 0 24 2 V vs.length cs) (hcs : ∀ (j : Nat) (v : Value), vs[j]? = some v → cs[j * 2 + 1]? = some v) (hn : vs.length ≤ 8) (hM : M ≤ 100000000) :
  Calls Tryz.prog 31 #[V] W fun e w' => e = .returned (.bool true) ∧ Rest (rowsK X vs.length ++ vs) W w' ∧ rng lo hi (rowsK X vs.length ++ vs) := by
 have h1 := h.leF
 have h2 : vs.length * M ≤ 8 * M := Nat.mul_le_mul_right _ hn
 refine (apartFormulas_calls V cs vs X 0 W hV hcs h.row (fun j u hu => (h.mem u (List.mem_of_getElem? hu)).1) h.sep h.sepF (by omega) (fun v hv => by have := h.le v hv; omega) (by omega) (fun u hu => (h.mem u hu).2)).mono fun e w' q => ⟨q.1, q.2, rng_append h.rngF h.rng1⟩
end Go.Proofs.YtlhajfepcggjaaaGreatDoor.KP

set_option linter.unusedVariables false
set_option linter.unusedSimpArgs false
namespace Go.Proofs.YtlhajfepcggjaaaGreatDoor.KP
open Go Go.RowKit Go.Proofs.YtlhajfepcggjaaaGreatDoorW.PrintWords Go.Proofs.YtlhajfepcggjaaaGreatDoorW.PrintLast Go.Proofs.YtlhajfepcggjaaaGreatDoorW.PrintMore Go.Proofs.YtlhajfepcggjaaaGreatDoor.R

def lentR.T7 : Bool × List (List Nat × List Nat) := (true, [([], []), ([0], [0]), ([], []), ([], []), ([], []), ([3, 4], [3, 4]), ([5], [5]), ([6], [6]), ([2, 7], [2, 7]), ([8], [8]), ([1, 9], [1, 9]), ([0, 1, 2, 3, 4, 5, 6, 7, 8, 9, 10], []), ([11, 10, 10, 0, 1, 2, 3, 4, 5, 6, 7, 8, 9, 10], [10, 11])])
def lentR.B7 : List Nat := [0, 1, 0, 0, 0, 24, 56, 120, 252, 508, 1023, 2047, 4095]
theorem lentR.tab7 : rtab .any (opsOf Tryz.f4 7) = lentR.T7 := by kernel_rfl
theorem lentR.bits7 : waitsOk lentR.T7.2 lentR.B7 = true := by kernel_rfl
def lentR.T11 : Bool × List (List Nat × List Nat) := (true, [([], []), ([0], [0]), ([], []), ([2], [2]), ([3], [3]), ([4], [4]), ([1, 5, 3], [1, 5]), ([0, 1, 2, 3, 4, 5, 6], []), ([7, 6, 6, 0, 1, 2, 3, 4, 5, 6], [6, 7])])
def lentR.B11 : List Nat := [0, 1, 0, 4, 12, 28, 63, 127, 255]
theorem lentR.tab11 : rtab .any (opsOf Tryz.f4 11) = lentR.T11 := by kernel_rfl
theorem lentR.bits11 : waitsOk lentR.T11.2 lentR.B11 = true := by kernel_rfl
set_option maxHeartbeats 16000000 in
set_option maxRecDepth 100000 in
theorem lentRows_calls (kk : Nat) (l : List (List Int)) (A0 : Option Addr) (c0 : Nat) (w0 : World) (hl0 : Kd.C (Kd.slice 3 (Kd.int .i64)) w0 A0 l.length l) (hc0 : l.length ≤ c0) (hlen : l.length ≤ 2000000) (hfl : ∀ x ∈ l, x.length ≤ 2000000) (hL : ∀ x ∈ l, depotkit_Lent.f kk x = some (x ++ marksL)) :
  Calls Tryz.prog 4 #[.slice A0 l.length c0] w0 fun e w' => ∃ A c rowsV rs cs, e = .returned (.agg #[.slice A l.length c, .slice A (l.length + 64) c, rowsV]) ∧ PapersR w' w0.heap.size (.slice A (l.length + 64) c) rowsV l rs cs (RsL l) ∧ Below w0.heap.size w0 w' := by
 have HL := Aside0.mk hl0
 have HF := Aside0.mk hfl
 have HLE := Aside0.mk hL
 clear hl0 hfl hL
 go_enter Tryz.func4, Tryz.ntmps4
 go_wp2
 obtain ⟨B, hB⟩ : ∃ B, w0.heap.size = B := ⟨_, rfl⟩
 rw [hB]
 have hst : LNR B (B + 1) l 0 0 0 (.slice none 0 0) (.slice none 0 0) [] [] w0 ((w0.alloc (.cells #[.slice none 0 0, .slice none 0 0, .slice none 0 0] 29)).alloc (.cells #[.slice none 0 0, .slice none 0 0, .slice none 0 0] 29)) := by
  refine ⟨?_, ?_, World.ownsRow_nil _ _ _ _, ⟨rfl, fun j x hj => absurd hj (by omega), fun j hj => absurd hj (by omega)⟩, World.ownsRow_nil _ _ _ _, ⟨by simp, fun j r R hr => by simp at hr, fun j k v u hv => by simp at hv⟩, ?_, fun b hb => by cases hb⟩
  ·have := blk_alloc (heap_alloc_new w0 (.cells #[.slice none 0 0, .slice none 0 0, .slice none 0 0] 29)) (.cells #[.slice none 0 0, .slice none 0 0, .slice none 0 0] 29)
   rw [hB] at this
   exact this
  ·have := heap_alloc_new (w0.alloc (.cells #[.slice none 0 0, .slice none 0 0, .slice none 0 0] 29)) (.cells #[.slice none 0 0, .slice none 0 0, .slice none 0 0] 29)
   rw [World.size_alloc, hB] at this
   exact this
  ·rw [← hB]
   exact below_alloc (below_alloc (Below.refl _ _) _) _
 have HST := Aside0.mk hst
 have HB := Aside0.mk hB
 clear hst hB
 go_loopw [4] (fun iv wr => ∃ (i : Nat) (wholeV rowsV : Value) (rs cs : List Value), iv = .int .i64 (i : Nat) ∧ i ≤ l.length ∧ Aside0 (LNR B (B + 1) l i 0 i wholeV rowsV rs cs w0 wr)) (fun iv _ => l.length - (RowKit.intOf iv).toNat)
 case atStart => exact ⟨0, _, _, _, _, rfl, Nat.zero_le _, HST⟩
 case round =>
  clear HST
  obtain ⟨i, wholeV, rowsV, rs, cs, rfl, hi, HN⟩ := hrel
  by_cases hlt : i < l.length
  ·obtain ⟨x, hx⟩ : ∃ x, l[i]? = some x := ⟨_, List.getElem?_eq_getElem hlt⟩
   have hfx := HF.out x (List.mem_of_getElem? hx)
   obtain ⟨ad, A1, c1, eA, hx1, hle, hC⟩ := at_L3 HL.out (i : Nat) (by omega) (by omega)
   have hrd : rd_L3 l (i : Nat) = x := by unfold rd_L3; rw [Int.toNat_natCast, List.getD_eq_getElem?_getD, hx]; rfl
   rw [hrd] at hx1 hle hC
   rw [Int.toNat_natCast] at hx1
   subst eA
   have hgx : B < B + 1 := Nat.lt_succ_self _
   have HX1 := Aside0.mk (fun (W : World) (hb : Below B w0 W) => (hb.cell (by rw [← HB.out]; exact World.block_lt_of_cell? w0 _ hx1)).trans hx1)
   have HLX := Aside0.mk (HLE.out x (List.mem_of_getElem? hx))
   have HXI := Aside0.mk hx
   have hBs : B ≤ wr.heap.size := by rw [← HB.out]; exact HN.out.bel.size
   have hCr : (Kd.int .i64).C wr A1 x.length x := Kd.C_below (w := w0) hC (by rw [HB.out]; exact HN.out.bel)
   have HCR := Aside0.mk hCr
   have x1 := HX1.out _ HN.out.bel
   clear hx1 hC hCr hrd hx
   go_wp2_with fail
   refine (depotkit_Lent.calls kk A1 c1 x (x ++ marksL) wr HCR.out hle HLX.out).mono ?_
   rintro e w1 ⟨v1, rfl, hR1, hb1⟩
   have HN1 := Aside0.mk (HN.out.below hBs hb1)
   have hoff : ∀ b, v1.ownBlock = some b → offK rs b := fun b hb => HN.out.rows.off b (Kd.R_base hR1 b hb)
   obtain ⟨A2, c2, rfl⟩ := Kd.R_slice hR1
   have hcap : x.length ≤ c2 := by
    have h := (Kd.R_reads' hR1).2.1
    rw [List.length_append] at h
    omega
   obtain ⟨n2, hn2⟩ : ∃ n2, (x ++ marksL).length = n2 := ⟨_, rfl⟩
   rw [hn2] at hR1 hoff ⊢
   have HV := Aside0.mk (Kd.R_lower hR1 hBs)
   have HOFF := Aside0.mk hoff
   have hBs1 : B ≤ w1.heap.size := by rw [← HB.out]; exact HN1.out.bel.size
   clear HN hb1 hR1 hoff hBs x1 HCR
   have b2 := (blk_cell HN1.out.box 2).trans (show _ = some rowsV from rfl)
   have hown2 : w1.ownsRow B 43 1 rowsV rs.length rs := by rw [HN1.out.len]; exact HN1.out.own2
   go_wp2_with (first | (at_builtin; refine print_append (w0 := w0) B rfl (.tmp 19) (.tmp 21) 22 43 (.slice none 0 0) 24 rfl Tryz.underlying22 info43I rfl (by decide) rowsV rs (.slice A2 n2 c2) rfl rfl rfl hown2 HN1.out.bel hBs1 ?hl ?_; (case hl => rw [HN1.out.len]; omega)))
   intro v3 w3 hv3 hb3 hg3 hat3
   have hb35 := HN1.out.box_rows hg3
   have hv3' : w3.ownsRow B 43 1 v3 (i + 1) (rs ++ [.slice A2 n2 c2]) := by
    have h := hv3
    rw [HN1.out.len] at h
    exact h
   obtain ⟨A3, c3, rfl⟩ := own_slice hv3'
   have HN3 := Aside0.mk (HN1.out.row (by rw [HB.out]; exact Nat.le_refl _) hgx HXI.out (Nat.le_refl _) HV.out HOFF.out hg3 hat3 hv3')
   have d0 := (blk_cell hb35 2).trans (show _ = some rowsV from rfl)
   have d1 := blk_frozen hb35 2
   clear b2 hown2 hv3 hb3 hg3 hat3 hv3' hBs1 HV HN1 hb35
   go_upto_region 7 with (fail)
   clear d0 d1
   generalize w3.setCell ⟨B + 1, 2, none⟩ (.slice A3 (i + 1) c3) = w4 at HN3 ⊢
   have e0 := (blk_cell HN3.out.box 1).trans (show _ = some wholeV from rfl)
   have e2 := HX1.out _ HN3.out.bel
   have hrs : rs.length = i := by
    have := HN3.out.len
    rw [List.length_append] at this
    simp at this
    omega
   have hr6 : (rs ++ [Value.slice A2 n2 c2])[i]? = some (.slice A2 n2 c2) := by
    rw [List.getElem?_append_right (by omega), hrs, Nat.sub_self]
    rfl
   have HR6 := Aside0.mk hr6
   clear hrs hr6
   refine start_ (n := 13) (S := fun w' => w'.cell? ⟨B + 1, 1, none⟩ = some wholeV ∧ w'.cell? (ad.add i) = some (.slice A1 x.length c1)) (ds := [12]) #[false, false, false, false, false, false, false, false, false, false, false, false, false] (by kernel_rfl) rfl rfl ⟨e0, e2⟩ (fun hHeld => ?_); refine with_tabW lentR.tab7 lentR.bits7 (fun HT_ HW_ => ?_)
   have HN4 := Aside0.mk (show LNR B (B + 1) l i 0 (i + 1) wholeV (.slice A3 (i + 1) c3) (rs ++ [.slice A2 n2 c2]) cs w0 w4.drew from HN3.out.below (by rw [← HB.out]; exact HN3.out.bel.size) (Below.refl _ _).drew)
   generalize w4.drew = w5 at HN4 hHeld ⊢
   clear HN3 e0 e2
   refine pure_ (i := 0) (N := some 24) (v := ?_) (a' := ?_) #[true, false, false, false, false, false, false, false, false, false, false, false, false] rfl rfl (any_of HT_.out (by kernel_rfl)) (fun _ _ _ h => h) (Or.inl ⟨by rfl, ?_⟩) ?_ ?_
   rotate_left
   ·intro w'
    go_simp
    with_reducible rfl
   rotate_left
   ·simp only [Act.put, List.setIfInBounds_toArray, List.set_cons_zero, List.set_cons_succ, i64_w, i32_w]
    rfl
   refine pure_ (i := 2) (N := some 26) (v := ?_) (a' := ?_) #[true, false, true, false, false, false, false, false, false, false, false, false, false] rfl rfl (any_of HT_.out (by kernel_rfl)) (fun _ _ _ h => h) (Or.inl ⟨by rfl, ?_⟩) ?_ ?_
   rotate_left
   ·intro w'
    go_simp
    with_reducible rfl
   rotate_left
   ·simp only [Act.put, List.setIfInBounds_toArray, List.set_cons_zero, List.set_cons_succ, i64_w, i32_w]
    rfl
   refine pure_ (i := 3) (N := some 27) (v := ?_) (a' := ?_) #[true, false, true, true, false, false, false, false, false, false, false, false, false] rfl rfl (any_of HT_.out (by kernel_rfl)) (fun _ _ _ h => h) (Or.inl ⟨by rfl, ?_⟩) ?_ ?_
   rotate_left
   ·intro w'
    go_simp
    with_reducible rfl
   rotate_left
   ·simp only [Act.put, List.setIfInBounds_toArray, List.set_cons_zero, List.set_cons_succ, i64_w, i32_w]
    rfl
   refine pure_ (i := 4) (N := some 28) (v := ?_) (a' := ?_) #[true, false, true, true, true, false, false, false, false, false, false, false, false] rfl rfl (any_of HT_.out (by kernel_rfl)) (fun _ _ _ h => h) (Or.inl ⟨by rfl, ?_⟩) ?_ ?_
   rotate_left
   ·intro w'
    go_simp
    with_reducible rfl
   rotate_left
   ·simp only [Act.put, List.setIfInBounds_toArray, List.set_cons_zero, List.set_cons_succ, i64_w, i32_w]
    rfl
   refine pure_ (i := 5) (N := some 29) (v := ?_) (a' := ?_) #[true, false, true, true, true, true, false, false, false, false, false, false, false] rfl rfl (any_of HT_.out (by kernel_rfl)) (fun _ _ _ h => h) (Or.inl ⟨by rfl, ?_⟩) ?_ ?_
   rotate_left
   ·intro w'
    go_simp
    with_reducible rfl
   rotate_left
   ·simp only [Act.put, List.setIfInBounds_toArray, List.set_cons_zero, List.set_cons_succ, i64_w, i32_w]
    rfl
   refine take_ (i := 1) (N := some 25) (v := ?_) (a' := ?_) #[true, true, true, true, true, true, false, false, false, false, false, false, false] rfl rfl (take_ofW HT_.out HW_.out (by kernel_rfl)) (fun _ _ _ h => h) (Or.inl ⟨by rfl, ?_⟩) hHeld ?_ ?_
   rotate_left
   ·rintro w' ⟨s0, s1⟩
    go_simp
    with_reducible rfl
   rotate_left
   ·simp only [Act.put, List.setIfInBounds_toArray, List.set_cons_zero, List.set_cons_succ, i64_w, i32_w]
    rfl
   refine take_ (i := 6) (N := some 30) (v := ?_) (a' := ?_) #[true, true, true, true, true, true, true, false, false, false, false, false, false] rfl rfl (take_ofW HT_.out HW_.out (by kernel_rfl)) (fun _ _ _ h => h) (Or.inl ⟨by rfl, ?_⟩) hHeld ?_ ?_
   rotate_left
   ·rintro w' ⟨s0, s1⟩
    go_simp
    with_reducible rfl
   rotate_left
   ·simp only [Act.put, List.setIfInBounds_toArray, List.set_cons_zero, List.set_cons_succ, i64_w, i32_w]
    rfl
   refine pure_ (i := 7) (N := some 31) (v := ?_) (a' := ?_) #[true, true, true, true, true, true, true, true, false, false, false, false, false] rfl rfl (any_of HT_.out (by kernel_rfl)) (fun _ _ _ h => h) (Or.inl ⟨by rfl, ?_⟩) ?_ ?_
   rotate_left
   ·intro w'
    go_simp
    with_reducible rfl
   rotate_left
   ·simp only [Act.put, List.setIfInBounds_toArray, List.set_cons_zero, List.set_cons_succ, i64_w, i32_w]
    rfl
   refine pure_ (i := 8) (N := some 32) (v := ?_) (a' := ?_) #[true, true, true, true, true, true, true, true, true, false, false, false, false] rfl rfl (any_of HT_.out (by kernel_rfl)) (fun _ _ _ h => h) (Or.inl ⟨by rfl, ?_⟩) ?_ ?_
   rotate_left
   ·intro w'
    go_simp
    with_reducible rfl
   rotate_left
   ·simp only [Act.put, List.setIfInBounds_toArray, List.set_cons_zero, List.set_cons_succ, i64_w, i32_w]
    rfl
   refine one_ (i := 9) (N := some 33) #[true, true, true, true, true, true, true, true, true, true, false, false, false] rfl rfl (one_of HT_.out (by kernel_rfl)) (by decide) (fun K hK => ?_)
   refine value_ (w1 := w5.alloc (.cells #[.slice A2 x.length c2] 43)) (v := .slice (some ⟨w5.heap.size, 0, none⟩) 1 1) (by rfl) rfl ?_ ?_
   ·go_simp
   have hB5 : B ≤ w5.heap.size := by rw [← HB.out]; exact HN4.out.bel.size
   have HA := Aside0.mk (HN4.out.below hB5 (alloc_below w5 (.cells #[.slice A2 x.length c2] 43)))
   refine hK.out _ _ ⟨(blk_cell HA.out.box 1).trans rfl, HX1.out _ HA.out.bel⟩ (fun hHeld => ?_)
   clear hK K HA
   refine norm_ (a' := ?_) ?_ ?_
   rotate_left
   ·show Act.put _ (some 33) _ = _
    simp only [Act.put, List.setIfInBounds_toArray, List.set_cons_zero, List.set_cons_succ, i64_w, i32_w]
    rfl
   refine one_ (i := 10) (N := some 34) #[true, true, true, true, true, true, true, true, true, true, true, false, false] rfl rfl (one_of HT_.out (by kernel_rfl)) (by decide) (fun K hK => ?_)
   refine step_append_cells (w0 := w0) B (by rfl) (.tmp 25) (.tmp 33) 22 43 (.slice none 0 0) 1 24 rfl Tryz.underlying22 info43I rfl (by decide) (by decide) wholeV (i + 0) cs [.slice A2 x.length c2] rfl rfl rfl (by intro u hu; simp only [List.mem_cons, List.not_mem_nil, or_false] at hu; subst hu; rfl) HN4.out.own HN4.out.bel hB5 (by omega) ?_
   intro v6 w6 hv6 hb6 hg6 hat6
   obtain ⟨A6, c6, rfl⟩ := own_slice hv6
   have hbx6 := HN4.out.box_in hg6
   refine hK.out _ _ ⟨(blk_cell hbx6 1).trans rfl, HX1.out _ hb6⟩ (fun hHeld => ?_)
   clear hK K
   refine norm_ (a' := ?_) ?_ ?_
   rotate_left
   ·show Act.put _ (some 34) _ = _
    simp only [Act.put, List.setIfInBounds_toArray, List.set_cons_zero, List.set_cons_succ, i64_w, i32_w]
    rfl
   refine pure_ (i := 11) (N := some 35) (v := ?_) (a' := ?_) #[true, true, true, true, true, true, true, true, true, true, true, true, false] rfl rfl (any_of HT_.out (by kernel_rfl)) (fun _ _ _ h => h) (Or.inl ⟨by rfl, ?_⟩) ?_ ?_
   rotate_left
   ·intro w'
    go_simp
    with_reducible rfl
   rotate_left
   ·simp only [Act.put, List.setIfInBounds_toArray, List.set_cons_zero, List.set_cons_succ, i64_w, i32_w]
    rfl
   refine last_ (i := 12) (N := none) #[true, true, true, true, true, true, true, true, true, true, true, true, true] rfl rfl (one_of HT_.out (by kernel_rfl)) (by decide) (fun K hK => ?_)
   have f0 : w6.cell? ⟨B + 1, 1, none⟩ = some wholeV := (blk_cell hbx6 1).trans rfl
   have f1 := blk_frozen hbx6 1
   refine skip_ (w1 := ?_) (by rfl) rfl ?_ ?_
   rotate_left
   ·go_simp
    rfl
   refine hK.out _ _ ?_
   clear hK K
   refine done_ (done_of HT_.out (by kernel_rfl)) ?_
   have HN6 := Aside0.mk (HN4.out.inn_ (i' := i + 1) (q' := 0) (by rw [HB.out]; exact Nat.le_refl _) hgx rfl (HN4.out.inn.step HXI.out HR6.out) hg6 hat6 hv6)
   clear f0 f1 hbx6 hg6 hv6 hb6 hat6 HN4 HT_ HW_ hHeld
   go_wp2
   go_roundw
   case rel => exact ⟨i + 1, _, _, _, _, by simp, by omega, HN6⟩
   case measure => simp [RowKit.intOf]; omega
  ·have hie : i = l.length := by omega
   subst hie
   go_wp2
   go_loopw [6] (fun jv wr => ∃ (j : Nat) (wholeV : Value) (cs : List Value), jv = .int .i64 (j : Nat) ∧ j ≤ 64 ∧ Aside0 (LNR B (B + 1) l l.length j l.length wholeV rowsV rs cs w0 wr)) (fun jv _ => 64 - (RowKit.intOf jv).toNat)
   case atStart => exact ⟨0, _, _, rfl, Nat.zero_le _, HN⟩
   case round =>
    clear HN
    clear cs wholeV
    obtain ⟨j, wholeV, cs, rfl, hj, HN⟩ := hrel
    have hBs : B ≤ wr.heap.size := by rw [← HB.out]; exact HN.out.bel.size
    by_cases hj64 : j < 64
    ·have e0 := (blk_cell HN.out.box 1).trans (show _ = some wholeV from rfl)
     go_upto_region 11 with (fail)
     refine start_ (n := 9) (S := fun w' => w'.cell? ⟨B + 1, 1, none⟩ = some wholeV) (ds := [8]) #[false, false, false, false, false, false, false, false, false] (by kernel_rfl) rfl rfl e0 (fun hHeld => ?_); refine with_tabW lentR.tab11 lentR.bits11 (fun HT_ HW_ => ?_)
     clear hHeld
     have hHeld := (blk_cell (blk_drew HN.out.box) 1).trans (show _ = some wholeV from rfl)
     clear e0
     refine pure_ (i := 0) (N := some 40) (v := ?_) (a' := ?_) #[true, false, false, false, false, false, false, false, false] rfl rfl (any_of HT_.out (by kernel_rfl)) (fun _ _ _ h => h) (Or.inl ⟨by rfl, ?_⟩) ?_ ?_
     rotate_left
     ·intro w'
      go_simp
      with_reducible rfl
     rotate_left
     ·simp only [Act.put, List.setIfInBounds_toArray, List.set_cons_zero, List.set_cons_succ, i64_w, i32_w]
      rfl
     refine pure_ (i := 2) (N := some 42) (v := ?_) (a' := ?_) #[true, false, true, false, false, false, false, false, false] rfl rfl (any_of HT_.out (by kernel_rfl)) (fun _ _ _ h => h) (Or.inl ⟨by rfl, ?_⟩) ?_ ?_
     rotate_left
     ·intro w'
      go_simp
      with_reducible rfl
     rotate_left
     ·simp only [Act.put, List.setIfInBounds_toArray, List.set_cons_zero, List.set_cons_succ, i64_w, i32_w]
      rfl
     refine take_ (i := 1) (N := some 41) (v := ?_) (a' := ?_) #[true, true, true, false, false, false, false, false, false] rfl rfl (take_ofW HT_.out HW_.out (by kernel_rfl)) (fun _ _ _ h => h) (Or.inl ⟨by rfl, ?_⟩) hHeld ?_ ?_
     rotate_left
     ·intro w' s0
      go_simp
      with_reducible rfl
     rotate_left
     ·simp only [Act.put, List.setIfInBounds_toArray, List.set_cons_zero, List.set_cons_succ, i64_w, i32_w]
      rfl
     refine one_ (i := 3) (N := some 43) #[true, true, true, true, false, false, false, false, false] rfl rfl (one_of HT_.out (by kernel_rfl)) (by decide) (fun K hK => ?_)
     refine goes_ Tryz.func18 (by kernel_rfl) rfl #[.int .i64 1, .int .i64 (j : Nat)] (by rfl) rfl rfl (by (try simp only [List.map_toArray, List.map_cons, List.map_nil]); first | done | rfl) ?_
     refine (mark_calls 1 j 1 j rfl rfl _).mono ?_
     rintro e wm ⟨rfl, hbm⟩
     refine ⟨_, rfl, ?_⟩
     have HNm := Aside0.mk (HN.out.below hBs (Below.trans ((Below.refl wr.heap.size wr).drew) hbm))
     refine hK.out _ _ ((blk_cell HNm.out.box 1).trans rfl) (fun hHeld => ?_)
     clear hK K hbm
     refine norm_ (a' := ?_) ?_ ?_
     rotate_left
     ·show Act.put _ (some 43) _ = _
      simp only [Act.put, List.setIfInBounds_toArray, List.set_cons_zero, List.set_cons_succ, i64_w, i32_w]
      rfl
     refine one_ (i := 4) (N := some 44) #[true, true, true, true, true, false, false, false, false] rfl rfl (one_of HT_.out (by kernel_rfl)) (by decide) (fun K hK => ?_)
     refine value_ (w1 := wm.alloc (.cells #[.int .i64 (mkv 1 j)] 3)) (v := .slice (some ⟨wm.heap.size, 0, none⟩) 1 1) (by rfl) rfl ?_ ?_
     ·go_simp
     have hBm : B ≤ wm.heap.size := by rw [← HB.out]; exact HNm.out.bel.size
     have HNa := Aside0.mk (HNm.out.below hBm (alloc_below wm (.cells #[.int .i64 (mkv 1 j)] 3)))
     have HSa : Aside0 (behR (wm.alloc (.cells #[.int .i64 (mkv 1 j)] 3)) j (.slice (some ⟨wm.heap.size, 0, none⟩) 1 1)) := ⟨⟨_, rfl, heap_alloc_new wm _⟩⟩
     refine hK.out _ _ ((blk_cell HNa.out.box 1).trans rfl) (fun hHeld => ?_)
     clear hK K HNm
     generalize wm.alloc (.cells #[.int .i64 (mkv 1 j)] 3) = wa at HNa HSa hHeld ⊢
     obtain ⟨gl, hgl⟩ : ∃ gl, wm.heap.size = gl := ⟨_, rfl⟩
     rw [hgl] at HSa ⊢
     refine norm_ (a' := ?_) ?_ ?_
     rotate_left
     ·show Act.put _ (some 44) _ = _
      simp only [Act.put, List.setIfInBounds_toArray, List.set_cons_zero, List.set_cons_succ, i64_w, i32_w]
      rfl
     refine one_ (i := 5) (N := some 45) #[true, true, true, true, true, true, false, false, false] rfl rfl (one_of HT_.out (by kernel_rfl)) (by decide) (fun K hK => ?_)
     refine value_ (w1 := wa.alloc (.cells #[.slice (some ⟨gl, 0, none⟩) 1 1] 43)) (v := .slice (some ⟨wa.heap.size, 0, none⟩) 1 1) (by rfl) rfl ?_ ?_
     ·go_simp
     have hBa : B ≤ wa.heap.size := by rw [← HB.out]; exact HNa.out.bel.size
     refine hK.out _ _ ((blk_cell (blk_alloc HNa.out.box _) 1).trans rfl) (fun hHeld => ?_)
     clear hK K
     refine norm_ (a' := ?_) ?_ ?_
     rotate_left
     ·show Act.put _ (some 45) _ = _
      simp only [Act.put, List.setIfInBounds_toArray, List.set_cons_zero, List.set_cons_succ, i64_w, i32_w]
      rfl
     refine one_ (i := 6) (N := some 46) #[true, true, true, true, true, true, true, false, false] rfl rfl (one_of HT_.out (by kernel_rfl)) (by decide) (fun K hK => ?_)
     refine step_append_cells (w0 := w0) B (by rfl) (.tmp 41) (.tmp 45) 22 43 (.slice none 0 0) 1 24 rfl Tryz.underlying22 info43I rfl (by decide) (by decide) wholeV (l.length + j) cs [.slice (some ⟨gl, 0, none⟩) 1 1] rfl rfl rfl (by intro u hu; simp only [List.mem_cons, List.not_mem_nil, or_false] at hu; subst hu; rfl) HNa.out.own HNa.out.bel hBa (by omega) ?_
     intro v6 w6 hv6 hb6 hg6 hat6
     obtain ⟨A6, c6, rfl⟩ := own_slice hv6
     have hbx6 := HNa.out.box_in hg6
     refine hK.out _ _ ((blk_cell hbx6 1).trans rfl) (fun hHeld => ?_)
     clear hK K
     refine norm_ (a' := ?_) ?_ ?_
     rotate_left
     ·show Act.put _ (some 46) _ = _
      simp only [Act.put, List.setIfInBounds_toArray, List.set_cons_zero, List.set_cons_succ, i64_w, i32_w]
      rfl
     refine pure_ (i := 7) (N := some 47) (v := ?_) (a' := ?_) #[true, true, true, true, true, true, true, true, false] rfl rfl (any_of HT_.out (by kernel_rfl)) (fun _ _ _ h => h) (Or.inl ⟨by rfl, ?_⟩) ?_ ?_
     rotate_left
     ·intro w'
      go_simp
      with_reducible rfl
     rotate_left
     ·simp only [Act.put, List.setIfInBounds_toArray, List.set_cons_zero, List.set_cons_succ, i64_w, i32_w]
      rfl
     refine last_ (i := 8) (N := none) #[true, true, true, true, true, true, true, true, true] rfl rfl (one_of HT_.out (by kernel_rfl)) (by decide) (fun K hK => ?_)
     have f0 : w6.cell? ⟨B + 1, 1, none⟩ = some wholeV := (blk_cell hbx6 1).trans rfl
     have f1 := blk_frozen hbx6 1
     refine skip_ (w1 := ?_) (by rfl) rfl ?_ ?_
     rotate_left
     ·go_simp
      rfl
     refine hK.out _ _ ?_
     clear hK K
     refine done_ (done_of HT_.out (by kernel_rfl)) ?_
     have HN6 := Aside0.mk (HNa.out.inn_ (i' := l.length) (q' := j + 1) (by rw [HB.out]; exact Nat.le_refl _) (Nat.lt_succ_self _) (by omega) (HNa.out.inn.marked HSa.out) hg6 hat6 hv6)
     clear f0 f1 hbx6 hg6 hv6 hb6 hat6 HNa HSa HN HT_ HW_ hHeld
     go_wp2
     go_roundw
     case rel => exact ⟨j + 1, _, _, by simp, by omega, HN6⟩
     case measure => simp [RowKit.intOf]; omega
    ·have hje : j = 64 := by omega
     subst hje
     have hib := HN.out.own
     have hrb := HN.out.own2
     obtain ⟨Ai, ci, rfl⟩ := own_slice hib
     obtain ⟨Ar, cr, rfl⟩ := own_slice hrb
     have hci : l.length + 64 ≤ ci := by
      obtain ⟨g, c, hv, _, _⟩ := hib.form (by omega)
      rw [hv] at hib
      obtain ⟨_, _, _, hn, _⟩ := own_at hib
      injection hv with _ _ h3
      omega
     have e0 := (blk_cell HN.out.box 0).trans (show _ = some (Value.slice none 0 0) from rfl)
     have e1 := (blk_cell HN.out.box 1).trans (show _ = some (Value.slice Ai (l.length + 64) ci) from rfl)
     have e2 := blk_frozen HN.out.box 0
     have hbx := HN.out.box
     clear hib hrb
     go_upto_region 13 with (fail)
     have hbx1 : (wr.setCell ⟨B + 1, 0, none⟩ (.slice Ai l.length ci)).heap[B + 1]? = some (.cells #[.slice Ai l.length ci, .slice Ai (l.length + 64) ci, .slice Ar l.length cr] 29 (0, 0)) := blk_set hbx 0 (.slice Ai l.length ci)
     have hrs1 := blk_far HN.out.res (show B ≠ (⟨B + 1, 0, none⟩ : Addr).block by show B ≠ B + 1; omega) (.slice Ai l.length ci)
     have ho1 := off29_set (off29_refl wr) (j := 0) (u := .slice Ai l.length ci) hbx
     have hB1 : Below B w0 (wr.setCell ⟨B + 1, 0, none⟩ (.slice Ai l.length ci)) := HN.out.bel.setCell (Nat.le_succ _) _
     clear e0 e1 e2 hbx
     generalize wr.setCell ⟨B + 1, 0, none⟩ (.slice Ai l.length ci) = w7 at hbx1 hrs1 ho1 hB1 ⊢
     have e0 := (blk_cell hbx1 0).trans (show _ = some (Value.slice Ai l.length ci) from rfl)
     have e1 := (blk_cell hbx1 1).trans (show _ = some (Value.slice Ai (l.length + 64) ci) from rfl)
     have e2 := (blk_cell hbx1 2).trans (show _ = some (Value.slice Ar l.length cr) from rfl)
     have r0 := (blk_cell hrs1 0).trans (show _ = some (Value.slice none 0 0) from rfl)
     have r1 := (blk_cell hrs1 1).trans (show _ = some (Value.slice none 0 0) from rfl)
     have r2 := (blk_cell hrs1 2).trans (show _ = some (Value.slice none 0 0) from rfl)
     have r3 := blk_frozen hrs1 0
     have r4 := blk_frozen hrs1 1
     have r5 := blk_frozen hrs1 2
     go_wp2
     have s1 := blk_set hrs1 0 (.slice Ai l.length ci)
     have s2 := blk_set s1 1 (.slice Ai (l.length + 64) ci)
     have s3 := blk_set s2 2 (.slice Ar l.length cr)
     have o3 := off29_set (off29_set (off29_set ho1 (j := 0) (u := .slice Ai l.length ci) hrs1) (j := 1) (u := .slice Ai (l.length + 64) ci) s1) (j := 2) (u := .slice Ar l.length cr) s2
     refine bodyPost_ret (results_single rfl (.cell B 29 #[.slice Ai l.length ci, .slice Ai (l.length + 64) ci, .slice Ar l.length cr] (0, 0) _ rfl s3 Tryz.underlying29 rfl (by kernel_rfl) .nil)) rfl ?_
     rw [HB.out]
     exact ⟨_, _, _, _, _, rfl, HN.out.papers o3, ((hB1.setCell (Nat.le_refl _) _).setCell (Nat.le_refl _) _).setCell (Nat.le_refl _) _⟩
end Go.Proofs.YtlhajfepcggjaaaGreatDoor.KP
