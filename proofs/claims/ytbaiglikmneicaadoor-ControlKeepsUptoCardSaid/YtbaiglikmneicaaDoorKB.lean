/- Rows of stanzas that were read: their cells, their fields' rows, all apart. No conditions. Stanzas with room behind them, and their fields' rows: what lies, and how it reads. No conditions. depotlaw21.lent: what lies while it builds, and what each step leaves. No conditions. depotlaw21.lent: what it makes. Condition: fewer than a million stanzas, each of fewer than a million fields. depotlaw21.over: all fields of the rows are written over. No conditions. What lies behind lent and over, as lists. No conditions. -/
import Derived.Test.YtbaiglikmneicaaDoorKA
import Derived.Test.YtbaiglikmneicaaDoorPx0
import Derived.Deep.DeepAppendRoom
import Derived.LoopN
import Derived.StillTailTactics
set_option linter.unusedVariables false
set_option linter.unusedSimpArgs false
namespace Go.Proofs.YtbaiglikmneicaaDoor.KP
open Go Go.RowKit Go.Proofs.YtbaiglikmneicaaDoorW.PrintWords Go.Proofs.YtbaiglikmneicaaDoorW.PrintLast Go.Proofs.YtbaiglikmneicaaDoorW.PrintMore Go.Proofs.YtbaiglikmneicaaDoor.P

/-- What lies of a row of stanzas. -/
structure Op41 (w : World) (lo hi : Nat) (v : Value) (l : List S41) (X : List Value) : Prop where
  len : lenV v = l.length
  row : w.ownsRow lo 41 2 v l.length X
  low : ∀ k, v.ownBlock = some k → k < hi
  fld : ∀ (j : Nat) (x : S41), l[j]? = some x → ∃ A c, X[j * 2]? = some (.int .i64 x.f0) ∧ X[j * 2 + 1]? = some (.slice A x.f1.length c) ∧ k50.R 50 w lo (fun k => k < hi) (.slice A x.f1.length c) x.f1
  sep : apart (fieldsN X l.length)
theorem fieldsN_at {X : List Value} : ∀ {n j : Nat} {u : Value}, (fieldsN X n)[j]? = some u ↔ (j < n ∧ u = X.getD (j * 2 + 1) (.slice none 0 0))
  | 0, j, u => by simp [fieldsN]
  | n + 1, j, u => by
    rw [fieldsN, List.getElem?_append, fieldsN_len]
    by_cases h : j < n
    · rw [if_pos h, fieldsN_at]
      constructor
      · rintro ⟨_, rfl⟩; exact ⟨by omega, rfl⟩
      · rintro ⟨_, rfl⟩; exact ⟨h, rfl⟩
    · rw [if_neg h]
      by_cases hj : j = n
      · subst hj
        simp only [Nat.sub_self, List.getElem?_cons_zero]
        constructor
        · rintro h; injection h with h; exact ⟨by omega, h.symm⟩
        · rintro ⟨_, rfl⟩; rfl
      · obtain ⟨m, hm⟩ : ∃ m, j - n = m + 1 := ⟨j - n - 1, by omega⟩
        rw [hm]
        constructor
        · intro h; simp at h
        · rintro ⟨h, _⟩; omega
theorem apart_append {es bs : List Value} {N : Nat} (ha : apart es) (hb : apart bs) (hl : ∀ v ∈ es, ∀ k, v.ownBlock = some k → k < N) (hg : ∀ v ∈ bs, ∀ k, v.ownBlock = some k → N ≤ k) : apart (es ++ bs) := by
  intro j k v u hv hu hjk b hb1 hb2
  rw [List.getElem?_append] at hv hu
  split at hv
  · split at hu
    · exact ha j k v u hv hu hjk b hb1 hb2
    · have h1 := hl v (List.mem_of_getElem? hv) b hb1
      have h2 := hg u (List.mem_of_getElem? hu) b hb2
      omega
  · split at hu
    · have h1 := hg v (List.mem_of_getElem? hv) b hb1
      have h2 := hl u (List.mem_of_getElem? hu) b hb2
      omega
    · exact hb _ _ v u hv hu (by omega) b hb1 hb2
theorem apart_nil : apart [] := fun j k v u hv => by simp at hv
theorem apart_one (v : Value) : apart [v] := fun j k u u' hu hu' hjk => by
  have h1 := (List.getElem?_eq_some_iff.1 hu).1
  have h2 := (List.getElem?_eq_some_iff.1 hu').1
  simp at h1 h2
  omega
theorem S_open41 {w : World} {base : Nat} {v : Value} {l : List S41} (h : Kd.S k41 41 w base (fun _ => True) v l) : ∃ X, Op41 w base w.heap.size v l X := by
  obtain ⟨A, c, hv⟩ := Kd.S_slice h
  obtain ⟨f, hr⟩ := h
  obtain ⟨h0, inner, ho, hrep⟩ := Kd.R_bound hr
  rw [List.length_zipIdx] at ho
  have hat : ∀ (j : Nat) (x : S41), l[j]? = some x → ∃ u, inner[j * 2]? = some (.int .i64 x.f0) ∧ inner[j * 2 + 1]? = some u ∧ k50.R 50 w base (fun k => f k = j ∧ k < w.heap.size) u x.f1 := by
    intro j x hx
    have h1 := hrep.2 j (x, j) (Kd.zip_at hx)
    obtain ⟨u, hcs, hu⟩ := k41_openM (show k41.M w base _ x _ from h1)
    have hcs2 : (inner.drop (j * 2)).take 2 = [Value.int .i64 x.f0, u] := hcs
    have e0 : ((inner.drop (j * 2)).take 2)[0]? = some (Value.int .i64 x.f0) := by rw [hcs2]; rfl
    have e1 : ((inner.drop (j * 2)).take 2)[1]? = some u := by rw [hcs2]; rfl
    rw [List.getElem?_take, if_pos (by omega), List.getElem?_drop] at e0 e1
    exact ⟨u, e0, e1, Kd.R_mono hu fun k hk => ⟨hk.2, hk.1.1.2.2.1⟩⟩
  refine ⟨inner, by rw [hv]; rfl, ho, fun k hk => (h0 k hk).2.2.1, fun j x hx => ?_, fun j k u u' hu hu' hjk b hb1 hb2 => ?_⟩
  · obtain ⟨u, h1, h2, h3⟩ := hat j x hx
    obtain ⟨A', c', rfl⟩ := Kd.R_slice h3
    exact ⟨A', c', h1, h2, Kd.R_mono h3 fun k hk => hk.2⟩
  · obtain ⟨hj, rfl⟩ := fieldsN_at.1 hu
    obtain ⟨hk, rfl⟩ := fieldsN_at.1 hu'
    obtain ⟨a, _, e2, e3⟩ := hat j _ (List.getElem?_eq_getElem hj)
    obtain ⟨a', _, e2', e3'⟩ := hat k _ (List.getElem?_eq_getElem hk)
    rw [List.getD_eq_getElem?_getD, e2] at hb1
    rw [List.getD_eq_getElem?_getD, e2'] at hb2
    have q1 := (e3.1 b hb1).1
    have q2 := (e3'.1 b hb2).1
    omega
theorem Op41.below {w w1 : World} {lo hi : Nat} {v : Value} {l : List S41} {X : List Value} (h : Op41 w lo hi v l X) (hb : Below w.heap.size w w1) : Op41 w1 lo hi v l X :=
  ⟨h.len, own_below h.row hb, h.low, fun j x hx => by
    obtain ⟨A, c, h0, h1, h2⟩ := h.fld j x hx
    exact ⟨A, c, h0, h1, Kd.R_below h2 hb⟩, h.sep⟩
theorem own_low {w : World} {lo hi e sz n : Nat} {v : Value} {xs : List Value} (h : w.ownsRow lo e sz v n xs) (hl : hi ≤ lo) : w.ownsRow hi e sz v n xs := by
  refine ⟨h.1, ?_⟩
  rcases h.2 with h0 | ⟨g, cap, cur, hv, hb, hr⟩
  · exact .inl h0
  · exact .inr ⟨g, cap, cur, hv, by omega, hr⟩
theorem Op41.mem {w : World} {lo hi : Nat} {v : Value} {l : List S41} {X : List Value} (h : Op41 w lo hi v l X) {u : Value} (hu : u ∈ fieldsN X l.length) :
    (∃ xs, w.ownsRow 0 50 2 u (lenV u) xs) ∧ (∃ x ∈ l, lenV u = x.f1.length) ∧ ∀ k, u.ownBlock = some k → lo ≤ k ∧ k < hi := by
  obtain ⟨j, hj⟩ := List.mem_iff_getElem?.1 hu
  obtain ⟨hlt, rfl⟩ := fieldsN_at.1 hj
  obtain ⟨A, c, _, h1, h2⟩ := h.fld j _ (List.getElem?_eq_getElem hlt)
  rw [List.getD_eq_getElem?_getD, h1]
  obtain ⟨xs, hx⟩ := Kd.R_own h2
  refine ⟨⟨xs, own_low hx (Nat.zero_le _)⟩, ⟨_, List.getElem_mem hlt, rfl⟩, fun k hk => ⟨Kd.R_base h2 k hk, h2.1 k hk⟩⟩
end Go.Proofs.YtbaiglikmneicaaDoor.KP

set_option linter.unusedVariables false
set_option linter.unusedSimpArgs false
namespace Go.Proofs.YtbaiglikmneicaaDoor.KP
open Go Go.RowKit Go.Proofs.YtbaiglikmneicaaDoorW.PrintWords Go.Proofs.YtbaiglikmneicaaDoorW.PrintLast Go.Proofs.YtbaiglikmneicaaDoorW.PrintMore Go.Proofs.YtbaiglikmneicaaDoor.P

/-- The cells of fields. -/
def cells50 (xs : List S50) : List Value := xs.flatMap fun x => [.string x.f0, .string x.f1]
theorem cells50_cons (x : S50) (xs : List S50) : cells50 (x :: xs) = .string x.f0 :: .string x.f1 :: cells50 xs := rfl
theorem cells50_append (xs ys : List S50) : cells50 (xs ++ ys) = cells50 xs ++ cells50 ys := by unfold cells50; rw [List.flatMap_append]
theorem cells50_len : ∀ xs : List S50, (cells50 xs).length = xs.length * 2
  | [] => rfl
  | x :: xs => by rw [cells50_cons, List.length_cons, List.length_cons, cells50_len xs, List.length_cons]; omega
theorem cells50_at : ∀ {xs : List S50} {j : Nat} {x : S50}, xs[j]? = some x → (cells50 xs)[j * 2]? = some (.string x.f0) ∧ (cells50 xs)[j * 2 + 1]? = some (.string x.f1)
  | [], j, x, h => by simp at h
  | y :: ys, 0, x, h => by
    rw [List.getElem?_cons_zero] at h
    injection h with h
    subst h
    exact ⟨rfl, rfl⟩
  | y :: ys, j + 1, x, h => by
    rw [List.getElem?_cons_succ] at h
    have h2 := cells50_at h
    rw [cells50_cons, show (j + 1) * 2 = j * 2 + 1 + 1 from by omega]
    simp only [List.getElem?_cons_succ]
    exact h2
/-- A row's first fields, as they are read. -/
theorem C_of_own {w : World} {base m : Nat} {A : Option Addr} {n c : Nat} {R : List S50} (h : w.ownsRow base 50 2 (.slice A n c) R.length (cells50 R)) (hm : m ≤ R.length) : k50.C w A m (R.take m) := by
  have hcap : R.length ≤ 9223372036854775807 := by
    rcases h.2 with ⟨_, h0⟩ | ⟨g, cap, cur, hv, _, _, hn, hc, _⟩
    · omega
    · unfold maxLen at hc; omega
  refine ⟨by rw [List.length_take, Nat.min_eq_left hm], by omega, fun hp => ?_⟩
  obtain ⟨g, cap, hv, _, _⟩ := h.form (by omega)
  injection hv with e1 e2 e3
  subst e1
  refine ⟨⟨g, 0, none⟩, rfl, fun j p hj => ?_⟩
  have hjl : j < m := by
    have := (List.getElem?_eq_some_iff.1 hj).1
    rw [List.length_take] at this
    omega
  rw [List.getElem?_take, if_pos hjl] at hj
  obtain ⟨c0, c1⟩ := cells50_at hj
  refine ⟨[.string p.f0, .string p.f1], rfl, k50_mk w p, fun i u hu => ?_⟩
  have hjl2 : j < R.length := by omega
  have h2 : w.ownsRow base 50 2 (.slice (some ⟨g, 0, none⟩) R.length cap) R.length (cells50 R) := by rw [← e2, ← e3]; rw [e2] at h ⊢; rw [e3] at h ⊢; exact h
  refine own_news h2 (j * 2 + i) u ?_
  match i, hu with
  | 0, hu => rw [← hu]; exact c0
  | 1, hu => rw [← hu]; exact c1
  | i + 2, hu => simp at hu
/-- The cells of stanzas: m of l's, each with the head of its row; q that are empty, line -7. -/
structure InR (l : List S41) (rs cs : List Value) (m q : Nat) : Prop where
  len : cs.length = (m + q) * 2
  each : ∀ (j : Nat) (x : S41), j < m → l[j]? = some x → ∃ A n c, rs[j]? = some (.slice A n c) ∧ cs[j * 2]? = some (.int .i64 x.f0) ∧ cs[j * 2 + 1]? = some (.slice A x.f1.length c)
  beh : ∀ j : Nat, m ≤ j → j < m + q → cs[j * 2]? = some (.int .i64 (-7)) ∧ cs[j * 2 + 1]? = some (.slice none 0 0)
/-- The rows. -/
structure RowsR (w : World) (base : Nat) (rs : List Value) (Rs : List (List S50)) : Prop where
  len : rs.length = Rs.length
  own : ∀ (j : Nat) (r : Value) (R : List S50), rs[j]? = some r → Rs[j]? = some R → lenV r = R.length ∧ w.ownsRow base 50 2 r R.length (cells50 R)
  sep : apart rs
theorem RowsR.below {w w1 : World} {base : Nat} {rs : List Value} {Rs : List (List S50)} (h : RowsR w base rs Rs) (hb : Below w.heap.size w w1) : RowsR w1 base rs Rs :=
  ⟨h.len, fun j r R hr hR => ⟨(h.own j r R hr hR).1, own_below (h.own j r R hr hR).2 hb⟩, h.sep⟩
/-- What lent makes. -/
structure Papers (w : World) (base : Nat) (inV rowsV : Value) (l : List S41) (rs cs : List Value) (Rs : List (List S50)) : Prop where
  own : w.ownsRow base 41 2 inV (l.length + 64) cs
  inn : InR l rs cs l.length 64
  own2 : w.ownsRow base 39 1 rowsV l.length rs
  rows : RowsR w base rs Rs
  fit : ∀ (j : Nat) (x : S41), l[j]? = some x → ∃ R, Rs[j]? = some R ∧ x.f1.length ≤ R.length
  nrow : Rs.length = l.length
theorem Papers.below {w w1 : World} {base : Nat} {inV rowsV : Value} {l : List S41} {rs cs : List Value} {Rs : List (List S50)} (h : Papers w base inV rowsV l rs cs Rs) (hb : Below w.heap.size w w1) : Papers w1 base inV rowsV l rs cs Rs :=
  ⟨own_below h.own hb, h.inn, own_below h.own2 hb, h.rows.below hb, h.fit, h.nrow⟩
/-- The stanzas that are read at the list's head. -/
def headsK (l : List S41) (Rs : List (List S50)) : List S41 := (List.range l.length).map fun j => ⟨(l.getD j z41).f0, (Rs.getD j []).take (l.getD j z41).f1.length⟩
theorem headsK_len (l : List S41) (Rs : List (List S50)) : (headsK l Rs).length = l.length := by unfold headsK; simp
theorem headsK_at {l : List S41} {Rs : List (List S50)} {j : Nat} {x : S41} {R : List S50} (hx : l[j]? = some x) (hR : Rs[j]? = some R) : (headsK l Rs)[j]? = some ⟨x.f0, R.take x.f1.length⟩ := by
  have hj : j < l.length := (List.getElem?_eq_some_iff.1 hx).1
  unfold headsK
  have e1 : l.getD j z41 = x := by rw [List.getD_eq_getElem?_getD, hx]; rfl
  have e2 : Rs.getD j [] = R := by rw [List.getD_eq_getElem?_getD, hR]; rfl
  rw [List.getElem?_map, List.getElem?_range hj, Option.map_some, e1, e2]
def emptyK : S41 := ⟨-7, []⟩
section
variable {w : World} {base : Nat} {inV rowsV : Value} {l : List S41} {rs cs : List Value} {Rs : List (List S50)}
theorem Papers.reads (h : Papers w base inV rowsV l rs cs Rs) : ∃ g c, inV = .slice (some ⟨g, 0, none⟩) (l.length + 64) c ∧ l.length + 64 ≤ c ∧ Kd.C k41 w (some ⟨g, 0, none⟩) (l.length + 64) (headsK l Rs ++ List.replicate 64 emptyK) ∧ Kd.C k41 w (some ⟨g, 0, none⟩) l.length (headsK l Rs) := by
  obtain ⟨g, c, hv, _, _⟩ := h.own.form (by omega)
  have ho := h.own
  rw [hv] at ho
  obtain ⟨cur, _, _, hn, hc, _⟩ := own_at ho
  unfold maxLen at hc
  have key : ∀ (j : Nat) (p : S41), (headsK l Rs ++ List.replicate 64 emptyK)[j]? = some p → ∃ c2, c2.length = k41.sz ∧ k41.K w p c2 ∧ ∀ i u, c2[i]? = some u → w.cell? ((⟨g, 0, none⟩ : Addr).add (j * k41.sz + i)) = some u := by
    intro j p hp
    rw [List.getElem?_append, headsK_len] at hp
    by_cases hj : j < l.length
    · rw [if_pos hj] at hp
      have hx := List.getElem?_eq_getElem hj
      obtain ⟨x, ex⟩ : ∃ x, l[j] = x := ⟨_, rfl⟩
      rw [ex] at hx
      obtain ⟨R, hR, hle⟩ := h.fit j x hx
      rw [headsK_at hx hR] at hp
      injection hp with hp
      subst hp
      obtain ⟨A, n, c', hr, e0, e1⟩ := h.inn.each j x hj hx
      obtain ⟨hlen, hown⟩ := h.rows.own j _ R hr hR
      have hlen2 : n = R.length := hlen
      subst hlen2
      have hcc : R.length ≤ c' := by
        rcases hown.2 with ⟨h0, _⟩ | ⟨g', cap, cur', hv', _, _, hn', _⟩
        · injection h0 with _ h1 h2
          omega
        · injection hv' with _ _ h2
          omega
      refine ⟨[.int .i64 x.f0, .slice A (R.take x.f1.length).length c'], rfl, k41_mk w ⟨x.f0, R.take x.f1.length⟩ (by simp only [List.length_take]; omega) ?_, fun i u hu => ?_⟩
      · have := C_of_own hown hle
        simp only [List.length_take, Nat.min_eq_left hle]
        exact this
      · refine own_news ho (j * 2 + i) u ?_
        rw [List.length_take, Nat.min_eq_left hle] at hu
        match i, hu with
        | 0, hu => rw [← hu]; exact e0
        | 1, hu => rw [← hu]; exact e1
        | i + 2, hu => simp at hu
    · rw [if_neg hj] at hp
      have hq := (List.getElem?_eq_some_iff.1 hp)
      obtain ⟨hq1, hq2⟩ := hq
      rw [List.length_replicate] at hq1
      rw [List.getElem_replicate] at hq2
      subst hq2
      obtain ⟨e0, e1⟩ := h.inn.beh j (by omega) (by omega)
      refine ⟨[.int .i64 (-7), .slice none 0 0], rfl, k41_mk w emptyK (A1 := none) (c1 := 0) (by decide) ?_, fun i u hu => ?_⟩
      · exact ⟨rfl, by decide, fun h0 => absurd h0 (by decide)⟩
      · refine own_news ho (j * 2 + i) u ?_
        match i, hu with
        | 0, hu => rw [← hu]; exact e0
        | 1, hu => rw [← hu]; exact e1
        | i + 2, hu => simp at hu
  refine ⟨g, c, hv, by omega, ⟨by rw [List.length_append, headsK_len, List.length_replicate], by omega, fun _ => ⟨_, rfl, key⟩⟩, ⟨headsK_len _ _, by omega, fun _ => ⟨_, rfl, fun j p hp => key j p ?_⟩⟩⟩
  rw [List.getElem?_append_left (List.getElem?_eq_some_iff.1 hp).1]
  exact hp
theorem Papers.rowsC (h : Papers w base inV rowsV l rs cs Rs) : ∃ A c, rowsV = .slice A Rs.length c ∧ Rs.length ≤ c ∧ Kd.C (Kd.slice 50 k50) w A Rs.length Rs := by
  have ho := h.own2
  rw [← h.nrow] at ho
  obtain ⟨A, n, hA, c, hv⟩ : ∃ A n, n = Rs.length ∧ ∃ c, rowsV = .slice A n c := by
    rcases ho.2 with ⟨h0, h1⟩ | ⟨g', cap', cur, hv, _⟩
    · exact ⟨none, 0, h1.symm, 0, h0⟩
    · exact ⟨_, _, rfl, _, hv⟩
  subst hA
  subst hv
  have hc : Rs.length ≤ c ∧ Rs.length ≤ 9223372036854775807 := by
    rcases ho.2 with ⟨h0, h1⟩ | ⟨g', cap', cur, hv, _, _, hn, hc, _⟩
    · injection h0 with _ _ h2
      omega
    · injection hv with _ _ h2
      unfold maxLen at hc
      omega
  refine ⟨A, c, rfl, hc.1, rfl, hc.2, fun hp => ?_⟩
  obtain ⟨g, cap, hv, _, _⟩ := ho.form hp
  injection hv with e1 e2 e3
  subst e1
  refine ⟨_, rfl, fun j R hR => ?_⟩
  have hjl : j < Rs.length := (List.getElem?_eq_some_iff.1 hR).1
  have hr : rs[j]? = some (rs[j]'(by rw [h.rows.len]; exact hjl)) := List.getElem?_eq_getElem _
  obtain ⟨r, er⟩ : ∃ r, rs[j]'(by rw [h.rows.len]; exact hjl) = r := ⟨_, rfl⟩
  rw [er] at hr
  obtain ⟨hlen, hown⟩ := h.rows.own j r R hr hR
  obtain ⟨A', c', rfl⟩ := own_slice hown
  have hcc : R.length ≤ c' := by
    rcases hown.2 with ⟨h0, _⟩ | ⟨g', cap, cur', hv', _, _, hn', _⟩
    · injection h0 with _ h1 h2
      omega
    · injection hv' with _ _ h2
      omega
  refine ⟨[.slice A' R.length c'], rfl, ⟨A', c', rfl, hcc, by have := C_of_own hown (Nat.le_refl _); rwa [List.take_length] at this⟩, fun i u hu => ?_⟩
  rw [e2, e3] at ho
  refine own_news ho (j * 1 + i) u ?_
  match i, hu with
  | 0, hu =>
    rw [← hu, Nat.mul_one]
    exact hr
  | i + 1, hu => simp at hu
end
end Go.Proofs.YtbaiglikmneicaaDoor.KP

set_option linter.unusedVariables false
set_option linter.unusedSimpArgs false
namespace Go.Proofs.YtbaiglikmneicaaDoor.KP
open Go Go.RowKit Go.Proofs.YtbaiglikmneicaaDoorW.PrintWords Go.Proofs.YtbaiglikmneicaaDoorW.PrintLast Go.Proofs.YtbaiglikmneicaaDoorW.PrintMore Go.Proofs.YtbaiglikmneicaaDoor.P

def mkK : S50 := ⟨⟨#[109, 97, 114, 107]⟩, ⟨#[109, 97, 114, 107]⟩⟩
/-- The rows of stanzas that are lent. -/
def RsK (l : List S41) : List (List S50) := l.map fun x => x.f1 ++ List.replicate 64 mkK
theorem RsK_at {l : List S41} {j : Nat} {x : S41} (h : l[j]? = some x) : (RsK l)[j]? = some (x.f1 ++ List.replicate 64 mkK) := by
  unfold RsK
  rw [List.getElem?_map, h]
  rfl
theorem own_of_R50 {w : World} {base : Nat} {ok : Nat → Prop} {v : Value} {xs : List S50} (h : k50.R 50 w base ok v xs) : w.ownsRow base 50 2 v xs.length (cells50 xs) := by
  obtain ⟨h0, inner, ho, hr⟩ := h
  have e : inner = cells50 xs := by
    apply List.ext_getElem?
    intro j
    have hl : inner.length = xs.length * 2 := own_len ho
    rcases Nat.lt_or_ge (j / 2) xs.length with hj | hj
    · have hx := List.getElem?_eq_getElem hj
      obtain ⟨x, ex⟩ : ∃ x, xs[j / 2] = x := ⟨_, rfl⟩
      rw [ex] at hx
      have h1 := k50_openM (show k50.M w base _ x _ from hr.2 (j / 2) x hx)
      have h2 : (inner.drop (j / 2 * 2)).take 2 = [Value.string x.f0, Value.string x.f1] := h1
      obtain ⟨c0, c1⟩ := cells50_at hx
      have e0 : ((inner.drop (j / 2 * 2)).take 2)[0]? = some (Value.string x.f0) := by rw [h2]; rfl
      have e1 : ((inner.drop (j / 2 * 2)).take 2)[1]? = some (Value.string x.f1) := by rw [h2]; rfl
      rw [List.getElem?_take, if_pos (by omega), List.getElem?_drop] at e0 e1
      rcases Nat.mod_two_eq_zero_or_one j with hm | hm
      · have ej : j = j / 2 * 2 := by omega
        rw [ej, c0]
        exact e0
      · have ej : j = j / 2 * 2 + 1 := by omega
        rw [ej, c1]
        exact e1
    · rw [List.getElem?_eq_none (by omega), List.getElem?_eq_none (by rw [cells50_len]; omega)]
  rw [e] at ho
  exact ho
/-- Within lent: x's cell, its lists, the rows; i stanzas of l's, q empty ones, m rows. -/
structure LN (B gx : Nat) (l : List S41) (i q m : Nat) (inV rowsV : Value) (rs cs : List Value) (w0 w : World) : Prop where
  res : w.heap[B]? = some (.cells #[.slice none 0 0, .slice none 0 0] 35 (0, 0))
  box : w.heap[gx]? = some (.cells #[inV, rowsV] 35 (0, 0))
  own : w.ownsRow B 41 2 inV (i + q) cs
  inn : InR l rs cs i q
  own2 : w.ownsRow B 39 1 rowsV m rs
  rows : RowsR w B rs ((RsK l).take m)
  bel : Below B w0 w
/-- Not one of the rows' blocks. -/
def offK (rs : List Value) (k : Nat) : Prop := ∀ r ∈ rs, r.ownBlock ≠ some k
section
variable {B gx : Nat} {l : List S41} {i q m : Nat} {inV rowsV : Value} {rs cs : List Value} {w0 w w1 : World}
theorem LN.below (h : LN B gx l i q m inV rowsV rs cs w0 w) (hB : B ≤ w.heap.size) (hb : Below w.heap.size w w1) : LN B gx l i q m inV rowsV rs cs w0 w1 :=
  ⟨blk_below h.res hb, blk_below h.box hb, own_below h.own hb, h.inn, own_below h.own2 hb, h.rows.below hb, h.bel.trans (hb.mono hB)⟩
theorem bel_grown {w0 w w1 : World} {B : Nat} {v : Value} (hw : Below B w0 w) (hB : B ≤ w0.heap.size) (hg : w.grownBy w1 v.ownBlock) (hv : ∀ k, v.ownBlock = some k → B ≤ k) : Below B w0 w1 :=
  ⟨hg.os.trans hw.os, hg.tape.trans hw.tape, hg.output.trans hw.output, Nat.le_trans hw.size hg.size, fun b hb => (hg.block b (Nat.lt_of_lt_of_le hb (Nat.le_trans hB hw.size)) (fun e => by
    have := hv b e.symm
    omega)).trans (hw.block b hb)⟩
/-- The row under way has grown. -/
theorem LN.grow (h : LN B gx l i q m inV rowsV rs cs w0 w) (hB : B ≤ w0.heap.size) {v : Value} {xs : List S50} (hv : k50.R 50 w B (offK rs) v xs) (hg : w.grownBy w1 v.ownBlock) : LN B gx l i q m inV rowsV rs cs w0 w1 := by
  have hty := Kd.R_typed hv
  have hne : ∀ (b : Nat) (e : Nat) (cur : Array Value), w.heap[b]? = some (.cells cur e (0, 0)) → e ≠ 50 → some b ≠ v.ownBlock := fun b e cur hb he e2 => by
    obtain ⟨c, hc⟩ := hty b e2.symm
    exact blk_ne hb hc he rfl
  have hk : ∀ {e sz n : Nat} {u : Value} {ys : List Value}, e ≠ 50 → w.ownsRow B e sz u n ys → w1.ownsRow B e sz u n ys := fun {e sz n u ys} he hu => own_keep hu fun b hb => by
    obtain ⟨cur, hc⟩ := own_typed hu b hb
    exact hg.block b (own_lt hu b hb).2 (hne b e cur hc he)
  refine ⟨blk_grown h.res hg (hne B 35 _ h.res (by decide)), blk_grown h.box hg (hne gx 35 _ h.box (by decide)), hk (by decide) h.own, h.inn, hk (by decide) h.own2, ⟨h.rows.len, fun j r R hr hR => ⟨(h.rows.own j r R hr hR).1, own_keep (h.rows.own j r R hr hR).2 fun b hb => ?_⟩, h.rows.sep⟩, bel_grown h.bel hB hg (Kd.R_base hv)⟩
  refine hg.block b (own_lt (h.rows.own j r R hr hR).2 b hb).2 fun e => ?_
  exact hv.1 b e.symm r (List.mem_of_getElem? hr) hb
theorem InR.more {g : Value} (h : InR l rs cs i q) (hi : i ≤ rs.length) : InR l (rs ++ [g]) cs i q :=
  ⟨h.len, fun j x hj hx => by
    obtain ⟨A, n, c, h1, h2⟩ := h.each j x hj hx
    exact ⟨A, n, c, by rw [List.getElem?_append_left (by omega)]; exact h1, h2⟩, h.beh⟩
/-- The row under way joins the rows: appended, and laid into x. -/
theorem LN.row (h : LN B gx l i q m inV rowsV rs cs w0 w) (hB : B ≤ w0.heap.size) (hgx : B < gx) {x : S41} (hx : l[m]? = some x) (him : i ≤ m) {v : Value} (hv : k50.R 50 w B (offK rs) v (x.f1 ++ List.replicate 64 mkK)) {v' : Value} (hg : w.grownBy w1 rowsV.ownBlock) (ho : w1.ownsRow B 39 1 v' (m + 1) (rs ++ [v])) :
    LN B gx l i q (m + 1) inV v' (rs ++ [v]) cs w0 (w1.setCell ⟨gx, 1, none⟩ v') := by
  have hm : m < l.length := (List.getElem?_eq_some_iff.1 hx).1
  have hml : rs.length = m := by
    have := own_len h.own2
    omega
  have hne : ∀ (b : Nat) (e : Nat) (cur : Array Value), w.heap[b]? = some (.cells cur e (0, 0)) → e ≠ 39 → some b ≠ rowsV.ownBlock := fun b e cur hb he e2 => by
    obtain ⟨c, hc⟩ := own_typed h.own2 b e2.symm
    exact blk_ne hb hc he rfl
  have hbox1 : w1.heap[gx]? = some (.cells #[inV, rowsV] 35 (0, 0)) := blk_grown h.box hg (hne gx 35 _ h.box (by decide))
  have hst : ∀ {e sz n : Nat} {u : Value} {ys : List Value}, e ≠ 35 → w1.ownsRow B e sz u n ys → (w1.setCell ⟨gx, 1, none⟩ v').ownsRow B e sz u n ys := fun {e sz n u ys} he hu => own_keep hu fun b hb => by
    obtain ⟨cur, hc⟩ := own_typed hu b hb
    exact Below.heap_setCell w1 ⟨gx, 1, none⟩ v' b (blk_ne hc hbox1 he)
  have hk : ∀ {e sz n : Nat} {u : Value} {ys : List Value}, e ≠ 39 → w.ownsRow B e sz u n ys → w1.ownsRow B e sz u n ys := fun {e sz n u ys} he hu => own_keep hu fun b hb => by
    obtain ⟨cur, hc⟩ := own_typed hu b hb
    exact hg.block b (own_lt hu b hb).2 (hne b e cur hc he)
  have htl : ((RsK l).take m).length = m := by rw [List.length_take]; unfold RsK; rw [List.length_map]; omega
  have htk : (RsK l).take (m + 1) = (RsK l).take m ++ [x.f1 ++ List.replicate 64 mkK] := by
    rw [List.take_add_one, RsK_at hx]
    rfl
  refine ⟨blk_far (blk_grown h.res hg (hne B 35 _ h.res (by decide))) (Nat.ne_of_lt hgx) _, ?_, hst (by decide) (hk (by decide) h.own), h.inn.more (by omega), hst (by decide) ho, ⟨?_, fun j r R hr hR => ?_, ?_⟩, (bel_grown h.bel hB hg (fun k hk => (own_lt h.own2 k hk).1)).setCell (Nat.le_of_lt hgx) _⟩
  · have := blk_set hbox1 1 v'
    exact this
  · rw [htk, List.length_append, List.length_append, htl, hml]
    rfl
  · rw [htk] at hR
    rcases Nat.lt_or_ge j m with hj | hj
    · rw [List.getElem?_append_left (by omega)] at hr hR
      exact ⟨(h.rows.own j r R hr hR).1, hst (by decide) (hk (by decide) (h.rows.own j r R hr hR).2)⟩
    · have hjm : j = m := by
        have := (List.getElem?_eq_some_iff.1 hr).1
        rw [List.length_append, hml] at this
        simp at this
        omega
      subst hjm
      rw [List.getElem?_append_right (by omega), hml, Nat.sub_self] at hr
      rw [List.getElem?_append_right (by omega), htl, Nat.sub_self] at hR
      injection hr with hr
      injection hR with hR
      subst hr hR
      obtain ⟨A, c, rfl⟩ := Kd.R_slice hv
      exact ⟨rfl, hst (by decide) (hk (by decide) (own_of_R50 hv))⟩
  · intro j k a b ha hb hjk n hn hn2
    have key : ∀ (j : Nat) (a : Value), (rs ++ [v])[j]? = some a → (j < m ∧ rs[j]? = some a) ∨ (j = m ∧ a = v) := fun j a ha => by
      rcases Nat.lt_or_ge j m with hj | hj
      · rw [List.getElem?_append_left (by omega)] at ha
        exact .inl ⟨hj, ha⟩
      · have hjm : j = m := by
          have := (List.getElem?_eq_some_iff.1 ha).1
          rw [List.length_append, hml] at this
          simp at this
          omega
        subst hjm
        rw [List.getElem?_append_right (by omega), hml, Nat.sub_self] at ha
        injection ha with ha
        exact .inr ⟨rfl, ha.symm⟩
    rcases key j a ha with ⟨h1, h2⟩ | ⟨h1, h2⟩
    · rcases key k b hb with ⟨h3, h4⟩ | ⟨h3, h4⟩
      · exact h.rows.sep j k a b h2 h4 hjk n hn hn2
      · subst h4
        exact hv.1 n hn2 a (List.mem_of_getElem? h2) hn
    · rcases key k b hb with ⟨h3, h4⟩ | ⟨h3, h4⟩
      · subst h2
        exact hv.1 n hn b (List.mem_of_getElem? h4) hn2
      · omega
theorem LN.box_rows (h : LN B gx l i q m inV rowsV rs cs w0 w) (hg : w.grownBy w1 rowsV.ownBlock) : w1.heap[gx]? = some (.cells #[inV, rowsV] 35 (0, 0)) := by
  refine blk_grown h.box hg fun e2 => ?_
  obtain ⟨c, hc⟩ := own_typed h.own2 gx e2.symm
  exact blk_ne h.box hc (by decide) rfl
theorem LN.box_in (h : LN B gx l i q m inV rowsV rs cs w0 w) (hg : w.grownBy w1 inV.ownBlock) : w1.heap[gx]? = some (.cells #[inV, rowsV] 35 (0, 0)) := by
  refine blk_grown h.box hg fun e2 => ?_
  obtain ⟨c, hc⟩ := own_typed h.own gx e2.symm
  exact blk_ne h.box hc (by decide) rfl
theorem LN.len (h : LN B gx l i q m inV rowsV rs cs w0 w) : rs.length = m := by
  have := own_len h.own2
  omega
theorem cells_snoc {a b u : Value} {cs : List Value} {j n : Nat} (hl : cs.length = n * 2) : (j < n → (cs ++ [a, b])[j * 2]? = cs[j * 2]? ∧ (cs ++ [a, b])[j * 2 + 1]? = cs[j * 2 + 1]?) ∧ (j = n → (cs ++ [a, b])[j * 2]? = some a ∧ (cs ++ [a, b])[j * 2 + 1]? = some b) := by
  refine ⟨fun h => ⟨List.getElem?_append_left (by omega), List.getElem?_append_left (by omega)⟩, fun h => ?_⟩
  subst h
  rw [List.getElem?_append_right (by omega), List.getElem?_append_right (by omega), hl, Nat.sub_self, show j * 2 + 1 - j * 2 = 1 from by omega]
  exact ⟨rfl, rfl⟩
/-- A stanza joins: appended, and laid into x. -/
theorem LN.inn_ (h : LN B gx l i q m inV rowsV rs cs w0 w) (hB : B ≤ w0.heap.size) (hgx : B < gx) {a b : Value} {i' q' : Nat} (hs : i' + q' = i + q + 1) (hI : InR l rs (cs ++ [a, b]) i' q') {v' : Value} (hg : w.grownBy w1 inV.ownBlock) (ho : w1.ownsRow B 41 2 v' (i + q + 1) (cs ++ [a, b])) :
    LN B gx l i' q' m v' rowsV rs (cs ++ [a, b]) w0 (w1.setCell ⟨gx, 0, none⟩ v') := by
  have hne : ∀ (b : Nat) (e : Nat) (cur : Array Value), w.heap[b]? = some (.cells cur e (0, 0)) → e ≠ 41 → some b ≠ inV.ownBlock := fun b e cur hb he e2 => by
    obtain ⟨c, hc⟩ := own_typed h.own b e2.symm
    exact blk_ne hb hc he rfl
  have hbox1 : w1.heap[gx]? = some (.cells #[inV, rowsV] 35 (0, 0)) := blk_grown h.box hg (hne gx 35 _ h.box (by decide))
  have hst : ∀ {e sz n : Nat} {u : Value} {ys : List Value}, e ≠ 35 → w1.ownsRow B e sz u n ys → (w1.setCell ⟨gx, 0, none⟩ v').ownsRow B e sz u n ys := fun {e sz n u ys} he hu => own_keep hu fun b hb => by
    obtain ⟨cur, hc⟩ := own_typed hu b hb
    exact Below.heap_setCell w1 ⟨gx, 0, none⟩ v' b (blk_ne hc hbox1 he)
  have hk : ∀ {e sz n : Nat} {u : Value} {ys : List Value}, e ≠ 41 → w.ownsRow B e sz u n ys → w1.ownsRow B e sz u n ys := fun {e sz n u ys} he hu => own_keep hu fun b hb => by
    obtain ⟨cur, hc⟩ := own_typed hu b hb
    exact hg.block b (own_lt hu b hb).2 (hne b e cur hc he)
  refine ⟨blk_far (blk_grown h.res hg (hne B 35 _ h.res (by decide))) (Nat.ne_of_lt hgx) _, ?_, by rw [hs]; exact hst (by decide) ho, hI, hst (by decide) (hk (by decide) h.own2), ⟨h.rows.len, fun j r R hr hR => ⟨(h.rows.own j r R hr hR).1, hst (by decide) (hk (by decide) (h.rows.own j r R hr hR).2)⟩, h.rows.sep⟩, (bel_grown h.bel hB hg (fun k hk => (own_lt h.own k hk).1)).setCell (Nat.le_of_lt hgx) _⟩
  have := blk_set hbox1 0 v'
  exact this
theorem InR.stanza (h : InR l rs cs i 0) {x : S41} (hx : l[i]? = some x) {A : Option Addr} {n c : Nat} (hr : rs[i]? = some (.slice A n c)) : InR l rs (cs ++ [.int .i64 x.f0, .slice A x.f1.length c]) (i + 1) 0 := by
  have hl : cs.length = i * 2 := by have := h.len; omega
  refine ⟨by rw [List.length_append, hl]; simp; omega, fun j y hj hy => ?_, fun j h1 h2 => by omega⟩
  rcases Nat.lt_or_ge j i with hji | hji
  · obtain ⟨A', n', c', h1, h2, h3⟩ := h.each j y hji hy
    obtain ⟨e1, e2⟩ := (cells_snoc (a := .int .i64 x.f0) (b := .slice A x.f1.length c) (u := undef) (j := j) hl).1 hji
    exact ⟨A', n', c', h1, e1.trans h2, e2.trans h3⟩
  · have hj2 : j = i := by omega
    subst hj2
    rw [hx] at hy
    injection hy with hy
    subst hy
    obtain ⟨e1, e2⟩ := (cells_snoc (a := .int .i64 x.f0) (b := .slice A x.f1.length c) (u := undef) (j := j) hl).2 rfl
    exact ⟨A, n, c, hr, e1, e2⟩
theorem InR.empty (h : InR l rs cs i q) : InR l rs (cs ++ [.int .i64 (-7), .slice none 0 0]) i (q + 1) := by
  have hl : cs.length = (i + q) * 2 := h.len
  refine ⟨by rw [List.length_append, hl]; simp; omega, fun j y hj hy => ?_, fun j h1 h2 => ?_⟩
  · obtain ⟨A', n', c', h1, h2, h3⟩ := h.each j y hj hy
    obtain ⟨e1, e2⟩ := (cells_snoc (a := .int .i64 (-7)) (b := .slice none 0 0) (u := undef) (j := j) hl).1 (by omega)
    exact ⟨A', n', c', h1, e1.trans h2, e2.trans h3⟩
  · rcases Nat.lt_or_ge j (i + q) with hji | hji
    · obtain ⟨e1, e2⟩ := (cells_snoc (a := .int .i64 (-7)) (b := .slice none 0 0) (u := undef) (j := j) hl).1 hji
      exact ⟨e1.trans (h.beh j h1 hji).1, e2.trans (h.beh j h1 hji).2⟩
    · exact (cells_snoc (a := .int .i64 (-7)) (b := .slice none 0 0) (u := undef) (j := j) hl).2 (by omega)
theorem LN.papers (h : LN B gx l l.length 64 l.length inV rowsV rs cs w0 w) (a b : Value) : Papers ((w.setCell ⟨B, 0, none⟩ a).setCell ⟨B, 1, none⟩ b) B inV rowsV l rs cs (RsK l) ∧ Below B w0 ((w.setCell ⟨B, 0, none⟩ a).setCell ⟨B, 1, none⟩ b) := by
  have hst : ∀ {e sz n : Nat} {u : Value} {ys : List Value}, e ≠ 35 → w.ownsRow B e sz u n ys → ((w.setCell ⟨B, 0, none⟩ a).setCell ⟨B, 1, none⟩ b).ownsRow B e sz u n ys := fun {e sz n u ys} he hu => own_keep hu fun k hk => by
    obtain ⟨cur, hc⟩ := own_typed hu k hk
    have hne := blk_ne hc h.res he
    exact (Below.heap_setCell _ ⟨B, 1, none⟩ b k hne).trans (Below.heap_setCell w ⟨B, 0, none⟩ a k hne)
  have hl : (RsK l).take l.length = RsK l := List.take_of_length_le (by unfold RsK; rw [List.length_map]; exact Nat.le_refl _)
  have hrows := h.rows
  rw [hl] at hrows
  refine ⟨⟨hst (by decide) h.own, h.inn, hst (by decide) h.own2, ⟨hrows.len, fun j r R hr hR => ⟨(hrows.own j r R hr hR).1, hst (by decide) (hrows.own j r R hr hR).2⟩, hrows.sep⟩, fun j x hx => ⟨_, RsK_at hx, by simp⟩, by unfold RsK; rw [List.length_map]⟩, (h.bel.setCell (Nat.le_refl _) _).setCell (Nat.le_refl _) _⟩
end
end Go.Proofs.YtbaiglikmneicaaDoor.KP

set_option linter.unusedVariables false
set_option linter.unusedSimpArgs false
namespace Go.Proofs.YtbaiglikmneicaaDoor.KP
open Go Go.RowKit Go.Proofs.YtbaiglikmneicaaDoorW.PrintWords Go.Proofs.YtbaiglikmneicaaDoorW.PrintLast Go.Proofs.YtbaiglikmneicaaDoorW.PrintMore Go.Proofs.YtbaiglikmneicaaDoor.P

theorem RowsR.off {w : World} {B : Nat} {rs : List Value} {Rs : List (List S50)} (h : RowsR w B rs Rs) : ∀ k, w.heap.size ≤ k → offK rs k := fun k hk r hr e => by
  obtain ⟨j, hj⟩ := List.mem_iff_getElem?.1 hr
  have hjl : j < Rs.length := by rw [← h.len]; exact (List.getElem?_eq_some_iff.1 hj).1
  have := (own_lt (h.own j r _ hj (List.getElem?_eq_getElem hjl)).2 k e).2
  omega
def lentK.T12 : Bool × List (List Nat × List Nat) := (true, [([], []), ([0], [0]), ([], []), ([], []), ([2, 3], [2, 3]), ([4], [4]), ([5], [5]), ([], []), ([], []), ([], []), ([8, 9], [8, 9]), ([10], [10]), ([11], [11]), ([12], [12]), ([7, 13], [7, 13]), ([6, 14], [6, 14]), ([15], [15]), ([1, 16], [1, 16]), ([0, 1, 2, 3, 4, 5, 6, 7, 8, 9, 10, 11, 12, 13, 14, 15, 16, 17], []), ([18, 17, 17, 0, 1, 2, 3, 4, 5, 6, 7, 8, 9, 10, 11, 12, 13, 14, 15, 16, 17], [17, 18])])
def lentK.B12 : List Nat := [0, 1, 0, 0, 12, 28, 60, 0, 0, 0, 768, 1792, 3840, 7936, 16256, 32764, 65532, 131071, 262143, 524287]
theorem lentK.tab12 : rtab .any (opsOf Tryd.f21 12) = lentK.T12 := by kernel_rfl
theorem lentK.bits12 : waitsOk lentK.T12.2 lentK.B12 = true := by kernel_rfl
set_option maxHeartbeats 16000000 in
set_option maxRecDepth 100000 in
theorem lent_calls (l : List S41) (A0 : Option Addr) (c0 : Nat) (w0 : World) (hl0 : Kd.C k41 w0 A0 l.length l) (hc0 : l.length ≤ c0) (hlen : l.length ≤ 2000000) (hfl : ∀ x ∈ l, x.f1.length ≤ 2000000) :
    Calls Tryd.prog 21 #[.slice A0 l.length c0] w0 fun e w' => ∃ inV rowsV rs cs, e = .returned (.agg #[inV, rowsV]) ∧ Papers w' w0.heap.size inV rowsV l rs cs (RsK l) ∧ Below w0.heap.size w0 w' := by
  have HL := Aside0.mk hl0
  have HF := Aside0.mk hfl
  clear hl0 hfl
  go_enter Tryd.func21, Tryd.ntmps21
  go_wp2
  obtain ⟨B, hB⟩ : ∃ B, w0.heap.size = B := ⟨_, rfl⟩
  rw [hB]
  have hst : LN B (B + 1) l 0 0 0 (.slice none 0 0) (.slice none 0 0) [] [] w0 ((w0.alloc (.cells #[.slice none 0 0, .slice none 0 0] 35)).alloc (.cells #[.slice none 0 0, .slice none 0 0] 35)) := by
    refine ⟨?_, ?_, World.ownsRow_nil _ _ _ _, ⟨rfl, fun j x hj => absurd hj (by omega), fun j _ hj => absurd hj (by omega)⟩, World.ownsRow_nil _ _ _ _, ⟨by simp, fun j r R hr => by simp at hr, apart_nil⟩, ?_⟩
    · have := blk_alloc (heap_alloc_new w0 (.cells #[.slice none 0 0, .slice none 0 0] 35)) (.cells #[.slice none 0 0, .slice none 0 0] 35)
      rw [hB] at this
      exact this
    · have := heap_alloc_new (w0.alloc (.cells #[.slice none 0 0, .slice none 0 0] 35)) (.cells #[.slice none 0 0, .slice none 0 0] 35)
      rw [World.size_alloc, hB] at this
      exact this
    · rw [← hB]
      exact below_alloc (below_alloc (Below.refl _ _) _) _
  have HST := Aside0.mk hst
  have HB := Aside0.mk hB
  clear hst hB
  go_loopw [4] (fun iv wr => ∃ (i : Nat) (inV rowsV : Value) (rs cs : List Value), iv = .int .i64 (i : Nat) ∧ i ≤ l.length ∧ Aside0 (LN B (B + 1) l i 0 i inV rowsV rs cs w0 wr)) (fun iv _ => l.length - (RowKit.intOf iv).toNat)
  case atStart => exact ⟨0, _, _, _, _, rfl, Nat.zero_le _, HST⟩
  case round =>
    obtain ⟨i, inV, rowsV, rs, cs, rfl, hi, HN⟩ := hrel
    by_cases hlt : i < l.length
    · obtain ⟨x, hx⟩ : ∃ x, l[i]? = some x := ⟨_, List.getElem?_eq_getElem hlt⟩
      have hfx := HF.out x (List.mem_of_getElem? hx)
      obtain ⟨ad, A1, c1, eA, hx0, hx1, hle, hC⟩ := at_T41 HL.out (i : Nat) (by omega) (by omega)
      have hrd : rd_T41 l (i : Nat) = x := by unfold rd_T41; rw [Int.toNat_natCast, List.getD_eq_getElem?_getD, hx]; rfl
      rw [hrd] at hx0 hx1 hle hC
      rw [Int.toNat_natCast] at hx0 hx1
      subst eA
      have hgx : B < B + 1 := Nat.lt_succ_self _
      have HX0 := Aside0.mk (fun (W : World) (hb : Below B w0 W) => (hb.cell (by rw [← HB.out]; exact World.block_lt_of_cell? w0 _ hx0)).trans hx0)
      have HX1 := Aside0.mk (fun (W : World) (hb : Below B w0 W) => (hb.cell (by rw [← HB.out]; exact World.block_lt_of_cell? w0 _ hx1)).trans hx1)
      have HC := Aside0.mk hC
      have HXI := Aside0.mk hx
      have hle0 := HN.out.bel.size
      have x0 := HX0.out _ HN.out.bel
      have x1 := HX1.out _ HN.out.bel
      clear hx0 hx1 hC hrd hx hle0
      clear x0
      have hCr : k50.C wr A1 x.f1.length x.f1 := Kd.C_below (w := w0) HC.out (by rw [HB.out]; exact HN.out.bel)
      have hBs : B ≤ wr.heap.size := by rw [← HB.out]; exact HN.out.bel.size
      go_wp2_with (first | (at_builtin; refine Kd.R_append_rows k50 (Rr := k50.K wr) (w0 := w0) B rfl (.tmp 14) (.tmp 19) 39 50 (.agg #[.string ⟨#[]⟩, .string ⟨#[]⟩]) 32 rfl Tryd.underlying39 info50K rfl (by decide) (by decide) (.slice none 0 0) [] x.f1 A1 x.f1.length c1 (offK rs) (fun _ => False) rfl rfl (Kd.R_nil _ _ _ _ _) hCr (fun _ _ h => h) (fun _ h => h.elim) HN.out.rows.off HN.out.bel hBs (by simp; omega) ?_))
      intro v1 w1 hv1 hb1 hg1 hat1
      have HV1 := Aside0.mk hv1
      have HN1 := Aside0.mk (HN.out.grow (by rw [HB.out]; exact Nat.le_refl _) (Kd.R_nil k50 50 wr B (offK rs)) hg1)
      clear hv1 hg1 hat1 hb1 x1 hCr HN hBs
      go_wp2
      go_loopw [5, 6] (fun rv jv wr => ∃ (j : Nat) (gv : Value), gv = rv ∧ jv = .int .i64 (j : Nat) ∧ j ≤ 64 ∧ Aside0 (k50.R 50 wr B (offK rs) gv (x.f1 ++ List.replicate j mkK)) ∧ Aside0 (LN B (B + 1) l i 0 i inV rowsV rs cs w0 wr)) (fun _ jv _ => 64 - (RowKit.intOf jv).toNat)
      case atStart => exact ⟨0, _, rfl, rfl, Nat.zero_le _, ⟨by simpa using HV1.out⟩, HN1⟩
      case round =>
        clear HV1 HN1
        obtain ⟨j, gv, rfl, rfl, hj, HV, HN⟩ := hrel
        have hBs : B ≤ wr.heap.size := by rw [← HB.out]; exact HN.out.bel.size
        by_cases hj64 : j < 64
        · go_wp2_with (first | (at_builtin; refine Kd.R_append k50 (w0 := w0) B rfl (.tmp 25) (.tmp 27) 39 50 (.agg #[.string ⟨#[]⟩, .string ⟨#[]⟩]) 32 rfl Tryd.underlying39 info50K rfl (by decide) (by decide) gv (x.f1 ++ List.replicate j mkK) mkK [.string ⟨#[109, 97, 114, 107]⟩, .string ⟨#[109, 97, 114, 107]⟩] (offK rs) (fun _ => False) rfl rfl (k50_mkM _ _ _ _) (fun _ h => h.elim) HN.out.rows.off HV.out HN.out.bel hBs (by simp; omega) ?_))
          intro v2 w2 hv2 hb2 hg2 hat2
          have HV2 := Aside0.mk hv2
          have HN2 := Aside0.mk (HN.out.grow (by rw [HB.out]; exact Nat.le_refl _) HV.out hg2)
          clear hv2 hg2 hat2 hb2 HV HN hBs
          go_wp2
          go_roundw
          case rel => exact ⟨j + 1, _, rfl, by simp, by omega, ⟨by rw [List.replicate_succ', ← List.append_assoc]; have := HV2.out; simp only [List.append_assoc] at this ⊢; exact this⟩, HN2⟩
          case measure => simp [RowKit.intOf]; omega
        · have hje : j = 64 := by omega
          subst hje
          have b0 := blk_cell HN.out.box 0
          have b1 := blk_cell HN.out.box 1
          have b2 := blk_frozen HN.out.box 1
          simp only [List.getElem?_toArray, List.getElem?_cons_zero, List.getElem?_cons_succ] at b0 b1
          obtain ⟨A2, c2, rfl⟩ := Kd.R_slice HV.out
          obtain ⟨n2, hn2⟩ : ∃ n2, (x.f1 ++ List.replicate 64 mkK).length = n2 := ⟨_, rfl⟩
          rw [hn2] at HV ⊢
          have hown2 : wr.ownsRow B 39 1 rowsV rs.length rs := by rw [HN.out.len]; exact HN.out.own2
          clear b2
          go_wp2_with (first | (at_builtin; refine print_append (w0 := w0) B rfl (.tmp 30) (.tmp 32) 33 39 (.slice none 0 0) 24 rfl Tryd.underlying33 info39K rfl (by decide) rowsV rs (.slice A2 n2 c2) rfl rfl rfl hown2 HN.out.bel hBs ?hl ?_; (case hl => rw [HN.out.len]; omega)))
          intro v3 w3 hv3 hb3 hg3 hat3
          have hb35 := HN.out.box_rows hg3
          have hv3' : w3.ownsRow B 39 1 v3 (i + 1) (rs ++ [.slice A2 n2 c2]) := by
            have h := hv3
            rw [HN.out.len] at h
            exact h
          obtain ⟨A3, c3, rfl⟩ := own_slice hv3'
          have HN3 := Aside0.mk (HN.out.row (by rw [HB.out]; exact Nat.le_refl _) hgx HXI.out (Nat.le_refl _) HV.out hg3 hv3')
          have hcap : x.f1.length ≤ c2 := by
            obtain ⟨_, hle2, _⟩ := Kd.R_reads' HV.out
            have : n2 = x.f1.length + 64 := by rw [← hn2]; simp
            omega
          have d0 := (blk_cell hb35 1).trans (show _ = some rowsV from rfl)
          have d1 := blk_frozen hb35 1
          clear b0 b1 hown2 hv3 hb3 hg3 hat3 hv3' hBs HV HN hb35
          go_upto_region 12 with (fail)
          clear d0 d1
          generalize w3.setCell ⟨B + 1, 1, none⟩ (.slice A3 (i + 1) c3) = w4 at HN3 ⊢
          have e0 := (blk_cell HN3.out.box 0).trans (show _ = some inV from rfl)
          have e1 := HX0.out _ HN3.out.bel
          have e2 := HX1.out _ HN3.out.bel
          have hB1 := HN3.out.bel
          refine start_ (n := 20) (S := fun w' => w'.cell? ⟨B + 1, 0, none⟩ = some inV ∧ w'.cell? (ad.add (i * 2)) = some (.int .i64 x.f0) ∧ w'.cell? ⟨(ad.add (i * 2)).block, (ad.add (i * 2)).off + 1, none⟩ = some (.slice A1 x.f1.length c1)) (ds := [19]) #[false, false, false, false, false, false, false, false, false, false, false, false, false, false, false, false, false, false, false, false] (by kernel_rfl) rfl rfl ⟨e0, e1, e2⟩ (fun hHeld => ?_); refine with_tabW lentK.tab12 lentK.bits12 (fun HT_ HW_ => ?_)
          have HN4 := Aside0.mk (show LN B (B + 1) l i 0 (i + 1) inV (.slice A3 (i + 1) c3) (rs ++ [.slice A2 n2 c2]) cs w0 w4.drew from HN3.out.below (by rw [← HB.out]; exact HN3.out.bel.size) (Below.refl _ _).drew)
          generalize w4.drew = w5 at HN4 hHeld ⊢
          clear HN3 e0 e1 e2 hB1
          refine pure_ (i := 0) (N := some 35) (v := ?_) (a' := ?_) #[true, false, false, false, false, false, false, false, false, false, false, false, false, false, false, false, false, false, false, false] rfl rfl (any_of HT_.out (by kernel_rfl)) (fun _ _ _ h => h) (Or.inl ⟨by rfl, ?_⟩) ?_ ?_
          rotate_left
          · intro w'
            go_simp
            with_reducible rfl
          rotate_left
          · simp only [Act.put, List.setIfInBounds_toArray, List.set_cons_zero, List.set_cons_succ, i64_w, i32_w]
            rfl
          refine pure_ (i := 2) (N := some 37) (v := ?_) (a' := ?_) #[true, false, true, false, false, false, false, false, false, false, false, false, false, false, false, false, false, false, false, false] rfl rfl (any_of HT_.out (by kernel_rfl)) (fun _ _ _ h => h) (Or.inl ⟨by rfl, ?_⟩) ?_ ?_
          rotate_left
          · intro w'
            go_simp
            with_reducible rfl
          rotate_left
          · simp only [Act.put, List.setIfInBounds_toArray, List.set_cons_zero, List.set_cons_succ, i64_w, i32_w]
            rfl
          refine pure_ (i := 3) (N := some 38) (v := ?_) (a' := ?_) #[true, false, true, true, false, false, false, false, false, false, false, false, false, false, false, false, false, false, false, false] rfl rfl (any_of HT_.out (by kernel_rfl)) (fun _ _ _ h => h) (Or.inl ⟨by rfl, ?_⟩) ?_ ?_
          rotate_left
          · intro w'
            go_simp
            with_reducible rfl
          rotate_left
          · simp only [Act.put, List.setIfInBounds_toArray, List.set_cons_zero, List.set_cons_succ, i64_w, i32_w]
            rfl
          refine pure_ (i := 4) (N := some 39) (v := ?_) (a' := ?_) #[true, false, true, true, true, false, false, false, false, false, false, false, false, false, false, false, false, false, false, false] rfl rfl (any_of HT_.out (by kernel_rfl)) (fun _ _ _ h => h) (Or.inl ⟨by rfl, ?_⟩) ?_ ?_
          rotate_left
          · intro w'
            go_simp
            with_reducible rfl
          rotate_left
          · simp only [Act.put, List.setIfInBounds_toArray, List.set_cons_zero, List.set_cons_succ, i64_w, i32_w]
            rfl
          refine pure_ (i := 5) (N := some 40) (v := ?_) (a' := ?_) #[true, false, true, true, true, true, false, false, false, false, false, false, false, false, false, false, false, false, false, false] rfl rfl (any_of HT_.out (by kernel_rfl)) (fun _ _ _ h => h) (Or.inl ⟨by rfl, ?_⟩) ?_ ?_
          rotate_left
          · intro w'
            go_simp
            with_reducible rfl
          rotate_left
          · simp only [Act.put, List.setIfInBounds_toArray, List.set_cons_zero, List.set_cons_succ, i64_w, i32_w]
            rfl
          refine pure_ (i := 7) (N := some 42) (v := ?_) (a' := ?_) #[true, false, true, true, true, true, false, true, false, false, false, false, false, false, false, false, false, false, false, false] rfl rfl (any_of HT_.out (by kernel_rfl)) (fun _ _ _ h => h) (Or.inl ⟨by rfl, ?_⟩) ?_ ?_
          rotate_left
          · intro w'
            go_simp
            with_reducible rfl
          rotate_left
          · simp only [Act.put, List.setIfInBounds_toArray, List.set_cons_zero, List.set_cons_succ, i64_w, i32_w]
            rfl
          refine pure_ (i := 8) (N := some 43) (v := ?_) (a' := ?_) #[true, false, true, true, true, true, false, true, true, false, false, false, false, false, false, false, false, false, false, false] rfl rfl (any_of HT_.out (by kernel_rfl)) (fun _ _ _ h => h) (Or.inl ⟨by rfl, ?_⟩) ?_ ?_
          rotate_left
          · intro w'
            go_simp
            with_reducible rfl
          rotate_left
          · simp only [Act.put, List.setIfInBounds_toArray, List.set_cons_zero, List.set_cons_succ, i64_w, i32_w]
            rfl
          refine pure_ (i := 9) (N := some 44) (v := ?_) (a' := ?_) #[true, false, true, true, true, true, false, true, true, true, false, false, false, false, false, false, false, false, false, false] rfl rfl (any_of HT_.out (by kernel_rfl)) (fun _ _ _ h => h) (Or.inl ⟨by rfl, ?_⟩) ?_ ?_
          rotate_left
          · intro w'
            go_simp
            with_reducible rfl
          rotate_left
          · simp only [Act.put, List.setIfInBounds_toArray, List.set_cons_zero, List.set_cons_succ, i64_w, i32_w]
            rfl
          refine pure_ (i := 10) (N := some 45) (v := ?_) (a' := ?_) #[true, false, true, true, true, true, false, true, true, true, true, false, false, false, false, false, false, false, false, false] rfl rfl (any_of HT_.out (by kernel_rfl)) (fun _ _ _ h => h) (Or.inl ⟨by rfl, ?_⟩) ?_ ?_
          rotate_left
          · intro w'
            go_simp
            with_reducible rfl
          rotate_left
          · simp only [Act.put, List.setIfInBounds_toArray, List.set_cons_zero, List.set_cons_succ, i64_w, i32_w]
            rfl
          refine pure_ (i := 11) (N := some 46) (v := ?_) (a' := ?_) #[true, false, true, true, true, true, false, true, true, true, true, true, false, false, false, false, false, false, false, false] rfl rfl (any_of HT_.out (by kernel_rfl)) (fun _ _ _ h => h) (Or.inl ⟨by rfl, ?_⟩) ?_ ?_
          rotate_left
          · intro w'
            go_simp
            with_reducible rfl
          rotate_left
          · simp only [Act.put, List.setIfInBounds_toArray, List.set_cons_zero, List.set_cons_succ, i64_w, i32_w]
            rfl
          refine take_ (i := 1) (N := some 36) (v := ?_) (a' := ?_) #[true, true, true, true, true, true, false, true, true, true, true, true, false, false, false, false, false, false, false, false] rfl rfl (take_ofW HT_.out HW_.out (by kernel_rfl)) (fun _ _ _ h => h) (Or.inl ⟨by rfl, ?_⟩) hHeld ?_ ?_
          rotate_left
          · rintro w' ⟨s0, s1, s2⟩
            go_simp
            with_reducible rfl
          rotate_left
          · simp only [Act.put, List.setIfInBounds_toArray, List.set_cons_zero, List.set_cons_succ, i64_w, i32_w]
            rfl
          refine take_ (i := 6) (N := some 41) (v := ?_) (a' := ?_) #[true, true, true, true, true, true, true, true, true, true, true, true, false, false, false, false, false, false, false, false] rfl rfl (take_ofW HT_.out HW_.out (by kernel_rfl)) (fun _ _ _ h => h) (Or.inl ⟨by rfl, ?_⟩) hHeld ?_ ?_
          rotate_left
          · rintro w' ⟨s0, s1, s2⟩
            go_simp
            with_reducible rfl
          rotate_left
          · simp only [Act.put, List.setIfInBounds_toArray, List.set_cons_zero, List.set_cons_succ, i64_w, i32_w]
            rfl
          refine take_ (i := 12) (N := some 47) (v := ?_) (a' := ?_) #[true, true, true, true, true, true, true, true, true, true, true, true, true, false, false, false, false, false, false, false] rfl rfl (take_ofW HT_.out HW_.out (by kernel_rfl)) (fun _ _ _ h => h) (Or.inl ⟨by rfl, ?_⟩) hHeld ?_ ?_
          rotate_left
          · rintro w' ⟨s0, s1, s2⟩
            go_simp
            with_reducible rfl
          rotate_left
          · simp only [Act.put, List.setIfInBounds_toArray, List.set_cons_zero, List.set_cons_succ, i64_w, i32_w]
            rfl
          refine pure_ (i := 13) (N := some 48) (v := ?_) (a' := ?_) #[true, true, true, true, true, true, true, true, true, true, true, true, true, true, false, false, false, false, false, false] rfl rfl (any_of HT_.out (by kernel_rfl)) (fun _ _ _ h => h) (Or.inl ⟨by rfl, ?_⟩) ?_ ?_
          rotate_left
          · intro w'
            go_simp
            with_reducible rfl
          rotate_left
          · simp only [Act.put, List.setIfInBounds_toArray, List.set_cons_zero, List.set_cons_succ, i64_w, i32_w]
            rfl
          refine pure_ (i := 14) (N := some 49) (v := ?_) (a' := ?_) #[true, true, true, true, true, true, true, true, true, true, true, true, true, true, true, false, false, false, false, false] rfl rfl (any_of HT_.out (by kernel_rfl)) (fun _ _ _ h => h) (Or.inl ⟨by rfl, ?_⟩) ?_ ?_
          rotate_left
          · intro w'
            go_simp
            with_reducible rfl
          rotate_left
          · simp only [Act.put, List.setIfInBounds_toArray, List.set_cons_zero, List.set_cons_succ, i64_w, i32_w]
            rfl
          refine pure_ (i := 15) (N := some 50) (v := ?_) (a' := ?_) #[true, true, true, true, true, true, true, true, true, true, true, true, true, true, true, true, false, false, false, false] rfl rfl (any_of HT_.out (by kernel_rfl)) (fun _ _ _ h => h) (Or.inl ⟨by rfl, ?_⟩) ?_ ?_
          rotate_left
          · intro w'
            go_simp
            with_reducible rfl
          rotate_left
          · simp only [Act.put, List.setIfInBounds_toArray, List.set_cons_zero, List.set_cons_succ, i64_w, i32_w]
            rfl
          refine one_ (i := 16) (N := some 51) #[true, true, true, true, true, true, true, true, true, true, true, true, true, true, true, true, true, false, false, false] rfl rfl (one_of HT_.out (by kernel_rfl)) (by decide) (fun K hK => ?_)
          refine value_ (w1 := w5.alloc (.cells #[.int .i64 x.f0, .slice A2 x.f1.length c2] 41)) (v := .slice (some ⟨w5.heap.size, 0, none⟩) 1 1) (by rfl) rfl ?_ ?_
          · go_simp
          have hB5 : B ≤ w5.heap.size := by rw [← HB.out]; exact HN4.out.bel.size
          have HA := Aside0.mk (HN4.out.below hB5 (alloc_below w5 (.cells #[.int .i64 x.f0, .slice A2 x.f1.length c2] 41)))
          refine hK.out _ _ ⟨(blk_cell HA.out.box 0).trans rfl, HX0.out _ HA.out.bel, HX1.out _ HA.out.bel⟩ (fun hHeld => ?_)
          clear hK K HA
          refine norm_ (a' := ?_) ?_ ?_
          rotate_left
          · show Act.put _ (some 51) _ = _
            simp only [Act.put, List.setIfInBounds_toArray, List.set_cons_zero, List.set_cons_succ, i64_w, i32_w]
            rfl
          refine one_ (i := 17) (N := some 52) #[true, true, true, true, true, true, true, true, true, true, true, true, true, true, true, true, true, true, false, false] rfl rfl (one_of HT_.out (by kernel_rfl)) (by decide) (fun K hK => ?_)
          refine step_append_cells (w0 := w0) B (by rfl) (.tmp 36) (.tmp 51) 23 41 (.agg #[.int .i64 0, .slice none 0 0]) 2 32 rfl Tryd.underlying23 info41K rfl (by decide) (by decide) inV (i + 0) cs [.int .i64 x.f0, .slice A2 x.f1.length c2] rfl rfl rfl (by intro u hu; simp only [List.mem_cons, List.not_mem_nil, or_false] at hu; rcases hu with rfl | rfl <;> rfl) HN4.out.own HN4.out.bel hB5 (by omega) ?_
          intro v6 w6 hv6 hb6 hg6 hat6
          obtain ⟨A6, c6, rfl⟩ := own_slice hv6
          have hbx6 := HN4.out.box_in hg6
          have hI := HN4.out.inn.more (g := .slice A2 n2 c2)
          refine hK.out _ _ ⟨(blk_cell hbx6 0).trans rfl, HX0.out _ hb6, HX1.out _ hb6⟩ (fun hHeld => ?_)
          clear hK K
          refine norm_ (a' := ?_) ?_ ?_
          rotate_left
          · show Act.put _ (some 52) _ = _
            simp only [Act.put, List.setIfInBounds_toArray, List.set_cons_zero, List.set_cons_succ, i64_w, i32_w]
            rfl
          refine pure_ (i := 18) (N := some 53) (v := ?_) (a' := ?_) #[true, true, true, true, true, true, true, true, true, true, true, true, true, true, true, true, true, true, true, false] rfl rfl (any_of HT_.out (by kernel_rfl)) (fun _ _ _ h => h) (Or.inl ⟨by rfl, ?_⟩) ?_ ?_
          rotate_left
          · intro w'
            go_simp
            with_reducible rfl
          rotate_left
          · simp only [Act.put, List.setIfInBounds_toArray, List.set_cons_zero, List.set_cons_succ, i64_w, i32_w]
            rfl
          refine last_ (i := 19) (N := none) #[true, true, true, true, true, true, true, true, true, true, true, true, true, true, true, true, true, true, true, true] rfl rfl (one_of HT_.out (by kernel_rfl)) (by decide) (fun K hK => ?_)
          have f0 : w6.cell? ⟨B + 1, 0, none⟩ = some inV := (blk_cell hbx6 0).trans rfl
          have f1 := blk_frozen hbx6 0
          refine skip_ (w1 := ?_) (by rfl) rfl ?_ ?_
          rotate_left
          · go_simp
            rfl
          refine hK.out _ _ ?_
          clear hK K
          refine done_ (done_of HT_.out (by kernel_rfl)) ?_
          have hr6 : (rs ++ [Value.slice A2 n2 c2])[i]? = some (.slice A2 n2 c2) := by
            have hm : rs.length = i := by
              have := HN4.out.len
              rw [List.length_append] at this
              simp at this
              omega
            rw [List.getElem?_append_right (by omega), hm, Nat.sub_self]
            rfl
          have HN6 := Aside0.mk (HN4.out.inn_ (i' := i + 1) (q' := 0) (by rw [HB.out]; exact Nat.le_refl _) hgx rfl (HN4.out.inn.stanza HXI.out hr6) hg6 hv6)
          clear f0 f1 hr6 hbx6 hg6 hv6 hb6 hat6 HN4 HT_ HW_ hHeld
          go_wp2
          go_roundw
          case rel => exact ⟨i + 1, _, _, _, _, by simp, by omega, HN6⟩
          case measure => simp [RowKit.intOf]; omega
    · have hie : i = l.length := by omega
      subst hie
      go_wp2
      go_loopw [7] (fun jv wr => ∃ (j : Nat) (inV : Value) (cs : List Value), jv = .int .i64 (j : Nat) ∧ j ≤ 64 ∧ Aside0 (LN B (B + 1) l l.length j l.length inV rowsV rs cs w0 wr)) (fun jv _ => 64 - (RowKit.intOf jv).toNat)
      case atStart => exact ⟨0, _, _, rfl, Nat.zero_le _, HN⟩
      case round =>
        clear HN
        clear cs inV
        obtain ⟨j, inV, cs, rfl, hj, HN⟩ := hrel
        have hBs : B ≤ wr.heap.size := by rw [← HB.out]; exact HN.out.bel.size
        by_cases hj64 : j < 64
        · have e0 := (blk_cell HN.out.box 0).trans (show _ = some inV from rfl)
          go_wp2_with (first | (at_builtin; refine print_append_cells (w0 := w0) B rfl (.tmp 59) (.tmp 61) 23 41 (.agg #[.int .i64 0, .slice none 0 0]) 2 32 rfl Tryd.underlying23 info41K rfl (by decide) (by decide) inV (l.length + j) cs [.int .i64 (-7), .slice none 0 0] rfl rfl rfl ?h1 HN.out.own HN.out.bel hBs (by omega) ?_; (case h1 => intro u hu; simp only [List.mem_cons, List.not_mem_nil, or_false] at hu; rcases hu with rfl | rfl <;> rfl)))
          intro v6 w6 hv6 hb6 hg6 hat6
          obtain ⟨A6, c6, rfl⟩ := own_slice hv6
          have hbx6 := HN.out.box_in hg6
          have f0 : w6.cell? ⟨B + 1, 0, none⟩ = some inV := (blk_cell hbx6 0).trans rfl
          have f1 := blk_frozen hbx6 0
          have HN6 := Aside0.mk (HN.out.inn_ (i' := l.length) (q' := j + 1) (by rw [HB.out]; exact Nat.le_refl _) (Nat.lt_succ_self _) (by omega) HN.out.inn.empty hg6 hv6)
          clear hbx6 hg6 hv6 hb6 hat6 HN e0
          go_wp2
          clear f0 f1
          go_roundw
          case rel => exact ⟨j + 1, _, _, by simp, by omega, HN6⟩
          case measure => simp [RowKit.intOf]; omega
        · have hje : j = 64 := by omega
          subst hje
          have hib := HN.out.own
          have hrb := HN.out.own2
          obtain ⟨Ai, ci, rfl⟩ := own_slice hib
          obtain ⟨Ar, cr, rfl⟩ := own_slice hrb
          have e0 := (blk_cell HN.out.box 0).trans (show _ = some (Value.slice Ai (l.length + 64) ci) from rfl)
          have e1 := (blk_cell HN.out.box 1).trans (show _ = some (Value.slice Ar l.length cr) from rfl)
          have r0 := (blk_cell HN.out.res 0).trans (show _ = some (Value.slice none 0 0) from rfl)
          have r1 := (blk_cell HN.out.res 1).trans (show _ = some (Value.slice none 0 0) from rfl)
          have r2 := blk_frozen HN.out.res 0
          have r3 := blk_frozen HN.out.res 1
          clear hib hrb
          go_wp2
          have hres := blk_set (blk_set HN.out.res 0 (.slice Ai (l.length + 64) ci)) 1 (.slice Ar l.length cr)
          have HP := HN.out.papers (.slice Ai (l.length + 64) ci) (.slice Ar l.length cr)
          refine bodyPost_ret (results_single rfl (.cell B 35 #[.slice Ai (l.length + 64) ci, .slice Ar l.length cr] (0, 0) _ rfl hres Tryd.underlying35 rfl (by kernel_rfl) .nil)) rfl ?_
          rw [HB.out]
          exact ⟨_, _, _, _, rfl, HP⟩
end Go.Proofs.YtbaiglikmneicaaDoor.KP

set_option linter.unusedVariables false
set_option linter.unusedSimpArgs false
namespace Go.Proofs.YtbaiglikmneicaaDoor.KP
open Go Go.RowKit Go.Proofs.YtbaiglikmneicaaDoorW.PrintWords Go.Proofs.YtbaiglikmneicaaDoorW.PrintLast Go.Proofs.YtbaiglikmneicaaDoorW.PrintMore

/-- What over writes. -/
def MO (k i : Nat) : List Value := [.string ⟨#[98]⟩, .string ⟨#[111, 118, 101, 114]⟩]
theorem MO_len (k i : Nat) : (MO k i).length = 2 := rfl
theorem MO_one (k i : Nat) : ∀ q ∈ MO k i, q.oneCell' = true := by
  intro q hq
  simp only [MO, List.mem_cons, List.not_mem_nil, or_false] at hq
  rcases hq with rfl | rfl <;> rfl
set_option maxHeartbeats 16000000 in
set_option maxRecDepth 100000 in
theorem over_calls (inV rowsV : Value) (vs : List Value) (bO : Nat) (w0 : World) (hi1 : inV.oneCell' = true) (hO : w0.ownsRow bO 39 1 rowsV vs.length vs) (hrows : ∀ (j : Nat) (v : Value), vs[j]? = some v → ∃ xs, w0.ownsRow 0 50 2 v (lenV v) xs) (hap : apart vs) (hlen : vs.length ≤ 1000000000) (hln : ∀ v ∈ vs, lenV v ≤ 1000000000) :
    Calls Tryd.prog 25 #[.agg #[inV, rowsV]] w0 fun e w' => (∃ v, e = .returned v) ∧ P1 MO 50 2 vs vs.length 0 w' ∧ Rest vs w0 w' := by
  obtain ⟨AO, cO, rfl⟩ := own_slice hO
  have HAP := Aside0.mk hap
  have HLN := Aside0.mk hln
  have HO0 := Aside0.mk hO
  have HRW := Aside0.mk hrows
  clear hO hrows hap hln
  go_enter Tryd.func25, Tryd.ntmps25
  go_wp2
  obtain ⟨w1, hw1⟩ : ∃ w1, w0.alloc (.cells #[inV, .slice AO vs.length cO] 35) = w1 := ⟨_, rfl⟩
  have hb1 : Below w0.heap.size w0 w1 := by rw [← hw1]; exact alloc_below _ _
  have hs1 : w1.heap.size = w0.heap.size + 1 := by rw [← hw1, World.size_alloc]
  have hbox : w1.heap[w0.heap.size]? = some (.cells #[inV, .slice AO vs.length cO] 35 (0, 0)) := by rw [← hw1]; exact heap_alloc_new w0 _
  rw [hw1]
  clear hw1
  obtain ⟨B, hB⟩ : ∃ B, w0.heap.size = B := ⟨_, rfl⟩
  rw [hB] at hs1 hbox ⊢
  have hrows1 : ∀ (j : Nat) (v : Value), vs[j]? = some v → ∃ xs, w1.ownsRow 0 50 2 v (lenV v) xs := fun j v hv => by
    obtain ⟨xs, h⟩ := HRW.out j v hv
    exact ⟨xs, own_below h hb1⟩
  have hO1 := own_below HO0.out hb1
  have houter := fun (W : World) (h : Rest vs w1 W) => own_keep hO1 (fun k hk => h.same k (own_lt hO1 k hk).2 (fun v hv hb => by
    obtain ⟨j, hj⟩ := List.mem_iff_getElem?.1 hv
    obtain ⟨xs, hx⟩ := hrows1 j v hj
    obtain ⟨c1, h1⟩ := own_typed hO1 k hk
    obtain ⟨c2, h2⟩ := own_typed hx k hb
    exact blk_ne h1 h2 (by decide) rfl))
  have hboxK := fun (W : World) (h : Rest vs w1 W) => show W.cell? ⟨B, 1, none⟩ = some (.slice AO vs.length cO) by
    have h2 : W.heap[B]? = some (.cells #[inV, .slice AO vs.length cO] 35 (0, 0)) := (h.same B (by omega) (fun v hv hb => by
      obtain ⟨j, hj⟩ := List.mem_iff_getElem?.1 hv
      obtain ⟨xs, hx⟩ := HRW.out j v hj
      have := (own_lt hx B hb).2
      omega)).trans hbox
    rw [blk_cell h2]
    rfl
  have HP := Aside0.mk (P1.start (M := MO) hrows1)
  have HR := Aside0.mk (Rest.refl vs w1)
  have HOU := Aside0.mk houter
  have HBX := Aside0.mk hboxK
  have HB1 := Aside0.mk hb1
  clear HO0 HRW hb1 hs1 hbox hrows1 hO1 houter hboxK hB
  go_loopw [2] (fun kv wr => ∃ k : Nat, kv = .int .i64 (k : Nat) ∧ k ≤ vs.length ∧ Aside0 (P1 MO 50 2 vs k 0 wr) ∧ Aside0 (Rest vs w1 wr)) (fun kv _ => vs.length - (RowKit.intOf kv).toNat)
  case atStart => exact ⟨0, rfl, Nat.zero_le _, HP, HR⟩
  case round =>
    obtain ⟨k, rfl, hk, HPk, HRk⟩ := hrel
    by_cases hlt : k < vs.length
    · have hov := HOU.out _ HRk.out
      have hvk : vs[k]? = some vs[k] := List.getElem?_eq_getElem hlt
      obtain ⟨v, hv⟩ : ∃ v, vs[k] = v := ⟨_, rfl⟩
      rw [hv] at hvk
      obtain ⟨GO, capO, eO, _, _⟩ := hov.form (by omega)
      have eA : AO = some ⟨GO, 0, none⟩ := by injection eO
      obtain ⟨xs0, hx0, _⟩ := HPk.out.row k v hvk
      obtain ⟨Av, cv, ev⟩ := own_slice hx0
      obtain ⟨n, hn⟩ : ∃ n, lenV v = n := ⟨_, rfl⟩
      have hnl : n ≤ 1000000000 := by rw [← hn]; exact HLN.out v (by rw [← hv]; exact List.getElem_mem hlt)
      rw [hn] at ev
      subst ev
      have HVK := Aside0.mk hvk
      have EA := Aside0.mk eA
      have XKK := Aside0.mk (fun (W : World) (h : Rest vs w1 W) => show W.cell? ⟨GO, k, none⟩ = some (.slice Av n cv) by
        have h1 := HOU.out W h
        rw [EA.out] at h1
        exact (own_cell h1 (by omega)).trans HVK.out)
      have xb := HBX.out _ HRk.out
      clear hx0 hv hov eO hn hvk eA
      rw [EA.out] at xb
      go_wp2
      go_loopw [3] (fun iv wr => ∃ i : Nat, iv = .int .i64 (i : Nat) ∧ i ≤ n ∧ Aside0 (P1 MO 50 2 vs k i wr) ∧ Aside0 (Rest vs w1 wr)) (fun iv _ => n - (RowKit.intOf iv).toNat)
      case atStart => exact ⟨0, rfl, Nat.zero_le _, HPk, HRk⟩
      case round =>
        obtain ⟨i, rfl, hi, HPi, HRi⟩ := hrel
        clear xb
        have xb := HBX.out _ HRi.out
        rw [EA.out] at xb
        have xk := XKK.out _ HRi.out
        by_cases hin : i < n
        · obtain ⟨xs, hx, _, _⟩ := HPi.out.row k _ HVK.out
          obtain ⟨g, cap, eg, _, _⟩ := hx.form (by show 0 < n; omega)
          have eg2 : Av = some ⟨g, 0, none⟩ := by injection eg
          subst eg2
          have HX := Aside0.mk hx
          clear hx eg
          go_wp2_with (first | (refine wpList_plain rfl fun _ hK => wp_store_own (e := 50) (size := 2) 50 (.tmp 28) (.tmp 27) rfl (off := i * 2) _ (MO k i) rfl rfl rfl (by kernel_rfl) (MO_one k i) HX.out (by show i * 2 + 2 ≤ n * 2; omega) (hK _ _ ?_)))
          clear xk xb
          go_wp2
          go_roundw
          case rel => exact ⟨i + 1, by simp, by omega, ⟨HPi.out.seg MO_len HAP.out HVK.out hin⟩, ⟨HRi.out.seg (List.mem_of_getElem? HVK.out) rfl⟩⟩
          case measure => simp [RowKit.intOf]; omega
        · have hie : i = n := by omega
          subst hie
          go_wp2
          go_roundw
          case rel => exact ⟨k + 1, by simp, by omega, ⟨HPi.out.next HVK.out⟩, HRi⟩
          case measure => simp [RowKit.intOf]; omega
    · have hke : k = vs.length := by omega
      subst hke
      have xb := HBX.out _ HRk.out
      go_wp2
      refine bodyPost_end (results_none rfl _ _ _) rfl ?_
      refine ⟨⟨_, rfl⟩, HPk.out, ?_⟩
      exact ⟨HRk.out.os.trans HB1.out.os, HRk.out.tape.trans HB1.out.tape, HRk.out.output.trans HB1.out.output, Nat.le_trans HB1.out.size HRk.out.size, fun b hb hn => (HRk.out.same b (Nat.lt_of_lt_of_le hb HB1.out.size) hn).trans (HB1.out.block b hb)⟩
end Go.Proofs.YtbaiglikmneicaaDoor.KP

set_option linter.unusedVariables false
set_option linter.unusedSimpArgs false
namespace Go.Proofs.YtbaiglikmneicaaDoor.KP
open Go Go.RowKit Go.Proofs.YtbaiglikmneicaaDoorW.PrintWords Go.Proofs.YtbaiglikmneicaaDoorW.PrintLast Go.Proofs.YtbaiglikmneicaaDoorW.PrintMore Go.Proofs.YtbaiglikmneicaaDoor.P

def ovK : S50 := ⟨⟨#[98]⟩, ⟨#[111, 118, 101, 114]⟩⟩
/-- The rows, written over. -/
def RsO (l : List S41) : List (List S50) := l.map fun x => List.replicate (x.f1.length + 64) ovK
/-- The stanzas, written over. -/
def overK (l : List S41) : List S41 := l.map fun x => ⟨x.f0, List.replicate x.f1.length ovK⟩
theorem overK_len (l : List S41) : (overK l).length = l.length := by unfold overK; rw [List.length_map]
theorem RsO_at {l : List S41} {j : Nat} {x : S41} (h : l[j]? = some x) : (RsO l)[j]? = some (List.replicate (x.f1.length + 64) ovK) := by
  unfold RsO
  rw [List.getElem?_map, h]
  rfl
theorem RsK_len (l : List S41) : (RsK l).length = l.length := by unfold RsK; rw [List.length_map]
theorem headsK_own (l : List S41) : headsK l (RsK l) = l := by
  apply List.ext_getElem?
  intro j
  rcases Nat.lt_or_ge j l.length with hj | hj
  · have hx := List.getElem?_eq_getElem hj
    rw [headsK_at hx (RsK_at hx), hx, List.take_left]
  · rw [List.getElem?_eq_none (by rw [headsK_len]; omega), List.getElem?_eq_none hj]
theorem headsK_over (l : List S41) : headsK l (RsO l) = overK l := by
  apply List.ext_getElem?
  intro j
  rcases Nat.lt_or_ge j l.length with hj | hj
  · have hx := List.getElem?_eq_getElem hj
    rw [headsK_at hx (RsO_at hx), List.take_replicate, Nat.min_eq_left (by omega)]
    unfold overK
    rw [List.getElem?_map, hx]
    rfl
  · rw [List.getElem?_eq_none (by rw [headsK_len]; omega), List.getElem?_eq_none (by rw [overK_len]; omega)]
theorem marks_over (j : Nat) : ∀ n, marks MO j n = cells50 (List.replicate n ovK)
  | 0 => rfl
  | n + 1 => by
    rw [marks_succ, marks_over j n, List.replicate_succ', cells50_append]
    rfl
theorem Papers.over {w W : World} {base : Nat} {inV rowsV : Value} {l : List S41} {rs cs : List Value} (h : Papers w base inV rowsV l rs cs (RsK l)) (hR : Rest rs w W) (hP : P1 MO 50 2 rs rs.length 0 W) : Papers W 0 inV rowsV l rs cs (RsO l) := by
  have hkeep : ∀ {e sz n : Nat} {u : Value} {ys : List Value}, e ≠ 50 → w.ownsRow base e sz u n ys → W.ownsRow 0 e sz u n ys := fun {e sz n u ys} he hu => own_low (own_keep hu fun b hb => hR.same b (own_lt hu b hb).2 fun v hv he2 => by
    obtain ⟨j, hj⟩ := List.mem_iff_getElem?.1 hv
    have hjl : j < (RsK l).length := by rw [← h.rows.len]; exact (List.getElem?_eq_some_iff.1 hj).1
    obtain ⟨_, ho⟩ := h.rows.own j v _ hj (List.getElem?_eq_getElem hjl)
    obtain ⟨c1, h1⟩ := own_typed hu b hb
    obtain ⟨c2, h2⟩ := own_typed ho b he2
    exact blk_ne h1 h2 he rfl) (Nat.zero_le _)
  have hlen : rs.length = l.length := by rw [h.rows.len, RsK_len]
  refine ⟨hkeep (by decide) h.own, h.inn, hkeep (by decide) h.own2, ⟨by rw [hlen]; unfold RsO; rw [List.length_map], fun j r R hr hRj => ?_, h.rows.sep⟩, fun j x hx => ⟨_, RsO_at hx, by simp⟩, by unfold RsO; rw [List.length_map]⟩
  have hj : j < l.length := by rw [← hlen]; exact (List.getElem?_eq_some_iff.1 hr).1
  have hx := List.getElem?_eq_getElem hj
  obtain ⟨hl1, _⟩ := h.rows.own j r _ hr (RsK_at hx)
  rw [RsO_at hx] at hRj
  injection hRj with hRj
  subst hRj
  obtain ⟨xs, h1, h2, _⟩ := hP.row j r hr
  have h3 := h2 (by rw [hlen]; exact hj)
  rw [marks_over] at h3
  have hn : lenV r = l[j].f1.length + 64 := by rw [hl1, List.length_append, List.length_replicate]
  rw [List.length_replicate]
  rw [hn] at h1 h3
  rw [h3] at h1
  exact ⟨hn, h1⟩
theorem Papers.rowsAre {w : World} {base : Nat} {inV rowsV : Value} {l : List S41} {rs cs : List Value} {Rs : List (List S50)} (h : Papers w base inV rowsV l rs cs Rs) : ∀ (j : Nat) (v : Value), rs[j]? = some v → ∃ xs, w.ownsRow 0 50 2 v (lenV v) xs := fun j v hv => by
  have hjl : j < Rs.length := by rw [← h.rows.len]; exact (List.getElem?_eq_some_iff.1 hv).1
  obtain ⟨h1, h2⟩ := h.rows.own j v _ hv (List.getElem?_eq_getElem hjl)
  rw [← h1] at h2
  exact ⟨_, own_low h2 (Nat.zero_le _)⟩
/-- What lay before the rows lies behind over, too. -/
theorem Papers.belowR {w W : World} {base : Nat} {inV rowsV : Value} {l : List S41} {rs cs : List Value} {Rs : List (List S50)} (h : Papers w base inV rowsV l rs cs Rs) (hR : Rest rs w W) : ∀ (A : World), A.heap.size ≤ base → Below A.heap.size A w → Below A.heap.size A W := fun A hA hb =>
  ⟨hR.os.trans hb.os, hR.tape.trans hb.tape, hR.output.trans hb.output, Nat.le_trans hb.size hR.size, fun b hlt => (hR.same b (Nat.lt_of_lt_of_le hlt hb.size) fun v hv e => by
    obtain ⟨j, hj⟩ := List.mem_iff_getElem?.1 hv
    have hjl : j < Rs.length := by rw [← h.rows.len]; exact (List.getElem?_eq_some_iff.1 hj).1
    have := (own_lt (h.rows.own j v _ hj (List.getElem?_eq_getElem hjl)).2 b e).1
    omega).trans (hb.block b hlt)⟩
end Go.Proofs.YtbaiglikmneicaaDoor.KP
