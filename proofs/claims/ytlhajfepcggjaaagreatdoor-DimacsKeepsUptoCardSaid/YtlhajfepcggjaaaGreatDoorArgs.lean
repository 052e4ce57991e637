/- Arguments that are plain data, read in the print's words: what a reading of a slice, a struct or a string says of memory, and how large it is at the most. No conditions. -/
import Derived.Test.YtlhajfepcggjaaaGreatDoorRows
import Derived.Test.YtlhajfepcggjaaaGreatDoorWK
import Derived.ChangeArms
import Derived.ChangeSlices
import Derived.WideShapes
import Derived.Carry
import Derived.SizedLaws
namespace Go.Proofs.YtlhajfepcggjaaaGreatDoor.Args
open Go.RowKit Go.Proofs.YtlhajfepcggjaaaGreatDoorW.PrintWords Go.ChangeShapes Go.WideShapes
set_option linter.unusedVariables false

theorem bulk_one {H : Type} (d : DataW H) : 1 ≤ Rows.uptoBulk d := by
 cases d with
 | lit l => cases l <;> simp [Rows.uptoBulk]
 | nil => simp [Rows.uptoBulk]
 | ptr d => simp [Rows.uptoBulk]
 | slice elems spare => simp [Rows.uptoBulk]
 | agg parts => simp [Rows.uptoBulk]
 | iface t d => simp [Rows.uptoBulk]
 | map entries => simp [Rows.uptoBulk]
 | held h => simp [Rows.uptoBulk]
theorem bulk_bound {H : Type} {l : List (DataW H)} (hk : Rows.uptoSmall H l = true) : Rows.uptoBulkAll l ≤ 1048576 := of_decide_eq_true hk

/-- How large a list is, element by element. -/
def massL {α : Type} (m : α → Nat) : List α → Nat
 | [] => 0
 | x :: r => m x + massL m r
theorem massL_le {H α : Type} (m : α → Nat) : ∀ (xs : List α) (ds : List (DataW H)), xs.length = ds.length → (∀ (i : Nat) (a : α) (d : DataW H), xs[i]? = some a → ds[i]? = some d → m a ≤ Rows.uptoBulk d) → massL m xs ≤ Rows.uptoBulkAll ds
 | [], [], _, _ => by simp [massL, Rows.uptoBulkAll]
 | [], _ :: _, h, _ => by simp at h
 | _ :: _, [], h, _ => by simp at h
 | x :: xs, d :: ds, h, k => by
  simp only [massL, Rows.uptoBulkAll]
  have h0 := k 0 x d rfl rfl
  have h1 := massL_le m xs ds (by simpa using h) (fun i a e h1 h2 => k (i + 1) a e (by simpa using h1) (by simpa using h2))
  omega

theorem massL_len {α : Type} {m : α → Nat} (h : ∀ a, 1 ≤ m a) : ∀ xs : List α, xs.length ≤ massL m xs
 | [] => by simp [massL]
 | x :: xs => by
  have h0 := h x
  have h1 := massL_len h xs
  simp only [massL, List.length_cons]
  omega
theorem massL_mem {α : Type} {m : α → Nat} {a : α} : ∀ {xs : List α}, a ∈ xs → m a ≤ massL m xs
 | x :: xs, h => by
  simp only [massL]
  rcases List.mem_cons.1 h with rfl | h
  ·omega
  ·have := massL_mem (m := m) h
   omega

/-- Values of type T read as things of the kind d; m: how large, ok: what holds of each. -/
structure Opens {α : Type} (T : TypeId) (d : Kd α) (m : α → Nat) (ok : α → Prop) : Prop where
 size : Tryz.prog.cellsOf T = d.sz
 opn : ∀ {H : Type} {enc : TypeId × Value → H} {w : World} {base : Nat} {sp : Nat → Bool} {held : Bool} {fuel : Nat} {cs : List Value} {x : DataW H × List MemPlace},
  DataW.trod enc Tryz.prog w base sp held fuel T cs = some x → ∃ a : α, d.K w a cs ∧ m a ≤ Rows.uptoBulk x.1 ∧ ok a

theorem opens_weaken {α : Type} {T : TypeId} {d : Kd α} {m m' : α → Nat} {ok ok' : α → Prop} (o : Opens T d m ok) (hm : ∀ a, m' a ≤ m a) (hok : ∀ a, ok a → ok' a) : Opens T d m' ok' :=
 ⟨o.size, fun {H enc w base sp held fuel cs x} h => by
  obtain ⟨a, hk, h1, h2⟩ := o.opn h
  exact ⟨a, hk, Nat.le_trans (hm a) h1, hok a h2⟩⟩
theorem opens_int {T : TypeId} {k : IntKind} (hT : Tryz.prog.underlying T = some (.int k)) (hs : Tryz.prog.cellsOf T = 1) : Opens T (Kd.int k) (fun _ => 1) (fun n => (Lit.int k n).wf = true) :=
 ⟨hs, fun {H enc w base sp held fuel cs x} h => by
  obtain ⟨n, rfl, rfl, hw⟩ := DataW.trod_int hT h
  exact ⟨n, rfl, bulk_one _, hw⟩⟩
theorem opens_bool {T : TypeId} (hT : Tryz.prog.underlying T = some .bool) (hs : Tryz.prog.cellsOf T = 1) : Opens T Kd.bool (fun _ => 1) (fun _ => True) :=
 ⟨hs, fun {H enc w base sp held fuel cs x} h => by
  obtain ⟨b, rfl, rfl⟩ := DataW.trod_bool hT h
  exact ⟨b, rfl, bulk_one _, trivial⟩⟩
theorem opens_string {T : TypeId} (hT : Tryz.prog.underlying T = some .string) (hs : Tryz.prog.cellsOf T = 1) : Opens T Kd.string (fun s => s.size + 1) (fun s => s.size ≤ maxLen) :=
 ⟨hs, fun {H enc w base sp held fuel cs x} h => by
  obtain ⟨s, rfl, rfl, hw⟩ := DataW.trod_string hT h
  exact ⟨s, rfl, by simp [Rows.uptoBulk], hw⟩⟩

theorem choose_list {α : Type} {P : Nat → α → Prop} (n : Nat) (h : ∀ i, i < n → ∃ a, P i a) : ∃ xs : List α, xs.length = n ∧ ∀ i a, xs[i]? = some a → P i a := by
 induction n with
 | zero => exact ⟨[], rfl, fun i a h => by simp at h⟩
 | succ n ih =>
  obtain ⟨xs, hl, hx⟩ := ih (fun i hi => h i (by omega))
  obtain ⟨a, ha⟩ := h n (by omega)
  refine ⟨xs ++ [a], by simp [hl], fun i b hb => ?_⟩
  rcases Nat.lt_or_ge i n with hi | hi
  ·rw [List.getElem?_append_left (by omega)] at hb
   exact hx i b hb
  ·rw [List.getElem?_append_right (by omega), hl] at hb
   obtain rfl : i = n := by
    rcases Nat.eq_or_lt_of_le hi with h | h
    ·exact h.symm
    ·rw [List.getElem?_eq_none (by simp; omega)] at hb; cases hb
   simp at hb
   rw [← hb]
   exact ha

theorem addr_plain (a : Addr) (i j : Nat) : (a.add i).add j = a.add (i + j) := by
 unfold Addr.add
 by_cases hi : i = 0
 ·subst hi
  simp
 ·by_cases hj : j = 0
  ·subst hj
   simp
  ·simp [hi, hj, Nat.add_assoc]

theorem opens_slice {α : Type} {T e : TypeId} {d : Kd α} {m : α → Nat} {ok : α → Prop} (hT : Tryz.prog.underlying T = some (.slice e)) (hs : Tryz.prog.cellsOf T = 1) (o : Opens e d m ok) :
  Opens T (Kd.slice e d) (fun xs => massL m xs + 1) (fun xs => xs.length ≤ maxLen ∧ ∀ a ∈ xs, ok a) :=
 ⟨hs, fun {H enc w base sp held fuel cs x} h => by
  rcases DataW.trod_slice hT h with ⟨rfl, rfl⟩ | ⟨a, len, cap, elems, rest, n, _, rfl, rfl, hb, hl, hm, hlen, hel, _, _⟩
  ·exact ⟨[], ⟨none, 0, rfl, Nat.le_refl _, Kd.C_nil d w⟩, by simp [massL, Rows.uptoBulk], by simp, by simp⟩
  ·have each : ∀ i, i < len → ∃ z : α, ∃ y, elems[i]? = some y ∧ m z ≤ Rows.uptoBulk y.1 ∧ ok z ∧ ∃ c, c.length = d.sz ∧ d.K w z c ∧ ∀ j u, c[j]? = some u → w.cell? (a.add (i * d.sz + j)) = some u := by
    intro i hi
    have hy : elems[i]? = some elems[i] := List.getElem?_eq_getElem (by omega)
    have he := hel i hi
    rw [hy, Option.bind_eq_some_iff] at he
    obtain ⟨c, hc, ht⟩ := he
    obtain ⟨z, hk, hm', hok⟩ := o.opn ht
    refine ⟨z, _, hy, hm', hok, c, d.K_len hk, hk, fun j u hu => ?_⟩
    unfold World.cells? at hc
    split at hc
    ·rw [o.size] at hc
     have hj : j < c.length := by
      rcases Nat.lt_or_ge j c.length with h | h
      ·exact h
      ·rw [List.getElem?_eq_none h] at hu; cases hu
     have hd := d.K_len hk
     have := mapM_some_get hc j j (by rw [List.getElem?_range (by omega)])
     rw [hu, addr_plain] at this
     exact this
    ·cases hc
   obtain ⟨xs, hxl, hx⟩ := choose_list len each
   refine ⟨xs, ⟨some a, cap, by rw [hxl], by omega, ?_⟩, ?_, by omega, fun z hz => ?_⟩
   ·refine ⟨rfl, by rw [hxl]; unfold maxLen at hm; omega, fun _ => ⟨a, rfl, fun j p hp => ?_⟩⟩
    obtain ⟨y, _, _, _, c, hc⟩ := hx j p hp
    exact ⟨c, hc⟩
   ·have hle := massL_le m xs (elems.map (·.1)) (by simp [hxl, hlen]) (fun i z e h1 h2 => by
     obtain ⟨y, hy, hm', _⟩ := hx i z h1
     rw [List.getElem?_map, hy] at h2
     cases h2
     exact hm')
    simp only [Rows.uptoBulk]
    omega
   ·obtain ⟨i, hi, rfl⟩ := List.getElem_of_mem hz
    obtain ⟨_, _, _, hok, _⟩ := hx i _ (List.getElem?_eq_getElem hi)
    exact hok⟩

/-- Fields from place off on, as the parts of a kind. -/
structure OpensL {α : Type} (fs : List Field) (off : Nat) (d : Kd α) (m : α → Nat) (ok : α → Prop) : Prop where
 opn : ∀ {H : Type} {enc : TypeId × Value → H} {w : World} {base : Nat} {sp : Nat → Bool} {held : Bool} {n : Nat} {cs : List Value} {xs : List (DataW H × List MemPlace)},
  cs.length = d.sz → xs.length = fs.length → (∀ (i : Nat) (f : Field), fs[i]? = some f → DataW.trod enc Tryz.prog w base sp held n f.type ((cs.drop (f.offset - off)).take (Tryz.prog.cellsOf f.type)) = xs[i]? ∧ off ≤ f.offset) →
  ∃ a : α, d.K w a cs ∧ m a ≤ Rows.uptoBulkAll (xs.map (·.1)) ∧ ok a

theorem opensL_one {α : Type} {f : Field} {off : Nat} {d : Kd α} {m : α → Nat} {ok : α → Prop} (o : Opens f.type d m ok) (hf : f.offset = off) : OpensL [f] off d m ok :=
 ⟨fun {H enc w base sp held n cs xs} hl hx h => by
  have h0 := (h 0 f rfl).1
  rw [hf, Nat.sub_self, List.drop_zero, o.size, List.take_of_length_le (by omega)] at h0
  match xs, hx with
  | [x], _ =>
   obtain ⟨a, hk, hm, hok⟩ := o.opn h0
   exact ⟨a, hk, by simp [Rows.uptoBulkAll]; exact hm, hok⟩⟩
theorem opensL_cons {α β : Type} {f : Field} {fs : List Field} {off : Nat} {d : Kd α} {e : Kd β} {m : α → Nat} {m' : β → Nat} {ok : α → Prop} {ok' : β → Prop} (o : Opens f.type d m ok) (hf : f.offset = off) (r : OpensL fs (off + d.sz) e m' ok')
  (hoff : ∀ g ∈ fs, off + d.sz ≤ g.offset) : OpensL (f :: fs) off (Kd.pair d e) (fun x => m x.1 + m' x.2) (fun x => ok x.1 ∧ ok' x.2) :=
 ⟨fun {H enc w base sp held n cs xs} hl hx h => by
  have hl' : cs.length = d.sz + e.sz := hl
  have h0 := (h 0 f rfl).1
  rw [hf, Nat.sub_self, List.drop_zero, o.size] at h0
  match xs, hx with
  | x :: xs, hx =>
   obtain ⟨a, hk, hm, hok⟩ := o.opn h0
   obtain ⟨b, hk', hm', hok'⟩ := r.opn (enc := enc) (w := w) (base := base) (sp := sp) (held := held) (n := n) (cs := cs.drop d.sz) (xs := xs) (by simp; omega) (by simpa using hx) (fun i g hg => by
    have h1 := (h (i + 1) g (by simpa using hg)).1
    have h2 := hoff g (List.mem_of_getElem? hg)
    rw [List.drop_drop, show d.sz + (g.offset - (off + d.sz)) = g.offset - off by omega]
    exact ⟨by simpa using h1, h2⟩)
   refine ⟨(a, b), ⟨cs.take d.sz, cs.drop d.sz, (List.take_append_drop _ _).symm, hk, hk'⟩, ?_, hok, hok'⟩
   simp only [List.map_cons, Rows.uptoBulkAll]
   omega⟩
theorem opens_struct {α β : Type} {T : TypeId} {fs : Array Field} {d : Kd α} {m : α → Nat} {ok : α → Prop} (hT : Tryz.prog.underlying T = some (.struct fs)) (hs : Tryz.prog.cellsOf T = d.sz) (o : OpensL fs.toList 0 d m ok) (f : β → α) (g : α → β) (hfg : ∀ x, f (g x) = x) :
  Opens T (Kd.iso d f) (fun x => m (f x) + 1) (fun x => ok (f x)) :=
 ⟨hs, fun {H enc w base sp held fuel cs x} h => by
  obtain ⟨xs, n, _, rfl, hl, hx, hel⟩ := DataW.trod_struct hT h
  obtain ⟨a, hk, hm, hok⟩ := o.opn (enc := enc) (w := w) (base := base) (sp := sp) (held := held) (n := n) (cs := cs) (xs := xs) (by omega) (by simpa using hx) (fun i f hf => ⟨by rw [Nat.sub_zero]; exact hel i f (by simpa using hf), Nat.zero_le _⟩)
  refine ⟨g a, ?_, ?_, ?_⟩
  ·show d.K w (f (g a)) cs
   rw [hfg]
   exact hk
  ·simp only [hfg, Rows.uptoBulk]
   omega
  ·simp only [hfg]
   exact hok⟩
set_option maxRecDepth 100000 in
/-- A struct that came in. -/
theorem open_struct {H α : Type} {enc : TypeId × Value → H} {W : World} {sp : Nat → Bool} {held : Bool} {r : Reach} {b : Nat} {T : TypeId} {fs : Array Field} {d : Kd α} {m : α → Nat} {ok : α → Prop} {v : Value} {x : DataW H} {p : List MemPlace}
  (o : Opens T d m ok) (hT : Tryz.prog.underlying T = some (.struct fs)) (hv : Value.okWide Tryz.prog W r b T v) (h : DataW.Trod enc Tryz.prog W 0 sp held T v x p) :
  ∃ (a : α) (cs : List Value), v = .agg cs.toArray ∧ d.K W a cs ∧ m a ≤ Rows.uptoBulk x ∧ ok a := by
 obtain ⟨cs, rfl, _⟩ := okWide_struct hT hv
 obtain ⟨fuel, hf⟩ := h
 obtain ⟨a, hk, hm, hok⟩ := o.opn hf
 exact ⟨a, cs.toList, by simp, hk, hm, hok⟩

end Go.Proofs.YtlhajfepcggjaaaGreatDoor.Args
