/- control.Read: what it comes to (readC), and the block of the stanza that is being read. No conditions. A scope in which the run jumps to several labels: what holds at each jump, and a measure that every pass lowers. No conditions. A call of a Go function inside a region that draws its order, by its contract. No conditions. control.Read: what holds at its labels. No conditions. control.Read: the walk, label by label. No conditions. control.Read: the walk, label by label. No conditions. control.Read: the walk, label by label. No conditions. control.Read: the walk, label by label. No conditions. control.Read: what it comes to, for every text of at most 4294967280 bytes. No conditions. -/
import Derived.Test.YtbaiglikmneicaaDoorPureGets
import Derived.Test.YtbaiglikmneicaaDoorEFair
import Derived.ScopeJumps
import Derived.Deep.RegionLaw
import Derived.BigCall
import Derived.Deep.RegionWith
import Derived.WalkMore
import Derived.IntWalk
section
set_option linter.unusedVariables false
set_option linter.unusedSimpArgs false
namespace Go.Proofs.YtbaiglikmneicaaDoor.P
open Go.RowKit Go.Lib Go.Proofs.YtbaiglikmneicaaDoorW.PrintWords Go.Proofs.YtbaiglikmneicaaDoorW.PrintLast Go.Proofs.YtbaiglikmneicaaDoorW.PrintMore
open Go.Proofs.YtbaiglikmneicaaDoor.R (mkB mkB_size linesA linesA_nil linesA_cons cut_len)
open Go.Proofs.YtbaiglikmneicaaDoor.C (fairL)

/-- What has been read: the stanzas that are ended, and the one under way. -/
structure CS where
  out : List S41
  line : Int
  fs : List S50
def cs0 : CS := ⟨[], 0, []⟩
def gapC (st : CS) : CS := if st.fs = [] then st else ⟨st.out ++ [⟨st.line, st.fs⟩], 0, []⟩
/-- The last field's value, one line longer. -/
def moreC (fs : List S50) (t : List UInt8) : List S50 := fs.set (fs.length - 1) ⟨(fs.getD (fs.length - 1) z50).f0, (fs.getD (fs.length - 1) z50).f1 ++ ((⟨#[10]⟩ : ByteArray) ++ mkB t)⟩
def fieldC (a : List UInt8) : S50 := ⟨mkB (cut a [58]).1, mkB (trimC (cut a [58]).2.1)⟩
/-- One line. -/
def stepC (st : CS) (a : List UInt8) (n : Nat) : CS × Int :=
  if fairL false a = false then (st, 212)
  else if hasPrefix a [35] = true then (st, 0)
  else if trimC a = [] then (gapC st, 0)
  else if (hasPrefix a [32] || hasPrefix a [9]) = true then (if st.fs = [] then (st, 210) else (⟨st.out, st.line, moreC st.fs (trimC a)⟩, 0))
  else if (!(cut a [58]).2.2 || !nameL (cut a [58]).1) = true then (st, 210)
  else if hasF st.fs (mkB (cut a [58]).1) = true then (st, 211)
  else (⟨st.out, if st.fs = [] then (n : Int) else st.line, st.fs ++ [fieldC a]⟩, 0)
def restC (st : CS) (n : Nat) : List (List UInt8) → List S41 × Int × Int
  | [] => ((gapC st).out, 0, 0)
  | a :: r => if (stepC st a (n + 1)).2 = 0 then restC (stepC st a (n + 1)).1 (n + 1) r else ([], (stepC st a (n + 1)).2, ((n + 1 : Nat) : Int))
def readC (s : ByteArray) : List S41 × Int × Int := restC cs0 0 (linesA s.data.toList)

/-- Names and values of at most B bytes. -/
def BndF (B : Nat) (fs : List S50) : Prop := ∀ f ∈ fs, f.f0.size ≤ B ∧ f.f1.size ≤ B
theorem BndF.mono {B B' : Nat} {fs : List S50} (h : BndF B fs) (hB : B ≤ B') : BndF B' fs := fun f hf => ⟨Nat.le_trans (h f hf).1 hB, Nat.le_trans (h f hf).2 hB⟩
theorem BndF.nil (B : Nat) : BndF B [] := fun f hf => by cases hf
theorem BndF.snoc {B : Nat} {fs : List S50} (h : BndF B fs) {f : S50} (h0 : f.f0.size ≤ B) (h1 : f.f1.size ≤ B) : BndF B (fs ++ [f]) := fun x hx => by
  rcases List.mem_append.1 hx with hx | hx
  · exact h x hx
  · obtain rfl : x = f := by simpa using hx
    exact ⟨h0, h1⟩
theorem BndF.last {B : Nat} {fs : List S50} (h : BndF B fs) : (fs.getD (fs.length - 1) z50).f0.size ≤ B ∧ (fs.getD (fs.length - 1) z50).f1.size ≤ B := by
  rw [List.getD_eq_getElem?_getD]
  cases hx : fs[fs.length - 1]? with
  | none => exact ⟨Nat.zero_le _, Nat.zero_le _⟩
  | some f => exact h f (List.mem_of_getElem? hx)
theorem BndF.more {B : Nat} {fs : List S50} (h : BndF B fs) (t : List UInt8) : BndF (B + (1 + t.length)) (moreC fs t) := fun x hx => by
  unfold moreC at hx
  rcases List.mem_or_eq_of_mem_set hx with hx | rfl
  · have := h x hx; exact ⟨by omega, by omega⟩
  · have := h.last
    refine ⟨by simp only; omega, ?_⟩
    simp only [ByteArray.size_append, mkB_size]
    show _ + (1 + _) ≤ _
    omega
theorem trimC_length (l : List UInt8) : (trimC l).length ≤ l.length := by
  unfold trimC trimS trimLeftS trimRightS
  have h1 := (List.dropWhile_sublist (fun x => blanksC.contains x) (l := l.reverse)).length_le
  have h2 := (List.dropWhile_sublist (fun x => blanksC.contains x) (l := ((l.reverse.dropWhile (blanksC.contains ·)).reverse))).length_le
  rw [List.length_reverse] at h1 h2
  omega
theorem cut_parts (a sep : List UInt8) : (cut a sep).1.length ≤ a.length ∧ (cut a sep).2.1.length ≤ a.length := by
  unfold cut
  split
  · simp only [List.length_take, List.length_drop]; omega
  · simp

/-- The block of the stanza under way, and what hangs on it. -/
structure RcV (w0 : World) (g : Nat) (vl vf : Value) (st : CS) (w : World) : Prop where
  blk : w.heap[g]? = some (.cells #[.int .i64 st.line, vf] 41 (0, 0))
  s : Kd.S k41 41 w w0.heap.size (fun k_ => k_ ≠ g ∧ some k_ ≠ vf.ownBlock) vl st.out
  l : Kd.R k50 50 w w0.heap.size (fun k_ => k_ ≠ g) vf st.fs
  below : Below w0.heap.size w0 w
  le : w0.heap.size ≤ g
theorem RcV.on {w0 w w' : World} {g : Nat} {vl vf : Value} {st : CS} (h : RcV w0 g vl vf st w) (hb : Below w.heap.size w w') : RcV w0 g vl vf st w' :=
  ⟨(hb.block g (blk_lt h.blk)).trans h.blk, Kd.S_below h.s hb, Kd.R_below h.l hb, h.below.trans (hb.mono h.below.size), h.le⟩
theorem RcV.setLine {w0 w : World} {g : Nat} {vl vf : Value} {st : CS} (h : RcV w0 g vl vf st w) (n : Int) : RcV w0 g vl vf ⟨st.out, n, st.fs⟩ (w.setCell ⟨g, 0, none⟩ (.int .i64 n)) :=
  ⟨blk_put h.blk 0 _ rfl, Kd.S_far h.s (fun k hk => hk.1) _, Kd.R_far h.l (fun k hk => hk) _, h.below.setCell (p := ⟨g, 0, none⟩) h.le _, h.le⟩
/-- A field appended. -/
theorem RcV.appended {w0 w w1 : World} {g : Nat} {vl vf v1 : Value} {st : CS} {f : S50} (h : RcV w0 g vl vf st w)
    (ho : Kd.R k50 50 w1 w0.heap.size (fun k_ => k_ ≠ g) v1 (st.fs ++ [f])) (hb : Below w0.heap.size w0 w1) (hg : w.grownBy w1 vf.ownBlock) (hat : v1.ownBlock = vf.ownBlock ∨ ∃ b, v1.ownBlock = some b ∧ w.heap.size ≤ b) :
    RcV w0 g vl v1 ⟨st.out, st.line, st.fs ++ [f]⟩ (w1.setCell ⟨g, 1, none⟩ v1) := by
  have hbk := blk_grown h.blk hg (Kd.R_away h.l (fun k hk => hk))
  have hs := Kd.S_after (ok := fun k_ => k_ ≠ g) h.s hg hat
  exact ⟨blk_put hbk 1 _ rfl, Kd.S_far hs (fun k hk => hk.1) _, Kd.R_far ho (fun k hk => hk) _, hb.setCell (p := ⟨g, 1, none⟩) h.le _, h.le⟩
/-- A stanza appended, the fields' row having gone over to it. -/
theorem RcV.closed {w0 w w1 : World} {g : Nat} {vl vf v1 : Value} {st : CS} (h : RcV w0 g vl vf st w)
    (ho : Kd.S k41 41 w1 w0.heap.size (fun k_ => k_ ≠ g) v1 (st.out ++ [⟨st.line, st.fs⟩])) (hb : Below w0.heap.size w0 w1) (hg : w.grownBy w1 vl.ownBlock) :
    RcV w0 g v1 (.slice none 0 0) ⟨st.out ++ [⟨st.line, st.fs⟩], 0, []⟩ ((w1.setCell ⟨g, 0, none⟩ (.int .i64 0)).setCell ⟨g, 1, none⟩ (.slice none 0 0)) := by
  have hbk := blk_grown h.blk hg (Kd.S_away h.s (fun k hk => hk.1))
  refine ⟨blk_put (blk_put hbk 0 _ rfl) 1 _ rfl, ?_, Kd.R_nil _ _ _ _ _, ((hb.setCell (p := ⟨g, 0, none⟩) h.le _).setCell (p := ⟨g, 1, none⟩) h.le _), h.le⟩
  exact Kd.S_mono (Kd.S_far (Kd.S_far ho (fun k hk => hk) _) (fun k hk => hk) _) (fun k hk => ⟨hk, by simp [Value.ownBlock]⟩)
/-- The last field's value written anew. -/
theorem RcV.mored {w0 w : World} {g gf cap : Nat} {vl : Value} {st : CS} (h : RcV w0 g vl (.slice (some ⟨gf, 0, none⟩) st.fs.length cap) st w) (hne : 0 < st.fs.length) (t : List UInt8) :
    RcV w0 g vl (.slice (some ⟨gf, 0, none⟩) st.fs.length cap) ⟨st.out, st.line, moreC st.fs t⟩ (w.setCell ⟨gf, (st.fs.length - 1) * 2 + 1, none⟩ (.string ((st.fs.getD (st.fs.length - 1) z50).f1 ++ ((⟨#[10]⟩ : ByteArray) ++ mkB t)))) := by
  obtain ⟨c, hcl, hM, hcc, _⟩ := Kd.R_elem h.l z50 ((st.fs.length - 1 : Nat) : Int) (by omega) (by omega)
  rw [Int.toNat_natCast] at hM hcc
  obtain rfl := k50_openM hM
  have hgf : gf ≠ g := h.l.1 gf (by simp [Value.ownBlock])
  obtain ⟨hr, hg⟩ := Kd.R_seg (okp := fun _ => False) h.l ((st.fs.length - 1 : Nat) : Int) (by omega) (by omega) (c := [.string (st.fs.getD (st.fs.length - 1) z50).f0, .string (st.fs.getD (st.fs.length - 1) z50).f1]) (seg := [.string ((st.fs.getD (st.fs.length - 1) z50).f1 ++ ((⟨#[10]⟩ : ByteArray) ++ mkB t))]) (j := 1) hcl (by rw [Int.toNat_natCast]; exact hcc) (by show 1 + 1 ≤ 2; omega) (x' := ⟨(st.fs.getD (st.fs.length - 1) z50).f0, (st.fs.getD (st.fs.length - 1) z50).f1 ++ ((⟨#[10]⟩ : ByteArray) ++ mkB t)⟩) (k50_mkM _ _ _ _) (fun _ hk => hk.elim)
  rw [Int.toNat_natCast] at hr hg
  have e : w.setCells gf ((st.fs.length - 1) * k50.sz + 1) [.string ((st.fs.getD (st.fs.length - 1) z50).f1 ++ ((⟨#[10]⟩ : ByteArray) ++ mkB t))] = w.setCell ⟨gf, (st.fs.length - 1) * 2 + 1, none⟩ (.string ((st.fs.getD (st.fs.length - 1) z50).f1 ++ ((⟨#[10]⟩ : ByteArray) ++ mkB t))) := rfl
  rw [e] at hr hg
  have hl : (moreC st.fs t).length = st.fs.length := by unfold moreC; rw [List.length_set]
  refine ⟨(Below.heap_setCell w _ _ g hgf.symm).trans h.blk, Kd.S_far h.s (fun k hk he => hk.2 (by rw [he]; simp [Value.ownBlock])) _, hr, h.below.setCell (Kd.R_base h.l gf (by simp [Value.ownBlock])) _, h.le⟩
end Go.Proofs.YtbaiglikmneicaaDoor.P
end
section
set_option linter.unusedVariables false
namespace Go.Proofs.YtbaiglikmneicaaDoor.G
open Go

/-- As Q; by a goto to label l: J l. -/
def jumps (J : Nat → Act → World → Prop) (Q : Exit → Act → World → Prop) : Exit → Act → World → Prop
  | .goto l', a, w => J l' a w
  | e, a, w => Q e a w
section
variable {P : Program} {a : Act} {w : World} {Q : Exit → Act → World → Prop}
theorem wp_scope_labels {c : Code} (J : Nat → Act → World → Prop) (μ : Nat → Act → World → Nat) (hJ : ∀ l a w, J l a w → ∃ rest, findLabel c l = some rest)
    (first : c.wp P (jumps J Q) a w)
    (pass : ∀ l rest a w, findLabel c l = some rest → J l a w → rest.wp P (jumps (fun l' a' w' => J l' a' w' ∧ μ l' a' w' < μ l a w) Q) a w) : (Code.scope c).wp P Q a w := by
  intro b k cs
  have key : ∀ n l rest a w, μ l a w = n → findLabel c l = some rest → J l a w → ∃ e a' w', Q e a' w' ∧ Arrives P (lone (b.at a (.code rest :: .inScope c :: k)) cs w) b k cs e a' w' := by
    intro n
    induction n using Nat.strongRecOn with
    | _ n ih =>
      intro l rest a w hn hf hJl
      obtain ⟨e, a₁, w₁, hq, harr⟩ := pass l rest a w hf hJl b (.inScope c :: k) cs
      cases e with
      | normal => exact ⟨.normal, a₁, w₁, hq, Steps.trans harr (.one step_inScope)⟩
      | exit id => exact ⟨.exit id, a₁, w₁, hq, fun k' hk => harr k' (by simp [exitTo, hk])⟩
      | goto l' =>
        obtain ⟨hJ', hlt⟩ := hq
        obtain ⟨rest', hf'⟩ := hJ _ _ _ hJ'
        have hg : gotoIn l' (.inScope c :: k) = some (.code rest' :: .inScope c :: k) := by simp [gotoIn, hf']
        obtain ⟨e₂, a₂, w₂, hq₂, harr₂⟩ := ih _ (by omega) l' rest' a₁ w₁ rfl hf' hJ'
        exact ⟨e₂, a₂, w₂, hq₂, .of_steps (harr _ hg) harr₂⟩
      | ret => exact ⟨_, a₁, w₁, hq, harr⟩
      | panic ch => exact ⟨_, a₁, w₁, hq, harr⟩
      | outgrown => exact ⟨_, a₁, w₁, hq, harr⟩
  obtain ⟨e, a₁, w₁, hq, harr⟩ := first b (.inScope c :: k) cs
  cases e with
  | normal => exact ⟨.normal, a₁, w₁, hq, .head step_scope (Steps.trans harr (.one step_inScope))⟩
  | exit id => exact ⟨.exit id, a₁, w₁, hq, fun k' hk => .head step_scope (harr k' (by simp [exitTo, hk]))⟩
  | goto l' =>
    obtain ⟨rest', hf'⟩ := hJ _ _ _ hq
    have hg : gotoIn l' (.inScope c :: k) = some (.code rest' :: .inScope c :: k) := by simp [gotoIn, hf']
    obtain ⟨e₂, a₂, w₂, hq₂, harr₂⟩ := key _ l' rest' a₁ w₁ rfl hf' hq
    exact ⟨e₂, a₂, w₂, hq₂, .of_steps (.head step_scope (harr _ hg)) harr₂⟩
  | ret => exact ⟨_, a₁, w₁, hq, .of_steps (.one step_scope) harr⟩
  | panic ch => exact ⟨_, a₁, w₁, hq, .of_steps (.one step_scope) harr⟩
  | outgrown => exact ⟨_, a₁, w₁, hq, .of_steps (.one step_scope) harr⟩
end
end Go.Proofs.YtbaiglikmneicaaDoor.G
end
section
set_option linter.unusedVariables false
namespace Go.Proofs.YtbaiglikmneicaaDoor.G
open Go
theorem step_call {P : Program} {ops : Array Oper} {o : Oper} {a : Act} {w : World} {K : Act → World → Prop} {Q : Exit → Act → World → Prop} {E : Prop}
    (hw : Region.wanted o (yielded ops a.tmps) = true) (f : FuncId) (xs : Array Operand) (ats : Array TypeId) (ho : o.op = .call { callee := .value (.func f), args := xs, argTypes := ats }) (vals : Array Value) (hv : xs.map a.eval = vals)
    (hent : ∀ args w, (callFunc f args).run P w = .ok (.enter f args) w) {R : Ending → World → Prop} (hc : Calls P f vals w R) (h : ∀ e w', R e w' → ∃ v, e = .returned v ∧ K (a.put o.dst v) w') :
    if Region.wanted o (yielded ops a.tmps) = true then Oper.wp P o a w K Q else E := by
  rw [if_pos hw]
  subst hv
  have hrun : (execOp a.eval o).run P w = .ok (.enter f (xs.map a.eval)) w := by
    obtain ⟨dst, op, type, pos, after, guard⟩ := o
    subst ho
    rw [execOp_call_go, hent]
    simp
  unfold Oper.wp
  rw [hrun, Oper.upon_enter]
  refine hc.mono fun e w' hR => ?_
  obtain ⟨v, rfl, hk⟩ := h e w' hR
  exact hk
end Go.Proofs.YtbaiglikmneicaaDoor.G
end
section
set_option linter.unusedVariables false
set_option linter.unusedSimpArgs false
namespace Go.Proofs.YtbaiglikmneicaaDoor.P
open Go.RowKit Go.Lib Go.Proofs.YtbaiglikmneicaaDoorW.PrintWords Go.Proofs.YtbaiglikmneicaaDoorW.PrintLast Go.Proofs.YtbaiglikmneicaaDoorW.PrintMore
open Go.Proofs.YtbaiglikmneicaaDoor.R (mkB mkB_size linesA linesA_nil linesA_cons cut_len)
open Go.Proofs.YtbaiglikmneicaaDoor.C (fairL)
open Go.Proofs.YtbaiglikmneicaaDoor.G (jumps wp_scope_labels)

/-- The frame: what the labels need of it. -/
theorem cut_sum (t : List UInt8) : (cut t [10]).1.length + (cut t [10]).2.1.length ≤ t.length := by
  unfold cut
  split
  · simp only [List.length_take, List.length_drop]; omega
  · simp
def FrC (v0 v5 v6 v7 v11 : Value) (a : Act) : Prop := ∃ u : Nat → Value, a = { tmps := #[v0, u 1, u 2, u 3, u 4, v5, v6, v7, u 8, u 9, u 10, v11, u 12, u 13, u 14, u 15, u 16, u 17, u 18, u 19, u 20, u 21, u 22, u 23, u 24, u 25, u 26, u 27, u 28, u 29, u 30, u 31, u 32, u 33, u 34, u 35, u 36, u 37, u 38, u 39, u 40, u 41, u 42, u 43, u 44, u 45, u 46, u 47, u 48, u 49, u 50, u 51, u 52, u 53, u 54, u 55, u 56, u 57, u 58, u 59, u 60, u 61, u 62, u 63, u 64, u 65, u 66, u 67, u 68, u 69, u 70, u 71, u 72, u 73, u 74, u 75, u 76, u 77, u 78, u 79, u 80, u 81, u 82, u 83, u 84, u 85, u 86, u 87, u 88, u 89, u 90, u 91, u 92, u 93, u 94, u 95, u 96, u 97, u 98, u 99, u 100, u 101, u 102, u 103, u 104, u 105, u 106, u 107, u 108, u 109, u 110, u 111], defers := [] }
set_option maxRecDepth 100000 in
theorem FrC.mk (v0 v5 v6 v7 v11 u1 u2 u3 u4 u8 u9 u10 u12 u13 u14 u15 u16 u17 u18 u19 u20 u21 u22 u23 u24 u25 u26 u27 u28 u29 u30 u31 u32 u33 u34 u35 u36 u37 u38 u39 u40 u41 u42 u43 u44 u45 u46 u47 u48 u49 u50 u51 u52 u53 u54 u55 u56 u57 u58 u59 u60 u61 u62 u63 u64 u65 u66 u67 u68 u69 u70 u71 u72 u73 u74 u75 u76 u77 u78 u79 u80 u81 u82 u83 u84 u85 u86 u87 u88 u89 u90 u91 u92 u93 u94 u95 u96 u97 u98 u99 u100 u101 u102 u103 u104 u105 u106 u107 u108 u109 u110 u111 : Value) : FrC v0 v5 v6 v7 v11 { tmps := #[v0, u1, u2, u3, u4, v5, v6, v7, u8, u9, u10, v11, u12, u13, u14, u15, u16, u17, u18, u19, u20, u21, u22, u23, u24, u25, u26, u27, u28, u29, u30, u31, u32, u33, u34, u35, u36, u37, u38, u39, u40, u41, u42, u43, u44, u45, u46, u47, u48, u49, u50, u51, u52, u53, u54, u55, u56, u57, u58, u59, u60, u61, u62, u63, u64, u65, u66, u67, u68, u69, u70, u71, u72, u73, u74, u75, u76, u77, u78, u79, u80, u81, u82, u83, u84, u85, u86, u87, u88, u89, u90, u91, u92, u93, u94, u95, u96, u97, u98, u99, u100, u101, u102, u103, u104, u105, u106, u107, u108, u109, u110, u111], defers := [] } := ⟨fun i => (#[v0, u1, u2, u3, u4, v5, v6, v7, u8, u9, u10, v11, u12, u13, u14, u15, u16, u17, u18, u19, u20, u21, u22, u23, u24, u25, u26, u27, u28, u29, u30, u31, u32, u33, u34, u35, u36, u37, u38, u39, u40, u41, u42, u43, u44, u45, u46, u47, u48, u49, u50, u51, u52, u53, u54, u55, u56, u57, u58, u59, u60, u61, u62, u63, u64, u65, u66, u67, u68, u69, u70, u71, u72, u73, u74, u75, u76, u77, u78, u79, u80, u81, u82, u83, u84, u85, u86, u87, u88, u89, u90, u91, u92, u93, u94, u95, u96, u97, u98, u99, u100, u101, u102, u103, u104, u105, u106, u107, u108, u109, u110, u111] : Array Value).getD i undef, rfl⟩
def strSz (v : Value) : Nat := match v with | .string b => b.size | _ => 0
def PostC (w0 : World) (s : ByteArray) (e : Ending) (w' : World) : Prop := ∃ v0_ : Value, e = .returned (.tuple #[v0_, .int .i64 (readC s).2.1, .int .i64 (readC s).2.2]) ∧ Kd.S k41 41 w' w0.heap.size (fun _ => True) v0_ (readC s).1 ∧ Below w0.heap.size w0 w'
theorem PostC.of {w0 w' : World} {s : ByteArray} {l : List S41} {e n : Int} {v : Value} (h : readC s = (l, e, n)) (hS : Kd.S k41 41 w' w0.heap.size (fun _ => True) v l) (hB : Below w0.heap.size w0 w') : PostC w0 s (.returned (.tuple #[v, .int .i64 e, .int .i64 n])) w' :=
  ⟨v, by rw [h], by rw [h]; exact hS, hB⟩
structure BndC (s : ByteArray) (st : CS) (n : Nat) (t : List UInt8) : Prop where
  nt : n + t.length ≤ s.size
  out : st.out.length ≤ n
  fs : st.fs.length ≤ n
  f : BndF (2 * (s.size - t.length)) st.fs
def JC (w0 : World) (g : Nat) (s : ByteArray) : Nat → Act → World → Prop
  | 0, a, w => ∃ (n : Nat) (st : CS) (v0 v7 v11 vl vf : Value), FrC v0 vl (.pointer (some ⟨g, 0, none⟩)) v7 v11 a ∧ RcV w0 g vl vf st w ∧ restC st n [] = readC s ∧ st.out.length ≤ 4294967280
  | 1, a, w => ∃ (t : List UInt8) (n : Nat) (st : CS) (v7 vl vf : Value), FrC (.string (mkB t)) vl (.pointer (some ⟨g, 0, none⟩)) v7 (.int .i64 n) a ∧ RcV w0 g vl vf st w ∧ restC st n (linesA t) = readC s ∧ BndC s st n t
  | 2, a, w => ∃ (t : List UInt8) (n : Nat) (st : CS) (v7 vl vf : Value), FrC (.string (mkB t)) vl (.pointer (some ⟨g, 0, none⟩)) v7 (.int .i64 n) a ∧ RcV w0 g vl vf st w ∧ restC (gapC st) n (linesA t) = readC s ∧ BndC s (gapC st) n t ∧ st.out.length ≤ 4294967280
  | 3, a, w => ∃ (t b : List UInt8) (n : Nat) (st : CS) (vl vf : Value), FrC (.string (mkB t)) vl (.pointer (some ⟨g, 0, none⟩)) (.string (mkB b)) (.int .i64 n) a ∧ RcV w0 g vl vf st w ∧ (if st.fs = [] then (([], 210, (n : Int)) : List S41 × Int × Int) else restC ⟨st.out, st.line, moreC st.fs (trimC b)⟩ n (linesA t)) = readC s ∧ BndC s ⟨st.out, st.line, moreC st.fs (trimC b)⟩ n t ∧ b.length ≤ s.size ∧ BndF (2 * s.size) st.fs
  | _, _, _ => False
def muC (l : Nat) (a : Act) (_ : World) : Nat := match l with
  | 0 => 0
  | 1 => 2 * strSz (a.tmps.getD 0 undef) + 1
  | _ => 2 * strSz (a.tmps.getD 0 undef) + 2
def scopeOf (f : Func) : Code := match f.body with
  | some (.seq _ (.scope c)) => c
  | _ => .skip
noncomputable def bodyC : Code := scopeOf Tryd.f12
theorem labels (w0 : World) (g : Nat) (s : ByteArray) : ∀ l a w, JC w0 g s l a w → ∃ rest, findLabel bodyC l = some rest
  | 0, _, _, _ => ⟨_, rfl⟩
  | 1, _, _, _ => ⟨_, rfl⟩
  | 2, _, _, _ => ⟨_, rfl⟩
  | 3, _, _, _ => ⟨_, rfl⟩
  | _ + 4, _, _, h => h.elim
end Go.Proofs.YtbaiglikmneicaaDoor.P
end
section
set_option linter.unusedVariables false
set_option linter.unusedSimpArgs false
namespace Go.Proofs.YtbaiglikmneicaaDoor.P
open Go.RowKit Go.Lib Go.Proofs.YtbaiglikmneicaaDoorW.PrintWords Go.Proofs.YtbaiglikmneicaaDoorW.PrintLast Go.Proofs.YtbaiglikmneicaaDoorW.PrintMore
open Go.Proofs.YtbaiglikmneicaaDoor.R (mkB mkB_size linesA linesA_nil linesA_cons cut_len)
open Go.Proofs.YtbaiglikmneicaaDoor.C (fairL)
open Go.Proofs.YtbaiglikmneicaaDoor.G (jumps wp_scope_labels)

set_option maxHeartbeats 8000000 in
set_option maxRecDepth 100000 in
theorem pass0 (w0 : World) (g : Nat) (s : ByteArray) (hE : Env w0) (hs : s.size ≤ 4294967280) (rest : Code) (a : Act) (w : World) (hf : findLabel bodyC 0 = some rest) (hJ : JC w0 g s 0 a w) :
    rest.wp Tryd.prog (jumps (fun l' a' w' => JC w0 g s l' a' w' ∧ muC l' a' w' < muC 0 a w) (bodyPost Tryd.prog Tryd.f12 (PostC w0 s))) a w := by
  have HE := Aside0.mk hE
  clear hE
  obtain ⟨n, st, v0, v7, v11, vl, vf, hF, hR, hrd, hol⟩ := hJ
  obtain ⟨u, rfl⟩ := hF
  cases hf
  obtain ⟨Al, cl, el⟩ := Kd.R_slice hR.l
  subst el
  obtain ⟨Ao, co, eo⟩ := Kd.R_slice (Kd.S_R hR.s)
  subst eo
  have b1 : w.cell? ⟨g, 1, none⟩ = some (.slice Al st.fs.length cl) := (blk_cell hR.blk 1).trans rfl
  have b0 : w.cell? ⟨g, 0, none⟩ = some (.int .i64 st.line) := (blk_cell hR.blk 0).trans rfl
  have HR := Aside0.mk hR
  have HRD := Aside0.mk hrd
  clear hR hrd
  by_cases hfs : st.fs = []
  · have e1 : restC st n [] = (st.out, 0, 0) := by unfold restC gapC; rw [if_pos hfs]
    have HD := Aside0.mk (HRD.out.symm.trans e1)
    have hz : ¬ (0 < st.fs.length) := by rw [hfs]; simp
    clear hfs e1
    go_wp2_with fail
    simp only [jumps]
    go_ret3
    exact PostC.of (v := .slice Ao st.out.length co) HD.out (Kd.S_mono HR.out.s (fun _ _ => trivial)) HR.out.below
  · have e1 : restC st n [] = (st.out ++ [⟨st.line, st.fs⟩], 0, 0) := by unfold restC gapC; rw [if_neg hfs]
    have HD := Aside0.mk (HRD.out.symm.trans e1)
    have hz : 0 < st.fs.length := List.length_pos_iff.2 hfs
    clear hfs e1
    go_wp2_with (first | (at_builtin; refine Kd.S_append k41 (w0 := w0) w0.heap.size rfl (.tmp 107) (.tmp 109) 23 41 (.agg #[.int .i64 0, .slice none 0 0]) 32 rfl Tryd.underlying23 info41 rfl (by decide) (by decide) (.slice Ao st.out.length co) st.out (⟨st.line, st.fs⟩ : S41) [.int .i64 st.line, .slice Al st.fs.length cl] (fun k_ => k_ ≠ g) (fun k_ => some k_ = (Value.slice Al st.fs.length cl).ownBlock) ?hs ?hx ?aP ?aK ?aF ?aO ?aB ?aS ?aL ?_; (case hs => first | rfl | simp [Act.eval, Act.put]); (case hx => first | rfl | simp [Act.eval, Act.put]); (case aP => exact k41_mkM _ _ _ (⟨st.line, st.fs⟩ : S41) (Kd.R_tight rfl HR.out.l)); (case aK => exact (fun k hk => ⟨HR.out.l.1 k hk.symm, fun e => ((Kd.S_R HR.out.s).1 k e.symm).2 hk⟩)); (case aF => exact (fun k hk e => by subst e; have := blk_lt HR.out.blk; omega)); (case aO => exact Kd.S_mono HR.out.s (fun k hk => ⟨hk.1, fun e => hk.2 e⟩)); (case aB => exact HR.out.below); (case aS => exact HR.out.below.size); (case aL => omega); intro v1 w5 ho hb hg hat; obtain ⟨Ao, co, eo⟩ := Kd.R_slice (Kd.S_R ho); subst eo; have HS := Aside0.mk (Kd.S_mono (ok' := fun _ => True) ho (fun _ _ => trivial)); have HB := Aside0.mk hb; clear ho hb hg hat))
    simp only [jumps]
    go_ret3
    have hS := HS.out
    rw [show (st.out ++ [(⟨st.line, st.fs⟩ : S41)]).length = st.out.length + 1 by simp] at hS
    exact PostC.of HD.out hS HB.out
end Go.Proofs.YtbaiglikmneicaaDoor.P
end
section
set_option linter.unusedVariables false
set_option linter.unusedSimpArgs false
namespace Go.Proofs.YtbaiglikmneicaaDoor.P
open Go.RowKit Go.Lib Go.Proofs.YtbaiglikmneicaaDoorW.PrintWords Go.Proofs.YtbaiglikmneicaaDoorW.PrintLast Go.Proofs.YtbaiglikmneicaaDoorW.PrintMore
open Go.Proofs.YtbaiglikmneicaaDoor.R (mkB mkB_size linesA linesA_nil linesA_cons cut_len)
open Go.Proofs.YtbaiglikmneicaaDoor.C (fairL)
open Go.Proofs.YtbaiglikmneicaaDoor.G (jumps wp_scope_labels)

set_option maxHeartbeats 8000000 in
set_option maxRecDepth 100000 in
theorem pass1X (w0 : World) (g : Nat) (s : ByteArray) (hE : Env w0) (hs : s.size ≤ 4294967280) (rest : Code) (a : Act) (w : World) (hf : findLabel bodyC 1 = some (Code.skip.seq rest)) (hJ : JC w0 g s 1 a w) :
    rest.wp Tryd.prog (jumps (fun l' a' w' => JC w0 g s l' a' w' ∧ muC l' a' w' < muC 1 a w) (bodyPost Tryd.prog Tryd.f12 (PostC w0 s))) a w := by
  have HE := Aside0.mk hE
  clear hE
  obtain ⟨t, n, st, v7, vl, vf, hF, hR, hrd, hbn⟩ := hJ
  obtain ⟨u, rfl⟩ := hF
  cases hf
  obtain ⟨Al, cl, el⟩ := Kd.R_slice hR.l
  subst el
  obtain ⟨Ao, co, eo⟩ := Kd.R_slice (Kd.S_R hR.s)
  subst eo
  have b1 : w.cell? ⟨g, 1, none⟩ = some (.slice Al st.fs.length cl) := (blk_cell hR.blk 1).trans rfl
  have b0 : w.cell? ⟨g, 0, none⟩ = some (.int .i64 st.line) := (blk_cell hR.blk 0).trans rfl
  have f0 := blk_frozen hR.blk 0
  have f1 := blk_frozen hR.blk 1
  have HR := Aside0.mk hR
  have HRD := Aside0.mk hrd
  clear hR hrd
  have HBN := Aside0.mk hbn
  clear hbn
  by_cases ht : t = []
  · subst ht
    have e1 : restC st n [] = readC s := HRD.out
    have HD := Aside0.mk e1
    have hol : st.out.length ≤ 4294967280 := by
      have h1 := HBN.out.nt
      have h2 := HBN.out.out
      omega
    have c0 : ((mkB []).toList == ([] : List UInt8)) = true := by rw [ByteArray.toList_eq]; rfl
    clear e1
    go_wp2_with fail
    refine wp_goto ?_
    change JC w0 g s 0 _ _ ∧ muC 0 _ _ < muC 1 _ _
    refine ⟨⟨n, st, _, _, _, _, _, FrC.mk .., HR.out, HD.out, hol⟩, ?_⟩
    simp [muC]
  · obtain ⟨a, r, q, hc⟩ : ∃ a r q, cut t [10] = (a, r, q) := ⟨_, _, _, rfl⟩
    have hcl := cut_len t ht
    have hcp := cut_parts t [10]
    have hsum := cut_sum t
    have hla := linesA_cons t ht
    rw [hc] at hcl hcp hla hsum
    simp only at hcl hcp hla hsum
    have hrd := HRD.out
    rw [hla, restC] at hrd
    have hnt := HBN.out.nt
    have hfsn := HBN.out.fs
    have houtn := HBN.out.out
    have CUT := Aside0.mk (show ∀ W, Env W → Calls Tryd.prog 27 #[.string (mkB t), .string ⟨#[10]⟩] W fun e w' => e = .returned (.tuple #[.string (mkB a), .string (mkB r), .bool q]) ∧ ∃ n, w' = W.drewN n from fun W hW => strings_Cut.calls (mkB t) ⟨#[10]⟩ (mkB a) (mkB r) q W hW (by
      have e2 : (mkB t).data.toList = t := rfl
      have e3 : (⟨#[10]⟩ : ByteArray).data.toList = [10] := rfl
      unfold strings_Cut.f
      rw [if_pos (by rw [mkB_size]; omega), e2, e3, hc]))
    have STEP := Aside0.mk (show ∀ st', stepC st a (n + 1) = (st', 0) → restC st' (n + 1) (linesA r) = readC s from fun st' h => by rw [h] at hrd; simpa using hrd)
    have FAIL := Aside0.mk (show ∀ e : Int, stepC st a (n + 1) = (st, e) → e ≠ 0 → readC s = ([], e, ((n + 1 : Nat) : Int)) from fun e h he => by rw [h] at hrd; simp only at hrd; rw [if_neg he] at hrd; exact hrd.symm)
    have hBM : ∀ fs, BndF (2 * (s.size - t.length) + 2 * a.length) fs → BndF (2 * (s.size - r.length)) fs := fun fs h => h.mono (by omega)
    have BSAME := Aside0.mk (show BndC s st (n + 1) r from ⟨by omega, by omega, by omega, HBN.out.f.mono (by omega)⟩)
    have k3 : ((mkB t).toList == ([] : List UInt8)) = false := beq_eq_false_iff_ne.mpr (by rw [ByteArray.toList_eq]; exact ht)
    have HC := Aside0.mk hc
    have HTL := Aside0.mk hnt
    have HAL := Aside0.mk hcp.1
    have HRL := Aside0.mk hcl
    have HFN := Aside0.mk hfsn
    have HON := Aside0.mk houtn
    have HBM := Aside0.mk hBM
    have HT := Aside0.mk ht
    have hwn : IntKind.i64.wrap ((n : Int) + 1) = (n : Int) + 1 := IntWalk.i64_in _ (by omega)
    have hnn : (n : Int) ≤ 4294967280 := by omega
    have HSUM := Aside0.mk hsum
    clear hrd hla hcl hcp hc ht hBM hnt hfsn houtn hsum
    go_wp2_with fail
    refine (CUT.out _ (HE.out.below HR.out.below)).mono ?_
    rintro e w2 ⟨rfl, nd, hq_⟩
    have HR2 := Aside0.mk (HR.out.on (w' := w2) (by rw [hq_]; exact pw_below_drewN (Below.refl _ _) nd))
    clear hq_
    go_wp2_with fail
    refine (control_fair.calls (mkB a) false (fairL false a) _ (HE.out.below HR2.out.below) (by unfold control_fair.f; rw [if_pos (by rw [mkB_size]; have := HAL.out; have := HTL.out; omega)]; rfl)).mono ?_
    rintro e w3 ⟨rfl, hb3⟩
    have HR3 := Aside0.mk (HR2.out.on hb3)
    clear hb3
    cases hfair : fairL false a with
    | false =>
      have HD := Aside0.mk (FAIL.out 212 (by unfold stepC; rw [if_pos hfair]) (by decide))
      have HRX := HR3
      clear hfair
      go_wp2_with fail
      simp only [jumps]
      go_ret3
      exact PostC.of (v := .slice none 0 0) HD.out (Kd.S_nil _ _ _ _ _) HRX.out.below
    | true =>
      have hf1 : ¬ (fairL false a = false) := by rw [hfair]; decide
      have HF1 := Aside0.mk hf1
      clear hfair hf1
      go_wp2_with fail
      refine (strings_HasPrefix.calls (mkB a) ⟨#[35]⟩ (hasPrefix a [35]) _ rfl).mono ?_
      rintro e w4 ⟨rfl, nd4, hq_⟩
      have HR4 := Aside0.mk (HR3.out.on (w' := w4) (by rw [hq_]; exact pw_below_drewN (Below.refl _ _) nd4))
      clear hq_
      cases hp : hasPrefix a [35] with
      | true =>
        have HD := Aside0.mk (STEP.out st (by unfold stepC; rw [if_neg HF1.out, if_pos hp]))
        have HN := BSAME
        have HRX := HR4
        have hrl := HRL.out
        clear hp
        go_wp2_with fail
        refine wp_goto ?_
        change JC w0 g s 1 _ _ ∧ muC 1 _ _ < muC 1 _ _
        refine ⟨⟨r, n + 1, _, _, _, _, FrC.mk .., HRX.out, HD.out, HN.out⟩, ?_⟩
        simp [muC, strSz, mkB_size]
        omega
      | false =>
        have HP1 := Aside0.mk (show ¬ (hasPrefix a [35] = true) by rw [hp]; decide)
        clear hp
        go_wp2_with fail
        refine (strings_Trim.calls (mkB a) ⟨#[32, 9]⟩ (mkB (trimC a)) _ (by unfold strings_Trim.f; rw [if_pos ⟨by rw [mkB_size]; have := HAL.out; have := HTL.out; omega, rfl⟩]; rfl)).mono ?_
        rintro e w5 ⟨rfl, hb5⟩
        have HR5 := Aside0.mk (HR4.out.on hb5)
        clear hb5
        by_cases htr : trimC a = []
        · have HD := Aside0.mk (STEP.out (gapC st) (by unfold stepC; rw [if_neg HF1.out, if_neg HP1.out, if_pos htr]))
          have c0 : ((mkB (trimC a)).toList == ([] : List UInt8)) = true := by rw [ByteArray.toList_eq, htr]; rfl
          have HN := Aside0.mk (show BndC s (gapC st) (n + 1) r from by
            unfold gapC
            split
            · exact BSAME.out
            · exact ⟨BSAME.out.nt, by simp; have := HON.out; omega, Nat.zero_le _, BndF.nil _⟩)
          have hol : st.out.length ≤ 4294967280 := by
            have := HON.out
            omega
          have hrl := HRL.out
          clear htr
          go_wp2_with fail
          refine wp_goto ?_
          change JC w0 g s 2 _ _ ∧ muC 2 _ _ < muC 1 _ _
          refine ⟨⟨r, n + 1, st, _, _, _, FrC.mk .., HR5.out, HD.out, HN.out, hol⟩, ?_⟩
          simp [muC, strSz, mkB_size]
          omega
        · have c0 : ((mkB (trimC a)).toList == ([] : List UInt8)) = false := beq_eq_false_iff_ne.mpr (by rw [ByteArray.toList_eq]; exact htr)
          have HTR := Aside0.mk htr
          clear htr
          have M3 := Aside0.mk (show (hasPrefix a [32] || hasPrefix a [9]) = true → (if st.fs = [] then (([], 210, ((n + 1 : Nat) : Int)) : List S41 × Int × Int) else restC ⟨st.out, st.line, moreC st.fs (trimC a)⟩ (n + 1) (linesA r)) = readC s from fun h => by
            split
            · rename_i hfs
              exact (FAIL.out 210 (by unfold stepC; rw [if_neg HF1.out, if_neg HP1.out, if_neg HTR.out, if_pos h, if_pos hfs]) (by decide)).symm
            · rename_i hfs
              exact STEP.out _ (by unfold stepC; rw [if_neg HF1.out, if_neg HP1.out, if_neg HTR.out, if_pos h, if_neg hfs]))
          have N3 := Aside0.mk (show BndC s ⟨st.out, st.line, moreC st.fs (trimC a)⟩ (n + 1) r from by
            have h1 := List.length_pos_iff.2 HTR.out
            have h2 := trimC_length a
            have h3 := HSUM.out
            have h4 := HTL.out
            refine ⟨BSAME.out.nt, BSAME.out.out, by show (moreC _ _).length ≤ _; unfold moreC; rw [List.length_set]; exact BSAME.out.fs, (HBN.out.f.more (trimC a)).mono (by omega)⟩)
          have hal : a.length ≤ s.size := by
            have := HAL.out
            have := HTL.out
            omega
          have hbf : BndF (2 * s.size) st.fs := HBN.out.f.mono (by omega)
          have HALS := Aside0.mk hal
          have HBF := Aside0.mk hbf
          clear hal hbf
          go_wp2_with fail
          refine (strings_HasPrefix.calls (mkB a) ⟨#[32]⟩ (hasPrefix a [32]) _ rfl).mono ?_
          rintro e w6 ⟨rfl, nd6, hq_⟩
          have HR6 := Aside0.mk (HR5.out.on (w' := w6) (by rw [hq_]; exact pw_below_drewN (Below.refl _ _) nd6))
          clear hq_
          cases h32 : hasPrefix a [32] with
          | true =>
            have HD := Aside0.mk (M3.out (by rw [h32]; rfl))
            have HRX := HR6
            have hal := HALS.out
            have hbf := HBF.out
            have hrl := HRL.out
            clear h32
            go_wp2_with fail
            refine wp_goto ?_
            change JC w0 g s 3 _ _ ∧ muC 3 _ _ < muC 1 _ _
            refine ⟨⟨r, a, n + 1, st, _, _, FrC.mk .., HRX.out, HD.out, N3.out, hal, hbf⟩, ?_⟩
            simp [muC, strSz, mkB_size]
            omega
          | false =>
            have H32 := Aside0.mk h32
            clear h32
            go_wp2_with fail
            refine (strings_HasPrefix.calls (mkB a) ⟨#[9]⟩ (hasPrefix a [9]) _ rfl).mono ?_
            rintro e w7 ⟨rfl, nd7, hq_⟩
            have HR7 := Aside0.mk (HR6.out.on (w' := w7) (by rw [hq_]; exact pw_below_drewN (Below.refl _ _) nd7))
            clear hq_
            cases h9 : hasPrefix a [9] with
            | true =>
              have HD := Aside0.mk (M3.out (by rw [h9, Bool.or_true]))
              have HRX := HR7
              have hal := HALS.out
              have hbf := HBF.out
              have hrl := HRL.out
              clear h9
              go_wp2_with fail
              refine wp_goto ?_
              change JC w0 g s 3 _ _ ∧ muC 3 _ _ < muC 1 _ _
              refine ⟨⟨r, a, n + 1, st, _, _, FrC.mk .., HRX.out, HD.out, N3.out, hal, hbf⟩, ?_⟩
              simp [muC, strSz, mkB_size]
              omega
            | false =>
              have HK := Aside0.mk (show ¬ ((hasPrefix a [32] || hasPrefix a [9]) = true) by rw [h9, H32.out]; decide)
              clear h9
              obtain ⟨ka, va, fo, hc2⟩ : ∃ ka va fo, cut a [58] = (ka, va, fo) := ⟨_, _, _, rfl⟩
              have hkp := cut_parts a [58]
              rw [hc2] at hkp
              simp only at hkp
              have CUT2 := Aside0.mk (show ∀ W, Env W → Calls Tryd.prog 27 #[.string (mkB a), .string ⟨#[58]⟩] W fun e w' => e = .returned (.tuple #[.string (mkB ka), .string (mkB va), .bool fo]) ∧ ∃ n, w' = W.drewN n from fun W hW => strings_Cut.calls (mkB a) ⟨#[58]⟩ (mkB ka) (mkB va) fo W hW (by
                have e2 : (mkB a).data.toList = a := rfl
                have e3 : (⟨#[58]⟩ : ByteArray).data.toList = [58] := rfl
                have := HALS.out
                unfold strings_Cut.f
                rw [if_pos (by rw [mkB_size]; omega), e2, e3, hc2]))
              have HKP := Aside0.mk hkp
              have STEPK := Aside0.mk (show stepC st a (n + 1) = if (!fo || !nameL ka) = true then (st, 210) else if hasF st.fs (mkB ka) = true then (st, 211) else (⟨st.out, if st.fs = [] then ((n + 1 : Nat) : Int) else st.line, st.fs ++ [⟨mkB ka, mkB (trimC va)⟩]⟩, 0) by
                unfold stepC fieldC
                rw [if_neg HF1.out, if_neg HP1.out, if_neg HTR.out, if_neg HK.out, hc2])
              clear hc2 hkp
              go_wp2_with fail
              refine (CUT2.out _ (HE.out.below HR7.out.below)).mono ?_
              rintro e w8 ⟨rfl, nd8, hq_⟩
              have HR8 := Aside0.mk (HR7.out.on (w' := w8) (by rw [hq_]; exact pw_below_drewN (Below.refl _ _) nd8))
              clear hq_
              cases fo with
              | false =>
                have HD := Aside0.mk (FAIL.out 210 (by rw [STEPK.out, if_pos (by rfl)]) (by decide))
                have HRX := HR8
                go_wp2_with fail
                simp only [jumps]
                go_ret3
                exact PostC.of (v := .slice none 0 0) HD.out (Kd.S_nil _ _ _ _ _) HRX.out.below
              | true =>
                go_wp2_with fail
                refine (control_name.calls (ka.length + 2) (mkB ka) (nameL ka) _ (name_is ka (by have := HKP.out.1; have := HALS.out; omega) _ (by omega))).mono ?_
                rintro e w9 ⟨rfl, ⟨nd9, hq_⟩⟩
                have HR9 := Aside0.mk (HR8.out.on (w' := w9) (by rw [hq_]; exact pw_below_drewN (Below.refl _ _) nd9))
                clear hq_
                cases hnm : nameL ka with
                | false =>
                  have HD := Aside0.mk (FAIL.out 210 (by rw [STEPK.out, if_pos (by rw [hnm]; rfl)]) (by decide))
                  have HRX := HR9
                  clear hnm
                  go_wp2_with fail
                  simp only [jumps]
                  go_ret3
                  exact PostC.of (v := .slice none 0 0) HD.out (Kd.S_nil _ _ _ _ _) HRX.out.below
                | true =>
                  have HNM := Aside0.mk (show ¬ ((!true || !nameL ka) = true) by rw [hnm]; decide)
                  clear hnm
                  have q0 := (blk_cell HR9.out.blk 0).trans (show _ = some (Value.int .i64 st.line) from rfl)
                  have q1 := (blk_cell HR9.out.blk 1).trans (show _ = some (Value.slice Al st.fs.length cl) from rfl)
                  go_wp2_with fail
                  refine (control_has.calls (st.fs.length + 1) st.line Al cl st.fs (mkB ka) (hasF st.fs (mkB ka)) _ (Kd.R_reads' HR9.out.l).2.2 (Kd.R_reads' HR9.out.l).2.1 (has_is st.line st.fs (mkB ka) (2 * s.size) (by omega) (by rw [mkB_size]; have := HKP.out.1; have := HALS.out; omega) (fun f hf => (HBF.out f hf).1) (by have := HFN.out; omega) _ (by omega))).mono ?_
                  rintro e w10 ⟨rfl, hb10⟩
                  have HR10 := Aside0.mk (HR9.out.on hb10)
                  clear hb10 q0 q1
                  cases hhs : hasF st.fs (mkB ka) with
                  | true =>
                    have HD := Aside0.mk (FAIL.out 211 (by rw [STEPK.out, if_neg HNM.out, if_pos hhs]) (by decide))
                    have HRX := HR10
                    clear hhs
                    go_wp2_with fail
                    simp only [jumps]
                    go_ret3
                    exact PostC.of (v := .slice none 0 0) HD.out (Kd.S_nil _ _ _ _ _) HRX.out.below
                  | false =>
                    have HST := Aside0.mk (STEP.out _ (by rw [STEPK.out, if_neg HNM.out, if_neg (by rw [hhs]; decide)]))
                    clear hhs
                    have HNL := Aside0.mk (show ∀ L : Int, BndC s ⟨st.out, L, st.fs ++ [(⟨mkB ka, mkB (trimC va)⟩ : S50)]⟩ (n + 1) r from fun L => by
                      have h1 := HKP.out
                      have h2 := HSUM.out
                      have h3 := HTL.out
                      have h4 := trimC_length va
                      refine ⟨BSAME.out.nt, BSAME.out.out, by simp; exact HFN.out, BSAME.out.f.snoc ?_ ?_⟩
                      · rw [mkB_size]; omega
                      · rw [mkB_size]; omega)
                    have TRV := Aside0.mk (show ∀ W, Calls Tryd.prog 30 #[.string (mkB va), .string ⟨#[32, 9]⟩] W fun e w' => e = .returned (.string (mkB (trimC va))) ∧ Below W.heap.size W w' from fun W => strings_Trim.calls (mkB va) (mkB blanksC) _ W (by unfold strings_Trim.f; rw [if_pos ⟨by rw [mkB_size]; have := HKP.out.2; have := HALS.out; omega, rfl⟩]; rfl))
                    have q1 := (blk_cell HR10.out.blk 1).trans (show _ = some (Value.slice Al st.fs.length cl) from rfl)
                    have q0 := (blk_cell HR10.out.blk 0).trans (show _ = some (Value.int .i64 st.line) from rfl)
                    have fz0 := blk_frozen HR10.out.blk 0
                    have fz1 := blk_frozen HR10.out.blk 1
                    have hfl : st.fs.length ≤ 4294967280 := by
                      have := HFN.out
                      omega
                    by_cases hfs : st.fs = []
                    · have hst := HST.out
                      rw [if_pos hfs] at hst
                      have HD := Aside0.mk hst
                      have HN := Aside0.mk (HNL.out ((n + 1 : Nat) : Int))
                      have c0 : ((st.fs.length : Int) == 0) = true := by rw [hfs]; rfl
                      have HRY := Aside0.mk (HR10.out.setLine ((n : Int) + 1))
                      clear hst hfs
                      go_wp2_with fail
                      go_region_law (first
                        | (refine Kd.R_append_step k50 (w0 := w0) w0.heap.size ?hw_a (.tmp 66) (.tmp 71) 39 50 (.agg #[.string ⟨#[]⟩, .string ⟨#[]⟩]) 32 ?ho_a Tryd.underlying39 info50 rfl (by decide) (by decide) (.slice Al st.fs.length cl) st.fs (⟨mkB ka, mkB (trimC va)⟩ : S50) [.string (mkB ka), .string (mkB (trimC va))] (fun k_ => k_ ≠ g) (fun _ => False) ?hs_a ?hx_a ?aP_a (fun _ hk => hk.elim) ?aF_a ?aO_a ?aB_a ?aS_a ?aL_a ?_; (case hw_a => first | rfl | simp [Region.wanted]); (case ho_a => rfl); (case hs_a => first | rfl | simp [Act.eval, Act.put]); (case hx_a => first | rfl | simp [Act.eval, Act.put]); (case aP_a => exact k50_mkM _ _ _ _); (case aF_a => exact (fun k hk e => by subst e; have := blk_lt HRZ.out.blk; omega)); (case aO_a => exact HRZ.out.l); (case aB_a => exact HRZ.out.below); (case aS_a => exact HRZ.out.below.size); (case aL_a => omega); intro v1 w13 ho hb hg hat; obtain ⟨A1, c1, e1⟩ := Kd.R_slice ho; subst e1; have hbk := blk_grown HRZ.out.blk hg (Kd.R_away HRZ.out.l (fun k hk => hk)); have y1 := blk_frozen hbk 1; have x1 := (blk_cell hbk 1).trans (show _ = some (Value.slice Al st.fs.length cl) from rfl); have HRF := Aside0.mk (RcV.appended HRZ.out ho hb hg hat); clear ho hb hg hat hbk)
                        | (refine G.step_call (by first | rfl | simp [Region.wanted]) 30 _ _ rfl #[.string (mkB va), .string ⟨#[32, 9]⟩] (by first | rfl | simp [Act.eval, Act.put]) (fun _ _ => rfl) (TRV.out _) ?_; rintro e w12 ⟨rfl, hb12⟩; refine ⟨_, rfl, ?_⟩; have HRZ := Aside0.mk (HRY.out.on (w' := w12) ((Below.refl _ _).drew.trans hb12)); have z1 := (blk_cell HRZ.out.blk 1).trans (show _ = some (Value.slice Al st.fs.length cl) from rfl); have za := (fun o : Obj => ((blk_cell (blk_alloc HRZ.out.blk o) 1).trans (show _ = some (Value.slice Al st.fs.length cl) from rfl) : (w12.alloc o).cell? ⟨g, 1, none⟩ = some (Value.slice Al st.fs.length cl))); clear hb12))
                      all_goals
                        go_wp2_with fail
                        refine wp_goto ?_
                        change JC w0 g s 1 _ _ ∧ muC 1 _ _ < muC 1 _ _
                        have hrf := HRF.out
                        rw [show (st.fs ++ [(⟨mkB ka, mkB (trimC va)⟩ : S50)]).length = st.fs.length + 1 by simp] at hrf
                        have hrl := HRL.out
                        refine ⟨⟨r, n + 1, _, _, _, _, FrC.mk .., hrf, HD.out, HN.out⟩, ?_⟩
                        simp [muC, strSz, mkB_size]
                        omega
                    · have hst := HST.out
                      rw [if_neg hfs] at hst
                      have HD := Aside0.mk hst
                      have HN := Aside0.mk (HNL.out st.line)
                      have hp := List.length_pos_iff.2 hfs
                      have c0 : ((st.fs.length : Int) == 0) = false := beq_eq_false_iff_ne.2 (by omega)
                      have HRY := HR10
                      clear hst hfs hp
                      go_wp2_with fail
                      go_region_law (first
                        | (refine Kd.R_append_step k50 (w0 := w0) w0.heap.size ?hw_b (.tmp 66) (.tmp 71) 39 50 (.agg #[.string ⟨#[]⟩, .string ⟨#[]⟩]) 32 ?ho_b Tryd.underlying39 info50 rfl (by decide) (by decide) (.slice Al st.fs.length cl) st.fs (⟨mkB ka, mkB (trimC va)⟩ : S50) [.string (mkB ka), .string (mkB (trimC va))] (fun k_ => k_ ≠ g) (fun _ => False) ?hs_b ?hx_b ?aP_b (fun _ hk => hk.elim) ?aF_b ?aO_b ?aB_b ?aS_b ?aL_b ?_; (case hw_b => first | rfl | simp [Region.wanted]); (case ho_b => rfl); (case hs_b => first | rfl | simp [Act.eval, Act.put]); (case hx_b => first | rfl | simp [Act.eval, Act.put]); (case aP_b => exact k50_mkM _ _ _ _); (case aF_b => exact (fun k hk e => by subst e; have := blk_lt HRZ.out.blk; omega)); (case aO_b => exact HRZ.out.l); (case aB_b => exact HRZ.out.below); (case aS_b => exact HRZ.out.below.size); (case aL_b => omega); intro v1 w13 ho hb hg hat; obtain ⟨A1, c1, e1⟩ := Kd.R_slice ho; subst e1; have hbk := blk_grown HRZ.out.blk hg (Kd.R_away HRZ.out.l (fun k hk => hk)); have y1 := blk_frozen hbk 1; have x1 := (blk_cell hbk 1).trans (show _ = some (Value.slice Al st.fs.length cl) from rfl); have HRF := Aside0.mk (RcV.appended HRZ.out ho hb hg hat); clear ho hb hg hat hbk)
                        | (refine G.step_call (by first | rfl | simp [Region.wanted]) 30 _ _ rfl #[.string (mkB va), .string ⟨#[32, 9]⟩] (by first | rfl | simp [Act.eval, Act.put]) (fun _ _ => rfl) (TRV.out _) ?_; rintro e w12 ⟨rfl, hb12⟩; refine ⟨_, rfl, ?_⟩; have HRZ := Aside0.mk (HRY.out.on (w' := w12) ((Below.refl _ _).drew.trans hb12)); have z1 := (blk_cell HRZ.out.blk 1).trans (show _ = some (Value.slice Al st.fs.length cl) from rfl); have za := (fun o : Obj => ((blk_cell (blk_alloc HRZ.out.blk o) 1).trans (show _ = some (Value.slice Al st.fs.length cl) from rfl) : (w12.alloc o).cell? ⟨g, 1, none⟩ = some (Value.slice Al st.fs.length cl))); clear hb12))
                      all_goals
                        go_wp2_with fail
                        refine wp_goto ?_
                        change JC w0 g s 1 _ _ ∧ muC 1 _ _ < muC 1 _ _
                        have hrf := HRF.out
                        rw [show (st.fs ++ [(⟨mkB ka, mkB (trimC va)⟩ : S50)]).length = st.fs.length + 1 by simp] at hrf
                        have hrl := HRL.out
                        refine ⟨⟨r, n + 1, _, _, _, _, FrC.mk .., hrf, HD.out, HN.out⟩, ?_⟩
                        simp [muC, strSz, mkB_size]
                        omega
end Go.Proofs.YtbaiglikmneicaaDoor.P
end
section
set_option linter.unusedVariables false
set_option linter.unusedSimpArgs false
namespace Go.Proofs.YtbaiglikmneicaaDoor.P
open Go.RowKit Go.Lib Go.Proofs.YtbaiglikmneicaaDoorW.PrintWords Go.Proofs.YtbaiglikmneicaaDoorW.PrintLast Go.Proofs.YtbaiglikmneicaaDoorW.PrintMore
open Go.Proofs.YtbaiglikmneicaaDoor.R (mkB mkB_size linesA linesA_nil linesA_cons cut_len)
open Go.Proofs.YtbaiglikmneicaaDoor.C (fairL)
open Go.Proofs.YtbaiglikmneicaaDoor.G (jumps wp_scope_labels)

set_option maxHeartbeats 8000000 in
set_option maxRecDepth 100000 in
theorem pass2 (w0 : World) (g : Nat) (s : ByteArray) (hE : Env w0) (hs : s.size ≤ 4294967280) (rest : Code) (a : Act) (w : World) (hf : findLabel bodyC 2 = some rest) (hJ : JC w0 g s 2 a w) :
    rest.wp Tryd.prog (jumps (fun l' a' w' => JC w0 g s l' a' w' ∧ muC l' a' w' < muC 2 a w) (bodyPost Tryd.prog Tryd.f12 (PostC w0 s))) a w := by
  have HE := Aside0.mk hE
  clear hE
  obtain ⟨t, n, st, v7, vl, vf, hF, hR, hrd, hbn, hol⟩ := hJ
  obtain ⟨u, rfl⟩ := hF
  cases hf
  obtain ⟨Al, cl, el⟩ := Kd.R_slice hR.l
  subst el
  obtain ⟨Ao, co, eo⟩ := Kd.R_slice (Kd.S_R hR.s)
  subst eo
  have b1 : w.cell? ⟨g, 1, none⟩ = some (.slice Al st.fs.length cl) := (blk_cell hR.blk 1).trans rfl
  have b0 : w.cell? ⟨g, 0, none⟩ = some (.int .i64 st.line) := (blk_cell hR.blk 0).trans rfl
  have f0 := blk_frozen hR.blk 0
  have f1 := blk_frozen hR.blk 1
  have HR := Aside0.mk hR
  have HRD := Aside0.mk hrd
  clear hR hrd
  have HBN := Aside0.mk hbn
  clear hbn
  by_cases hfs : st.fs = []
  · have e1 : gapC st = st := by unfold gapC; rw [if_pos hfs]
    have HD := Aside0.mk HRD.out
    have HN := Aside0.mk HBN.out
    rw [e1] at HD HN
    have hz : ¬ (0 < st.fs.length) := by rw [hfs]; simp
    clear hfs e1
    go_wp2_with fail
    refine wp_goto ?_
    change JC w0 g s 1 _ _ ∧ muC 1 _ _ < muC 2 _ _
    refine ⟨⟨t, n, st, v7, _, _, FrC.mk .., HR.out, HD.out, HN.out⟩, ?_⟩
    simp [muC]
  · have e1 : gapC st = ⟨st.out ++ [⟨st.line, st.fs⟩], 0, []⟩ := by unfold gapC; rw [if_neg hfs]
    have HD := Aside0.mk HRD.out
    have HN := Aside0.mk HBN.out
    rw [e1] at HD HN
    have hz : 0 < st.fs.length := List.length_pos_iff.2 hfs
    clear hfs e1
    go_wp2_with (first | (at_builtin; refine Kd.S_append k41 (w0 := w0) w0.heap.size rfl (.tmp 98) (.tmp 100) 23 41 (.agg #[.int .i64 0, .slice none 0 0]) 32 rfl Tryd.underlying23 info41 rfl (by decide) (by decide) (.slice Ao st.out.length co) st.out (⟨st.line, st.fs⟩ : S41) [.int .i64 st.line, .slice Al st.fs.length cl] (fun k_ => k_ ≠ g) (fun k_ => some k_ = (Value.slice Al st.fs.length cl).ownBlock) ?hs ?hx ?aP ?aK ?aF ?aO ?aB ?aS ?aL ?_; (case hs => first | rfl | simp [Act.eval, Act.put]); (case hx => first | rfl | simp [Act.eval, Act.put]); (case aP => exact k41_mkM _ _ _ (⟨st.line, st.fs⟩ : S41) (Kd.R_tight rfl HR.out.l)); (case aK => exact (fun k hk => ⟨HR.out.l.1 k hk.symm, fun e => ((Kd.S_R HR.out.s).1 k e.symm).2 hk⟩)); (case aF => exact (fun k hk e => by subst e; have := blk_lt HR.out.blk; omega)); (case aO => exact Kd.S_mono HR.out.s (fun k hk => ⟨hk.1, fun e => hk.2 e⟩)); (case aB => exact HR.out.below); (case aS => exact HR.out.below.size); (case aL => omega); intro v1 w5 ho hb hg hat; obtain ⟨Ao, co, eo⟩ := Kd.R_slice (Kd.S_R ho); subst eo; have hbk := blk_grown HR.out.blk hg (Kd.S_away HR.out.s (fun k hk => hk.1)); have x0 : w5.cell? ⟨g, 0, none⟩ = some (.int .i64 st.line) := (blk_cell hbk 0).trans rfl; have x1 : w5.cell? ⟨g, 1, none⟩ = some (.slice Al st.fs.length cl) := (blk_cell hbk 1).trans rfl; have y0 := blk_frozen hbk 0; have y1 := blk_frozen hbk 1; have HS := Aside0.mk (RcV.closed HR.out ho hb hg); clear hbk; clear ho hb hg hat))
    refine wp_goto ?_
    change JC w0 g s 1 _ _ ∧ muC 1 _ _ < muC 2 _ _
    have hS := HS.out
    rw [show (st.out ++ [(⟨st.line, st.fs⟩ : S41)]).length = st.out.length + 1 by simp] at hS
    refine ⟨⟨t, n, _, v7, _, _, FrC.mk .., hS, HD.out, HN.out⟩, ?_⟩
    simp [muC]
end Go.Proofs.YtbaiglikmneicaaDoor.P
end
section
set_option linter.unusedVariables false
set_option linter.unusedSimpArgs false
namespace Go.Proofs.YtbaiglikmneicaaDoor.P
open Go.RowKit Go.Lib Go.Proofs.YtbaiglikmneicaaDoorW.PrintWords Go.Proofs.YtbaiglikmneicaaDoorW.PrintLast Go.Proofs.YtbaiglikmneicaaDoorW.PrintMore
open Go.Proofs.YtbaiglikmneicaaDoor.R (mkB mkB_size linesA linesA_nil linesA_cons cut_len)
open Go.Proofs.YtbaiglikmneicaaDoor.C (fairL)
open Go.Proofs.YtbaiglikmneicaaDoor.G (jumps wp_scope_labels)

set_option maxHeartbeats 8000000 in
set_option maxRecDepth 100000 in
theorem pass3 (w0 : World) (g : Nat) (s : ByteArray) (hE : Env w0) (hs : s.size ≤ 4294967280) (rest : Code) (a : Act) (w : World) (hf : findLabel bodyC 3 = some rest) (hJ : JC w0 g s 3 a w) :
    rest.wp Tryd.prog (jumps (fun l' a' w' => JC w0 g s l' a' w' ∧ muC l' a' w' < muC 3 a w) (bodyPost Tryd.prog Tryd.f12 (PostC w0 s))) a w := by
  have HE := Aside0.mk hE
  clear hE
  obtain ⟨t, b, n, st, vl, vf, hF, hR, hrd, hbn, hbl, hbf⟩ := hJ
  obtain ⟨u, rfl⟩ := hF
  cases hf
  have HBN := Aside0.mk hbn
  clear hbn
  by_cases hfs : st.fs = []
  · rw [if_pos hfs] at hrd
    have HD := Aside0.mk hrd.symm
    have hz : st.fs.length = 0 := by rw [hfs]; rfl
    obtain ⟨Al, cl, el⟩ := Kd.R_slice hR.l
    subst el
    obtain ⟨Ao, co, eo⟩ := Kd.R_slice (Kd.S_R hR.s)
    subst eo
    have b1 : w.cell? ⟨g, 1, none⟩ = some (.slice Al st.fs.length cl) := (blk_cell hR.blk 1).trans rfl
    have b0 : w.cell? ⟨g, 0, none⟩ = some (.int .i64 st.line) := (blk_cell hR.blk 0).trans rfl
    have f0 := blk_frozen hR.blk 0
    have f1 := blk_frozen hR.blk 1
    have HR := Aside0.mk hR
    skip
    clear hR hrd
    clear hfs hbf hbl
    rw [hz] at b1
    go_wp2_with fail
    simp only [jumps]
    go_ret3
    exact PostC.of (v := .slice none 0 0) HD.out (Kd.S_nil _ _ _ _ _) HR.out.below
  · rw [if_neg hfs] at hrd
    have HD := Aside0.mk hrd
    have hz : 0 < st.fs.length := List.length_pos_iff.2 hfs
    obtain ⟨gf, cap, hvf, hbg, hgl, cells, hcells⟩ := Kd.R_form hR.l hz
    subst hvf
    obtain ⟨m, hm⟩ : ∃ m, st.fs.length = m + 1 := ⟨st.fs.length - 1, by omega⟩
    obtain ⟨c, hcl, hM, hcc, _⟩ := Kd.R_elem hR.l z50 ((st.fs.length - 1 : Nat) : Int) (by omega) (by omega)
    rw [Int.toNat_natCast] at hM hcc
    obtain rfl := k50_openM hM
    have hx : w.cell? ⟨gf, (st.fs.length - 1) * 2 + 1, none⟩ = some (.string (st.fs.getD (st.fs.length - 1) z50).f1) := hcc 1 _ rfl
    have hxf := blk_frozen hcells ((st.fs.length - 1) * 2 + 1)
    have b1 : w.cell? ⟨g, 1, none⟩ = some (.slice (some ⟨gf, 0, none⟩) st.fs.length cap) := (blk_cell hR.blk 1).trans rfl
    have hlg := blk_lt hR.blk
    have hvs : (st.fs.getD (st.fs.length - 1) z50).f1.size ≤ 2 * s.size := hbf.last.2
    have MORE := Aside0.mk (fun w' (h : Below w.heap.size w w') => RcV.mored (hR.on h) hz (trimC b))
    have KEEP := Aside0.mk (fun w' (h : Below w.heap.size w w') => (show w'.cell? ⟨g, 1, none⟩ = some (.slice (some ⟨gf, 0, none⟩) st.fs.length cap) ∧ w'.cell? ⟨gf, (st.fs.length - 1) * 2 + 1, none⟩ = some (.string (st.fs.getD (st.fs.length - 1) z50).f1) ∧ w'.frozen? ⟨gf, (st.fs.length - 1) * 2 + 1, none⟩ = false from ⟨(h.cell hlg).trans b1, (h.cell hgl).trans hx, (h.frozen hgl).trans hxf⟩))
    have TR := Aside0.mk (show ∀ W, Calls Tryd.prog 30 #[.string (mkB b), .string ⟨#[32, 9]⟩] W fun e w' => e = .returned (.string (mkB (trimC b))) ∧ Below W.heap.size W w' from fun W => strings_Trim.calls (mkB b) (mkB blanksC) _ W (by unfold strings_Trim.f; rw [if_pos ⟨by rw [mkB_size]; omega, rfl⟩]; rfl))
    have hml := trimC_length b
    obtain ⟨tb, htb⟩ : ∃ tb, mkB (trimC b) = tb := ⟨_, rfl⟩
    have htl : tb.size ≤ b.length := by rw [← htb, mkB_size]; exact hml
    obtain ⟨V, hV⟩ : ∃ V, (st.fs.getD (st.fs.length - 1) z50).f1 = V := ⟨_, rfl⟩
    rw [htb] at TR MORE
    rw [hV] at hx hvs KEEP MORE
    have e1 : st.fs.length - 1 = m := by omega
    rw [e1] at hx hxf KEEP MORE
    rw [hm] at b1 KEEP
    clear hcc hcells hM htb hV hml
    have hq1 : ¬ (9223372036854775807 < 1 + tb.size) := by omega
    have hq2 : ¬ (9223372036854775807 < V.size + (1 + tb.size)) := by omega
    have hmb : m ≤ 4294967280 := by
      have h1 := HBN.out.fs
      have h2 := HBN.out.nt
      unfold moreC at h1
      rw [List.length_set] at h1
      omega
    have hw : IntKind.i64.wrap (m : Int) = (m : Int) := IntWalk.i64_in _ (by omega)
    have hlm : (m : Int) < (m : Int) + 1 := by omega
    have HR := Aside0.mk hR
    clear hR hfs hbf hbl hvs htl hcl e1
    have HM := Aside0.mk hm
    clear hm hz hrd
    go_wp2_with fail
    go_region_with (first | (go_at_call 30; (with_reducible refine (TR.out _).mono ?_); rintro e w2 ⟨rfl, hb2⟩; have HB := Aside0.mk ((Below.refl w.heap.size w).drew.trans hb2); obtain ⟨k1, k2, k3⟩ := KEEP.out _ HB.out; clear hb2))
    all_goals
      go_wp2_with fail
      refine wp_goto ?_
      change JC w0 g s 1 _ _ ∧ muC 1 _ _ < muC 3 _ _
      refine ⟨⟨t, n, _, _, _, _, FrC.mk .., MORE.out _ HB.out, HD.out, HBN.out⟩, ?_⟩
      simp [muC]
end Go.Proofs.YtbaiglikmneicaaDoor.P
end
section
set_option linter.unusedVariables false
set_option linter.unusedSimpArgs false
namespace Go.Proofs.YtbaiglikmneicaaDoor.P
open Go.RowKit Go.Lib Go.Proofs.YtbaiglikmneicaaDoorW.PrintWords Go.Proofs.YtbaiglikmneicaaDoorW.PrintLast Go.Proofs.YtbaiglikmneicaaDoorW.PrintMore
open Go.Proofs.YtbaiglikmneicaaDoor.R (mkB mkB_size linesA mkB_data)
open Go.Proofs.YtbaiglikmneicaaDoor.G (jumps wp_scope_labels)

theorem pass1 (w0 : World) (g : Nat) (s : ByteArray) (hE : Env w0) (hs : s.size ≤ 4294967280) (rest : Code) (a : Act) (w : World) (hf : findLabel bodyC 1 = some rest) (hJ : JC w0 g s 1 a w) :
    rest.wp Tryd.prog (jumps (fun l' a' w' => JC w0 g s l' a' w' ∧ muC l' a' w' < muC 1 a w) (bodyPost Tryd.prog Tryd.f12 (PostC w0 s))) a w := by
  cases hf
  exact wp_seq (wp_skip (pass1X w0 g s hE hs _ a w rfl hJ))
theorem pass_all (w0 : World) (g : Nat) (s : ByteArray) (hE : Env w0) (hs : s.size ≤ 4294967280) (l : Nat) (rest : Code) (a : Act) (w : World) (hf : findLabel bodyC l = some rest) (hJ : JC w0 g s l a w) :
    rest.wp Tryd.prog (jumps (fun l' a' w' => JC w0 g s l' a' w' ∧ muC l' a' w' < muC l a w) (bodyPost Tryd.prog Tryd.f12 (PostC w0 s))) a w := by
  match l, hf, hJ with
  | 0, hf, hJ => exact pass0 w0 g s hE hs rest a w hf hJ
  | 1, hf, hJ => exact pass1 w0 g s hE hs rest a w hf hJ
  | 2, hf, hJ => exact pass2 w0 g s hE hs rest a w hf hJ
  | 3, hf, hJ => exact pass3 w0 g s hE hs rest a w hf hJ
  | l + 4, _, hJ => exact hJ.elim
/-- A new stanza. -/
theorem rc_new (w : World) : RcV w w.heap.size (.slice none 0 0) (.slice none 0 0) cs0 (w.alloc (.cells #[.int .i64 0, .slice none 0 0] 41)) :=
  ⟨heap_alloc_new w _, Kd.S_nil _ _ _ _ _, Kd.R_nil _ _ _ _ _, (Below.refl _ w).alloc (Nat.le_refl _) _, Nat.le_refl _⟩
set_option maxHeartbeats 8000000 in
set_option maxRecDepth 100000 in
theorem read_walk (s : ByteArray) (w : World) (hE : Env w) (hs : s.size ≤ 4294967280) : Calls Tryd.prog 12 #[.string s] w (PostC w s) := by
  have HE := Aside0.mk hE
  have HN := Aside0.mk (rc_new w)
  have hmk : s = mkB s.data.toList := (mkB_data s).symm
  have HMK := Aside0.mk hmk
  clear hE hmk
  go_enter Tryd.func12, Tryd.ntmps12
  go_wp2_with fail
  refine wp_scope_labels (JC w w.heap.size s) muC (labels w w.heap.size s) ?_ (pass_all w w.heap.size s HE.out hs)
  go_wp2_with fail
  refine wp_label ?_
  rename_i K hK
  refine hK _ _ ?_
  refine Code.wp_mono ?_ (pass1X w w.heap.size s HE.out hs _ _ _ rfl ?hJ)
  case hJ => exact ⟨s.data.toList, 0, cs0, .string ⟨#[]⟩, .slice none 0 0, .slice none 0 0, FrC.mk .., HN.out, rfl, ⟨by simp, Nat.le_refl _, Nat.le_refl _, BndF.nil _⟩⟩
  intro e a' w' h
  cases e with
  | goto l => exact h.1
  | normal => exact h
  | exit id => exact h
  | ret => exact h
  | panic ch => exact h
  | outgrown => exact h
/-- What control.Read comes to. -/
def control_Read.f (a0 : ByteArray) : Option (List S41 × Int × Int) := if a0.size ≤ 4294967280 then some (readC a0) else none
theorem control_Read.calls (a0 : ByteArray) (r1 : List S41) (r2 r3 : Int) (w : World) (hE : Env w) (h : control_Read.f a0 = some (r1, r2, r3)) :
    Calls Tryd.prog 12 #[.string a0] w fun e w' => ∃ v0_ : Value, e = .returned (.tuple #[v0_, .int .i64 r2, .int .i64 r3]) ∧ Kd.S k41 41 w' w.heap.size (fun _ => True) v0_ r1 ∧ Below w.heap.size w w' := by
  unfold control_Read.f at h
  by_cases hs : a0.size ≤ 4294967280
  · rw [if_pos hs] at h
    have hr := read_walk a0 w hE hs
    unfold PostC at hr
    rw [Option.some.inj h] at hr
    exact hr
  · rw [if_neg hs] at h
    cases h
end Go.Proofs.YtbaiglikmneicaaDoor.P
end
