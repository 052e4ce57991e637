/- control.Read: what it comes to (readC), and the block of the stanza that is being read. No conditions. -/
import Derived.Test.YtbaiglikmneicaaDoorNameC
import Derived.Test.YtbaiglikmneicaaDoorEFair
set_option linter.unusedVariables false
set_option linter.unusedSimpArgs false
namespace Go.Proofs.YtbaiglikmneicaaDoor.P
open Go.RowKit Go.Lib Go.Proofs.YtbaiglikmneicaaDoorW.PrintWords Go.Proofs.YtbaiglikmneicaaDoorW.PrintLast Go.Proofs.YtbaiglikmneicaaDoorW.PrintMore
open Go.Proofs.YtbaiglikmneicaaDoor.R (mkB mkB_size linesA linesA_nil linesA_cons cut_len)
open Go.Proofs.YtbaiglikmneicaaDoor.C (fairL)

/-- What has been read: the stanzas that are ended, and the one under way. -/
structure CS where
  out : List S41
  line : Int
  fs : List S50
def cs0 : CS := ⟨[], 0, []⟩
def gapC (st : CS) : CS := if st.fs = [] then st else ⟨st.out ++ [⟨st.line, st.fs⟩], 0, []⟩
/-- The last field's value, one line longer. -/
def moreC (fs : List S50) (t : List UInt8) : List S50 := fs.set (fs.length - 1) ⟨(fs.getD (fs.length - 1) z50).f0, (fs.getD (fs.length - 1) z50).f1 ++ ((⟨#[10]⟩ : ByteArray) ++ mkB t)⟩
def fieldC (a : List UInt8) : S50 := ⟨mkB (cut a [58]).1, mkB (trimC (cut a [58]).2.1)⟩
/-- One line. -/
def stepC (st : CS) (a : List UInt8) (n : Nat) : CS × Int :=
  if fairL false a = false then (st, 212)
  else if hasPrefix a [35] = true then (st, 0)
  else if trimC a = [] then (gapC st, 0)
  else if (hasPrefix a [32] || hasPrefix a [9]) = true then (if st.fs = [] then (st, 210) else (⟨st.out, st.line, moreC st.fs (trimC a)⟩, 0))
  else if (!(cut a [58]).2.2 || !nameL (cut a [58]).1) = true then (st, 210)
  else if hasF st.fs (mkB (cut a [58]).1) = true then (st, 211)
  else (⟨st.out, if st.fs = [] then (n : Int) else st.line, st.fs ++ [fieldC a]⟩, 0)
def restC (st : CS) (n : Nat) : List (List UInt8) → List S41 × Int × Int
  | [] => ((gapC st).out, 0, 0)
  | a :: r => if (stepC st a (n + 1)).2 = 0 then restC (stepC st a (n + 1)).1 (n + 1) r else ([], (stepC st a (n + 1)).2, ((n + 1 : Nat) : Int))
def readC (s : ByteArray) : List S41 × Int × Int := restC cs0 0 (linesA s.data.toList)

/-- Names and values of at most B bytes. -/
def BndF (B : Nat) (fs : List S50) : Prop := ∀ f ∈ fs, f.f0.size ≤ B ∧ f.f1.size ≤ B
theorem BndF.mono {B B' : Nat} {fs : List S50} (h : BndF B fs) (hB : B ≤ B') : BndF B' fs := fun f hf => ⟨Nat.le_trans (h f hf).1 hB, Nat.le_trans (h f hf).2 hB⟩
theorem BndF.nil (B : Nat) : BndF B [] := fun f hf => by cases hf
theorem BndF.snoc {B : Nat} {fs : List S50} (h : BndF B fs) {f : S50} (h0 : f.f0.size ≤ B) (h1 : f.f1.size ≤ B) : BndF B (fs ++ [f]) := fun x hx => by
  rcases List.mem_append.1 hx with hx | hx
  · exact h x hx
  · obtain rfl : x = f := by simpa using hx
    exact ⟨h0, h1⟩
theorem BndF.last {B : Nat} {fs : List S50} (h : BndF B fs) : (fs.getD (fs.length - 1) z50).f0.size ≤ B ∧ (fs.getD (fs.length - 1) z50).f1.size ≤ B := by
  rw [List.getD_eq_getElem?_getD]
  cases hx : fs[fs.length - 1]? with
  | none => exact ⟨Nat.zero_le _, Nat.zero_le _⟩
  | some f => exact h f (List.mem_of_getElem? hx)
theorem BndF.more {B : Nat} {fs : List S50} (h : BndF B fs) (t : List UInt8) : BndF (B + (1 + t.length)) (moreC fs t) := fun x hx => by
  unfold moreC at hx
  rcases List.mem_or_eq_of_mem_set hx with hx | rfl
  · have := h x hx; exact ⟨by omega, by omega⟩
  · have := h.last
    refine ⟨by simp only; omega, ?_⟩
    simp only [ByteArray.size_append, mkB_size]
    show _ + (1 + _) ≤ _
    omega
theorem trimC_length (l : List UInt8) : (trimC l).length ≤ l.length := by
  unfold trimC trimS trimLeftS trimRightS
  have h1 := (List.dropWhile_sublist (fun x => blanksC.contains x) (l := l.reverse)).length_le
  have h2 := (List.dropWhile_sublist (fun x => blanksC.contains x) (l := ((l.reverse.dropWhile (blanksC.contains ·)).reverse))).length_le
  rw [List.length_reverse] at h1 h2
  omega
theorem cut_parts (a sep : List UInt8) : (cut a sep).1.length ≤ a.length ∧ (cut a sep).2.1.length ≤ a.length := by
  unfold cut
  split
  · simp only [List.length_take, List.length_drop]; omega
  · simp

/-- The block of the stanza under way, and what hangs on it. -/
structure RcV (w0 : World) (g : Nat) (vl vf : Value) (st : CS) (w : World) : Prop where
  blk : w.heap[g]? = some (.cells #[.int .i64 st.line, vf] 41 (0, 0))
  s : Kd.S k41 41 w w0.heap.size (fun k_ => k_ ≠ g ∧ some k_ ≠ vf.ownBlock) vl st.out
  l : Kd.R k50 50 w w0.heap.size (fun k_ => k_ ≠ g) vf st.fs
  below : Below w0.heap.size w0 w
  le : w0.heap.size ≤ g
theorem RcV.on {w0 w w' : World} {g : Nat} {vl vf : Value} {st : CS} (h : RcV w0 g vl vf st w) (hb : Below w.heap.size w w') : RcV w0 g vl vf st w' :=
  ⟨(hb.block g (blk_lt h.blk)).trans h.blk, Kd.S_below h.s hb, Kd.R_below h.l hb, h.below.trans (hb.mono h.below.size), h.le⟩
theorem RcV.setLine {w0 w : World} {g : Nat} {vl vf : Value} {st : CS} (h : RcV w0 g vl vf st w) (n : Int) : RcV w0 g vl vf ⟨st.out, n, st.fs⟩ (w.setCell ⟨g, 0, none⟩ (.int .i64 n)) :=
  ⟨blk_put h.blk 0 _ rfl, Kd.S_far h.s (fun k hk => hk.1) _, Kd.R_far h.l (fun k hk => hk) _, h.below.setCell (p := ⟨g, 0, none⟩) h.le _, h.le⟩
/-- A field appended. -/
theorem RcV.appended {w0 w w1 : World} {g : Nat} {vl vf v1 : Value} {st : CS} {f : S50} (h : RcV w0 g vl vf st w)
    (ho : Kd.R k50 50 w1 w0.heap.size (fun k_ => k_ ≠ g) v1 (st.fs ++ [f])) (hb : Below w0.heap.size w0 w1) (hg : w.grownBy w1 vf.ownBlock) (hat : v1.ownBlock = vf.ownBlock ∨ ∃ b, v1.ownBlock = some b ∧ w.heap.size ≤ b) :
    RcV w0 g vl v1 ⟨st.out, st.line, st.fs ++ [f]⟩ (w1.setCell ⟨g, 1, none⟩ v1) := by
  have hbk := blk_grown h.blk hg (Kd.R_away h.l (fun k hk => hk))
  have hs := Kd.S_after (ok := fun k_ => k_ ≠ g) h.s hg hat
  exact ⟨blk_put hbk 1 _ rfl, Kd.S_far hs (fun k hk => hk.1) _, Kd.R_far ho (fun k hk => hk) _, hb.setCell (p := ⟨g, 1, none⟩) h.le _, h.le⟩
/-- A stanza appended, the fields' row having gone over to it. -/
theorem RcV.closed {w0 w w1 : World} {g : Nat} {vl vf v1 : Value} {st : CS} (h : RcV w0 g vl vf st w)
    (ho : Kd.S k41 41 w1 w0.heap.size (fun k_ => k_ ≠ g) v1 (st.out ++ [⟨st.line, st.fs⟩])) (hb : Below w0.heap.size w0 w1) (hg : w.grownBy w1 vl.ownBlock) :
    RcV w0 g v1 (.slice none 0 0) ⟨st.out ++ [⟨st.line, st.fs⟩], 0, []⟩ ((w1.setCell ⟨g, 0, none⟩ (.int .i64 0)).setCell ⟨g, 1, none⟩ (.slice none 0 0)) := by
  have hbk := blk_grown h.blk hg (Kd.S_away h.s (fun k hk => hk.1))
  refine ⟨blk_put (blk_put hbk 0 _ rfl) 1 _ rfl, ?_, Kd.R_nil _ _ _ _ _, ((hb.setCell (p := ⟨g, 0, none⟩) h.le _).setCell (p := ⟨g, 1, none⟩) h.le _), h.le⟩
  exact Kd.S_mono (Kd.S_far (Kd.S_far ho (fun k hk => hk) _) (fun k hk => hk) _) (fun k hk => ⟨hk, by simp [Value.ownBlock]⟩)
/-- The last field's value written anew. -/
theorem RcV.mored {w0 w : World} {g gf cap : Nat} {vl : Value} {st : CS} (h : RcV w0 g vl (.slice (some ⟨gf, 0, none⟩) st.fs.length cap) st w) (hne : 0 < st.fs.length) (t : List UInt8) :
    RcV w0 g vl (.slice (some ⟨gf, 0, none⟩) st.fs.length cap) ⟨st.out, st.line, moreC st.fs t⟩ (w.setCell ⟨gf, (st.fs.length - 1) * 2 + 1, none⟩ (.string ((st.fs.getD (st.fs.length - 1) z50).f1 ++ ((⟨#[10]⟩ : ByteArray) ++ mkB t)))) := by
  obtain ⟨c, hcl, hM, hcc, _⟩ := Kd.R_elem h.l z50 ((st.fs.length - 1 : Nat) : Int) (by omega) (by omega)
  rw [Int.toNat_natCast] at hM hcc
  obtain rfl := k50_openM hM
  have hgf : gf ≠ g := h.l.1 gf (by simp [Value.ownBlock])
  obtain ⟨hr, hg⟩ := Kd.R_seg (okp := fun _ => False) h.l ((st.fs.length - 1 : Nat) : Int) (by omega) (by omega) (c := [.string (st.fs.getD (st.fs.length - 1) z50).f0, .string (st.fs.getD (st.fs.length - 1) z50).f1]) (seg := [.string ((st.fs.getD (st.fs.length - 1) z50).f1 ++ ((⟨#[10]⟩ : ByteArray) ++ mkB t))]) (j := 1) hcl (by rw [Int.toNat_natCast]; exact hcc) (by show 1 + 1 ≤ 2; omega) (x' := ⟨(st.fs.getD (st.fs.length - 1) z50).f0, (st.fs.getD (st.fs.length - 1) z50).f1 ++ ((⟨#[10]⟩ : ByteArray) ++ mkB t)⟩) (k50_mkM _ _ _ _) (fun _ hk => hk.elim)
  rw [Int.toNat_natCast] at hr hg
  have e : w.setCells gf ((st.fs.length - 1) * k50.sz + 1) [.string ((st.fs.getD (st.fs.length - 1) z50).f1 ++ ((⟨#[10]⟩ : ByteArray) ++ mkB t))] = w.setCell ⟨gf, (st.fs.length - 1) * 2 + 1, none⟩ (.string ((st.fs.getD (st.fs.length - 1) z50).f1 ++ ((⟨#[10]⟩ : ByteArray) ++ mkB t))) := rfl
  rw [e] at hr hg
  have hl : (moreC st.fs t).length = st.fs.length := by unfold moreC; rw [List.length_set]
  refine ⟨(Below.heap_setCell w _ _ g hgf.symm).trans h.blk, Kd.S_far h.s (fun k hk he => hk.2 (by rw [he]; simp [Value.ownBlock])) _, hr, h.below.setCell (Kd.R_base h.l gf (by simp [Value.ownBlock])) _, h.le⟩
end Go.Proofs.YtbaiglikmneicaaDoor.P
