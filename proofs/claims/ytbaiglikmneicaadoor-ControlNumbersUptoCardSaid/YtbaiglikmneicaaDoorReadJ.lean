/- control.Read: what holds at its labels. No conditions. -/
import Derived.Test.YtbaiglikmneicaaDoorReadF
import Derived.Test.YtbaiglikmneicaaDoorScopeL
import Derived.Test.YtbaiglikmneicaaDoorStepCall
import Derived.Deep.RegionLaw
import Derived.Deep.RegionWith
import Derived.WalkMore
import Derived.IntWalk
set_option linter.unusedVariables false
set_option linter.unusedSimpArgs false
namespace Go.Proofs.YtbaiglikmneicaaDoor.P
open Go.RowKit Go.Lib Go.Proofs.YtbaiglikmneicaaDoorW.PrintWords Go.Proofs.YtbaiglikmneicaaDoorW.PrintLast Go.Proofs.YtbaiglikmneicaaDoorW.PrintMore
open Go.Proofs.YtbaiglikmneicaaDoor.R (mkB mkB_size linesA linesA_nil linesA_cons cut_len)
open Go.Proofs.YtbaiglikmneicaaDoor.C (fairL)
open Go.Proofs.YtbaiglikmneicaaDoor.G (jumps wp_scope_labels)

/-- The frame: what the labels need of it. -/
theorem cut_sum (t : List UInt8) : (cut t [10]).1.length + (cut t [10]).2.1.length ≤ t.length := by
  unfold cut
  split
  · simp only [List.length_take, List.length_drop]; omega
  · simp
def FrC (v0 v5 v6 v7 v11 : Value) (a : Act) : Prop := ∃ u : Nat → Value, a = { tmps := #[v0, u 1, u 2, u 3, u 4, v5, v6, v7, u 8, u 9, u 10, v11, u 12, u 13, u 14, u 15, u 16, u 17, u 18, u 19, u 20, u 21, u 22, u 23, u 24, u 25, u 26, u 27, u 28, u 29, u 30, u 31, u 32, u 33, u 34, u 35, u 36, u 37, u 38, u 39, u 40, u 41, u 42, u 43, u 44, u 45, u 46, u 47, u 48, u 49, u 50, u 51, u 52, u 53, u 54, u 55, u 56, u 57, u 58, u 59, u 60, u 61, u 62, u 63, u 64, u 65, u 66, u 67, u 68, u 69, u 70, u 71, u 72, u 73, u 74, u 75, u 76, u 77, u 78, u 79, u 80, u 81, u 82, u 83, u 84, u 85, u 86, u 87, u 88, u 89, u 90, u 91, u 92, u 93, u 94, u 95, u 96, u 97, u 98, u 99, u 100, u 101, u 102, u 103, u 104, u 105, u 106, u 107, u 108, u 109, u 110, u 111], defers := [] }
set_option maxRecDepth 100000 in
theorem FrC.mk (v0 v5 v6 v7 v11 u1 u2 u3 u4 u8 u9 u10 u12 u13 u14 u15 u16 u17 u18 u19 u20 u21 u22 u23 u24 u25 u26 u27 u28 u29 u30 u31 u32 u33 u34 u35 u36 u37 u38 u39 u40 u41 u42 u43 u44 u45 u46 u47 u48 u49 u50 u51 u52 u53 u54 u55 u56 u57 u58 u59 u60 u61 u62 u63 u64 u65 u66 u67 u68 u69 u70 u71 u72 u73 u74 u75 u76 u77 u78 u79 u80 u81 u82 u83 u84 u85 u86 u87 u88 u89 u90 u91 u92 u93 u94 u95 u96 u97 u98 u99 u100 u101 u102 u103 u104 u105 u106 u107 u108 u109 u110 u111 : Value) : FrC v0 v5 v6 v7 v11 { tmps := #[v0, u1, u2, u3, u4, v5, v6, v7, u8, u9, u10, v11, u12, u13, u14, u15, u16, u17, u18, u19, u20, u21, u22, u23, u24, u25, u26, u27, u28, u29, u30, u31, u32, u33, u34, u35, u36, u37, u38, u39, u40, u41, u42, u43, u44, u45, u46, u47, u48, u49, u50, u51, u52, u53, u54, u55, u56, u57, u58, u59, u60, u61, u62, u63, u64, u65, u66, u67, u68, u69, u70, u71, u72, u73, u74, u75, u76, u77, u78, u79, u80, u81, u82, u83, u84, u85, u86, u87, u88, u89, u90, u91, u92, u93, u94, u95, u96, u97, u98, u99, u100, u101, u102, u103, u104, u105, u106, u107, u108, u109, u110, u111], defers := [] } := ⟨fun i => (#[v0, u1, u2, u3, u4, v5, v6, v7, u8, u9, u10, v11, u12, u13, u14, u15, u16, u17, u18, u19, u20, u21, u22, u23, u24, u25, u26, u27, u28, u29, u30, u31, u32, u33, u34, u35, u36, u37, u38, u39, u40, u41, u42, u43, u44, u45, u46, u47, u48, u49, u50, u51, u52, u53, u54, u55, u56, u57, u58, u59, u60, u61, u62, u63, u64, u65, u66, u67, u68, u69, u70, u71, u72, u73, u74, u75, u76, u77, u78, u79, u80, u81, u82, u83, u84, u85, u86, u87, u88, u89, u90, u91, u92, u93, u94, u95, u96, u97, u98, u99, u100, u101, u102, u103, u104, u105, u106, u107, u108, u109, u110, u111] : Array Value).getD i undef, rfl⟩
def strSz (v : Value) : Nat := match v with | .string b => b.size | _ => 0
def PostC (w0 : World) (s : ByteArray) (e : Ending) (w' : World) : Prop := ∃ v0_ : Value, e = .returned (.tuple #[v0_, .int .i64 (readC s).2.1, .int .i64 (readC s).2.2]) ∧ Kd.S k41 41 w' w0.heap.size (fun _ => True) v0_ (readC s).1 ∧ Below w0.heap.size w0 w'
theorem PostC.of {w0 w' : World} {s : ByteArray} {l : List S41} {e n : Int} {v : Value} (h : readC s = (l, e, n)) (hS : Kd.S k41 41 w' w0.heap.size (fun _ => True) v l) (hB : Below w0.heap.size w0 w') : PostC w0 s (.returned (.tuple #[v, .int .i64 e, .int .i64 n])) w' :=
  ⟨v, by rw [h], by rw [h]; exact hS, hB⟩
structure BndC (s : ByteArray) (st : CS) (n : Nat) (t : List UInt8) : Prop where
  nt : n + t.length ≤ s.size
  out : st.out.length ≤ n
  fs : st.fs.length ≤ n
  f : BndF (2 * (s.size - t.length)) st.fs
def JC (w0 : World) (g : Nat) (s : ByteArray) : Nat → Act → World → Prop
  | 0, a, w => ∃ (n : Nat) (st : CS) (v0 v7 v11 vl vf : Value), FrC v0 vl (.pointer (some ⟨g, 0, none⟩)) v7 v11 a ∧ RcV w0 g vl vf st w ∧ restC st n [] = readC s ∧ st.out.length ≤ 4294967280
  | 1, a, w => ∃ (t : List UInt8) (n : Nat) (st : CS) (v7 vl vf : Value), FrC (.string (mkB t)) vl (.pointer (some ⟨g, 0, none⟩)) v7 (.int .i64 n) a ∧ RcV w0 g vl vf st w ∧ restC st n (linesA t) = readC s ∧ BndC s st n t
  | 2, a, w => ∃ (t : List UInt8) (n : Nat) (st : CS) (v7 vl vf : Value), FrC (.string (mkB t)) vl (.pointer (some ⟨g, 0, none⟩)) v7 (.int .i64 n) a ∧ RcV w0 g vl vf st w ∧ restC (gapC st) n (linesA t) = readC s ∧ BndC s (gapC st) n t ∧ st.out.length ≤ 4294967280
  | 3, a, w => ∃ (t b : List UInt8) (n : Nat) (st : CS) (vl vf : Value), FrC (.string (mkB t)) vl (.pointer (some ⟨g, 0, none⟩)) (.string (mkB b)) (.int .i64 n) a ∧ RcV w0 g vl vf st w ∧ (if st.fs = [] then (([], 210, (n : Int)) : List S41 × Int × Int) else restC ⟨st.out, st.line, moreC st.fs (trimC b)⟩ n (linesA t)) = readC s ∧ BndC s ⟨st.out, st.line, moreC st.fs (trimC b)⟩ n t ∧ b.length ≤ s.size ∧ BndF (2 * s.size) st.fs
  | _, _, _ => False
def muC (l : Nat) (a : Act) (_ : World) : Nat := match l with
  | 0 => 0
  | 1 => 2 * strSz (a.tmps.getD 0 undef) + 1
  | _ => 2 * strSz (a.tmps.getD 0 undef) + 2
def scopeOf (f : Func) : Code := match f.body with
  | some (.seq _ (.scope c)) => c
  | _ => .skip
noncomputable def bodyC : Code := scopeOf Tryd.f12
theorem labels (w0 : World) (g : Nat) (s : ByteArray) : ∀ l a w, JC w0 g s l a w → ∃ rest, findLabel bodyC l = some rest
  | 0, _, _, _ => ⟨_, rfl⟩
  | 1, _, _, _ => ⟨_, rfl⟩
  | 2, _, _, _ => ⟨_, rfl⟩
  | 3, _, _, _ => ⟨_, rfl⟩
  | _ + 4, _, _, h => h.elim
end Go.Proofs.YtbaiglikmneicaaDoor.P
