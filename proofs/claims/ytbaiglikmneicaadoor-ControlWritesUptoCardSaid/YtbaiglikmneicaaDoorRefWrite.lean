/- The reference's Write tells what the program's tells: begun (the loop over a value's pieces). No conditions. -/
import Derived.Test.YtbaiglikmneicaaDoorPx13W
import Derived.Test.YtbaiglikmneicaaDoorRefForm
set_option linter.unusedVariables false
set_option linter.unusedSimpArgs false
namespace Go.Proofs.YtbaiglikmneicaaDoor.P
open Go.RowKit Go.Lib Go.Proofs.YtbaiglikmneicaaDoorW.PrintWords Go.Proofs.YtbaiglikmneicaaDoorW.PrintLast Go.Proofs.YtbaiglikmneicaaDoorW.PrintMore
open Go.Proofs.YtbaiglikmneicaaDoor.R (mkB mkB_size mkB_data pieces)

def intsW (A : List UInt8) : List Int := A.map fun b => (b.toNat : Int)
theorem intsW_app (A B : List UInt8) : intsW (A ++ B) = intsW A ++ intsW B := by unfold intsW; rw [List.map_append]
theorem intsW_len (A : List UInt8) : (intsW A).length = A.length := by unfold intsW; rw [List.length_map]
theorem intsW_mk (A : List UInt8) : bytesOf (mkB A) = intsW A := rfl
theorem refw_l2 (x : List S41) (i j : Int) (P : List (List UInt8)) (q d : Nat) : ∀ (m : Nat) (A : List UInt8), P.length - m = d → 1 ≤ m → m ≤ P.length → P.length ≤ 4294967290 → (∀ p ∈ P.drop m, p ≠ []) → (A ++ piecesW m (P.drop m) ++ [10]).length < 140737488355328 →
    depotref21_Write.l2 (q + d + 1) x (intsW A) i j (P.map mkB) (m : Int) = depotref21_Write.l1 q x (intsW (A ++ piecesW m (P.drop m) ++ [10])) i (wrap64 (j + 1)) := by
  induction d with
  | zero =>
    intro m A hd h1 hm hP hne hlen
    have e : P.drop m = [] := List.drop_of_length_le (by omega)
    rw [e, piecesW, List.append_nil] at hlen ⊢
    rw [List.length_append] at hlen
    rw [depotref21_Write.l2, if_neg (by rw [List.length_map]; omega), if_pos (by rw [intsW_len]; omega), intsW_app]
    rfl
  | succ d ih =>
    intro m A hd h1 hm hP hne hlen
    have hlt : m < P.length := by omega
    have hp : P[m] ≠ [] := hne _ (by rw [List.drop_eq_getElem_cons hlt]; exact List.mem_cons_self)
    have ep : pieceW m P[m] = [10, 32] ++ P[m] := by
      unfold pieceW
      rw [if_pos (by omega), if_neg hp]
      rfl
    have e : A ++ piecesW m (P.drop m) = (A ++ [10, 32] ++ P[m]) ++ piecesW (m + 1) (P.drop (m + 1)) := by
      rw [List.drop_eq_getElem_cons hlt, piecesW, ep]
      simp
    rw [e] at hlen ⊢
    have hl2 : (A ++ [10, 32]).length + P[m].length < 140737488355328 := by
      have := hlen
      rw [List.length_append, List.length_append, List.length_append] at this
      omega
    have hl1 : A.length + 2 < 140737488355328 := by
      rw [List.length_append] at hl2
      simp at hl2
      omega
    have hb : bytesOf (⟨#[10, 32]⟩ : ByteArray) = intsW [10, 32] := rfl
    have hw := Aside0.mk (show wrap64 ((m : Int) + 1) = ((m + 1 : Nat) : Int) from by unfold wrap64; omega)
    rw [show q + (d + 1) + 1 = (q + d + 1) + 1 by omega, depotref21_Write.l2, if_pos (by rw [List.length_map]; omega), if_pos (by rw [intsW_len]; exact hl1)]
    simp only [Option.bind_some]
    rw [if_pos (by omega), rd_map P m hlt, hb, ← intsW_app, if_pos (by rw [intsW_len, mkB_size]; exact hl2), intsW_mk, ← intsW_app, hw.out]
    exact ih (m + 1) _ (by omega) (by omega) (by omega) hP (fun p hp' => hne p (by rw [List.drop_eq_getElem_cons hlt]; exact List.mem_cons_of_mem _ hp')) hlen
theorem strOf_ints (A : List UInt8) : strOfNums (intsW A) = mkB A := by
  apply ByteArray.ext
  rw [show (strOfNums (intsW A)).data = ((strOfNums (intsW A)).data.toList).toArray from by simp, strOfNums_data]
  unfold intsW mkB
  rw [List.map_map]
  congr 1
  refine (List.map_congr_left (g := id) (fun c _ => ?_)).trans (List.map_id _)
  show UInt8.ofNat ((c.toNat : Int).toNat) = c
  rw [Int.toNat_natCast]
  simp
theorem refw_field (x : List S41) (i : Nat) (hi : i < x.length) (f : S50) (j : Nat) (hj : j < x[i].f1.length) (hf : x[i].f1[j] = f) (hsz : f.f1.size ≤ 4294967280) (hn0 : f.f0.size ≤ 4294967280) (hok : piecesOk (pieces f.f1.data.toList) = true) (A : List UInt8) (hA : (A ++ fieldW f).length < 140737488355328) (k : Nat) (hk : f.f1.size + f.f1.size + 4 < k) :
    ∃ q, k ≤ q + f.f1.size + 4 ∧ depotref21_Write.l1 k x (intsW A) (i : Int) (j : Int) = depotref21_Write.l1 q x (intsW (A ++ fieldW f)) (i : Int) (wrap64 ((j : Int) + 1)) := by
  obtain ⟨V, hV⟩ : ∃ V, f.f1.data.toList = V := ⟨_, rfl⟩
  obtain ⟨N, hN⟩ : ∃ N, f.f0.data.toList = N := ⟨_, rfl⟩
  have hVl : V.length = f.f1.size := by rw [← hV]; exact (size_eq _).symm
  have hNl : N.length = f.f0.size := by rw [← hN]; exact (size_eq _).symm
  have e1 : f.f1 = mkB V := by rw [← hV]; exact (mkB_data _).symm
  have e0 : f.f0 = mkB N := by rw [← hN]; exact (mkB_data _).symm
  have hpl := pieces_len V
  obtain ⟨k, rfl⟩ : ∃ k', k = k' + 1 := ⟨k - 1, by omega⟩
  have hP := refpieces_is V (by omega) k (by omega)
  unfold fieldW at hA ⊢
  rw [hV] at hok
  rw [hV, hN] at hA ⊢
  have hpn := R.pieces_ne V
  obtain ⟨p, ps, hpp⟩ := List.exists_cons_of_ne_nil hpn
  rw [hpp] at hP hok hA hpl ⊢
  have hne : ∀ r ∈ ps, r ≠ [] := fun r hr => by
    have h := hok
    unfold piecesOk at h
    rw [Bool.and_eq_true] at h
    have := List.all_eq_true.1 h.2 r hr
    unfold innerP at this
    rw [Bool.and_eq_true] at this
    exact of_decide_eq_true this.2
  obtain ⟨q, hq⟩ : ∃ q, k = q + ps.length + 1 + 1 := ⟨k - ps.length - 2, by have := hpl.1; simp at this; omega⟩
  have hps : ps.length ≤ f.f1.size := by have := hpl.1; simp at this; omega
  refine ⟨q, by omega, ?_⟩
  have eW : piecesW 0 (p :: ps) = (if p = [] then [] else 32 :: p) ++ piecesW 1 ps := by
    rw [piecesW]; unfold pieceW; rw [if_neg (Nat.lt_irrefl 0)]; rfl
  rw [eW] at hA ⊢
  have hlen := hA
  rw [List.length_append, List.length_append, List.length_append, List.length_append, List.length_append] at hlen
  simp only [List.length_cons, List.length_nil] at hlen
  have hgo := refw_l2 x (i : Int) (j : Int) (p :: ps) q ps.length 1
  rw [depotref21_Write.l1, if_pos (by omega), if_pos (by omega), rdS_nat hi, if_pos (by omega), if_pos (by omega), rdF_nat hj, hf, e1, hP]
  simp only [Option.bind_some]
  rw [e0, if_pos (by rw [intsW_len, mkB_size]; omega), intsW_mk, ← intsW_app]
  try simp only [Option.bind_some]
  rw [if_pos (by rw [intsW_len, List.length_append]; omega), show ([58] : List Int) = intsW [58] from rfl, ← intsW_app]
  try simp only [Option.bind_some]
  have hr0 : rdOf ByteArray.empty (List.map mkB (p :: ps)) 0 = mkB p := rd_map (p :: ps) 0 (by simp)
  rw [if_pos (by simp), hr0]
  by_cases hp : p = []
  · subst hp
    rw [if_neg (by rw [mkB_size]; simp), hq, depotref21_Write.j3]
    have := hgo (A ++ N ++ [58]) (by simp) (Nat.le_refl _) (by simp) (by simp; omega) (by simpa using hne) (by simp at hlen ⊢; omega)
    refine (show depotref21_Write.l2 (q + ps.length + 1) x (intsW (A ++ N ++ [58])) (i : Int) (j : Int) (List.map mkB ([] :: ps)) 1 = _ from this).trans ?_
    simp
  · have hpos := List.length_pos_iff.2 hp
    rw [if_neg hp] at hlen ⊢
    rw [List.length_cons] at hlen
    rw [if_pos (show ((mkB p).size : Int) > 0 by rw [mkB_size]; omega)]
    rw [if_pos (by rw [intsW_len, List.length_append, List.length_append]; simp; omega)]
    try simp only [Option.bind_some]
    rw [show ([32] : List Int) = intsW [32] from rfl, ← intsW_app, if_pos (by rw [intsW_len, mkB_size, List.length_append, List.length_append, List.length_append]; simp at hlen ⊢; omega), intsW_mk, ← intsW_app, hq, depotref21_Write.j3]
    have := hgo (A ++ N ++ [58] ++ [32] ++ p) (by simp) (Nat.le_refl _) (by simp) (by simp; omega) (by simpa using hne) (by simp at hlen ⊢; omega)
    refine (show depotref21_Write.l2 (q + ps.length + 1) x (intsW (A ++ N ++ [58] ++ [32] ++ p)) (i : Int) (j : Int) (List.map mkB (p :: ps)) 1 = _ from this).trans ?_
    simp
theorem refw_l1 (x : List S41) (i : Nat) (hi : i < x.length) (hx : x.length ≤ 4294967280) (M : Nat) (hM : M ≤ 4294967280) (hl : x[i].f1.length ≤ M) (hs : ∀ f ∈ x[i].f1, smallF M f ∧ piecesOk (pieces f.f1.data.toList) = true) (F : List UInt8) (R : ByteArray × Int) (K0 : Nat) (hK : 2 * M + 4 ≤ K0) (H : ∀ k, K0 < k → depotref21_Write.l0 k x (intsW F) ((i + 1 : Nat) : Int) = some R) (hF : F.length < 140737488355328) (d : Nat) : ∀ (j : Nat) (A : List UInt8), j ≤ x[i].f1.length → x[i].f1.length - j = d → A ++ fieldsW (x[i].f1.drop j) = F → ∀ k, K0 + d * (M + 4) + 1 < k → depotref21_Write.l1 k x (intsW A) (i : Int) (j : Int) = some R := by
  induction d with
  | zero =>
    intro j A hj hd hA k hk
    obtain ⟨k, rfl⟩ : ∃ k', k = k' + 1 := ⟨k - 1, by omega⟩
    have hw := Aside0.mk (show wrap64 ((i : Int) + 1) = ((i + 1 : Nat) : Int) from by unfold wrap64; omega)
    have e : A = F := by
      rw [List.drop_of_length_le (by omega)] at hA
      simpa [fieldsW] using hA
    rw [depotref21_Write.l1, if_pos (by omega), if_pos (by omega), rdS_nat hi, if_neg (by omega), hw.out, e]
    exact H k (by omega)
  | succ d ih =>
    intro j A hj hd hA k hk
    have hlt : j < x[i].f1.length := by omega
    have hsf := hs _ (List.getElem_mem hlt)
    obtain ⟨f, hf⟩ : ∃ f, x[i].f1[j] = f := ⟨_, rfl⟩
    have e : (A ++ fieldW f) ++ fieldsW (x[i].f1.drop (j + 1)) = F := by
      rw [← hA, List.drop_eq_getElem_cons hlt, hf]
      unfold fieldsW
      simp
    rw [hf] at hsf
    have h0 := hsf.1.1
    have h1 := hsf.1.2
    have hd2 : (d + 1) * (M + 4) = d * (M + 4) + (M + 4) := by rw [Nat.add_mul, Nat.one_mul]
    obtain ⟨q, hq, he⟩ := refw_field x i hi f j hlt hf (by omega) (by omega) hsf.2 A (by have := congrArg List.length e; rw [List.length_append] at this; omega) k (by omega)
    have hw := Aside0.mk (show wrap64 ((j : Int) + 1) = ((j + 1 : Nat) : Int) from by unfold wrap64; omega)
    rw [he, hw.out]
    exact ih (j + 1) _ (by omega) (by omega) e q (by omega)
theorem refw_l0 (x : List S41) (hx : x.length ≤ 4294967280) (M : Nat) (hM : M ≤ 4294967280) (hl : ∀ s ∈ x, s.f1.length ≤ M) (hs : ∀ s ∈ x, ∀ f ∈ s.f1, smallF M f ∧ piecesOk (pieces f.f1.data.toList) = true) (F : List UInt8) (hF : F.length < 140737488355328) (d : Nat) : ∀ (i : Nat) (A : List UInt8), i ≤ x.length → x.length - i = d → A ++ stanzasW i (x.drop i) = F → ∀ k, d * (M * (M + 4) + 5) + 2 * M + 5 < k → depotref21_Write.l0 k x (intsW A) (i : Int) = some (mkB F, 0) := by
  induction d with
  | zero =>
    intro i A hi hd hA k hk
    obtain ⟨k, rfl⟩ : ∃ k', k = k' + 1 := ⟨k - 1, by omega⟩
    have e : A = F := by
      rw [List.drop_of_length_le (by omega), stanzasW, List.append_nil] at hA
      exact hA
    rw [depotref21_Write.l0, if_neg (by omega), strOf_ints, e]
  | succ d ih =>
    intro i A hi hd hA k hk
    have hlt : i < x.length := by omega
    have hd2 : (d + 1) * (M * (M + 4) + 5) = d * (M * (M + 4) + 5) + (M * (M + 4) + 5) := by rw [Nat.add_mul, Nat.one_mul]
    rw [hd2] at hk
    obtain ⟨k, rfl⟩ : ∃ k', k = k' + 2 := ⟨k - 2, by omega⟩
    have hli := hl _ (List.getElem_mem hlt)
    have hmul : x[i].f1.length * (M + 4) ≤ M * (M + 4) := Nat.mul_le_mul_right _ hli
    have hW : A ++ stanzasW i (x.drop i) = (A ++ (if 0 < i then [10] else []) ++ fieldsW x[i].f1) ++ stanzasW (i + 1) (x.drop (i + 1)) := by
      rw [List.drop_eq_getElem_cons hlt, stanzasW]
      unfold stanzaW
      simp
    rw [hW] at hA
    obtain ⟨G, hG⟩ : ∃ G, A ++ (if 0 < i then [10] else []) ++ fieldsW x[i].f1 = G := ⟨_, rfl⟩
    rw [hG] at hA
    have hGl : G.length < 140737488355328 := by
      have := congrArg List.length hA
      rw [List.length_append] at this
      omega
    have H : ∀ k, d * (M * (M + 4) + 5) + 2 * M + 5 < k → depotref21_Write.l0 k x (intsW G) ((i + 1 : Nat) : Int) = some (mkB F, 0) := fun k hk => ih (i + 1) G (by omega) (by omega) hA k hk
    have key := fun B (hB : B ++ fieldsW x[i].f1 = G) => refw_l1 x i hlt hx M hM hli (hs _ (List.getElem_mem hlt)) G (mkB F, 0) _ (by omega) H hGl x[i].f1.length 0 B (by omega) (by omega) (by rw [List.drop_zero]; exact hB) k (by omega)
    rw [depotref21_Write.l0, if_pos (by omega)]
    by_cases h0 : 0 < i
    · rw [if_pos h0] at hG
      have hAl : A.length < 140737488355328 := by
        have := congrArg List.length hG
        rw [List.length_append, List.length_append] at this
        omega
      rw [if_pos (by omega), if_pos (by rw [intsW_len]; exact hAl), depotref21_Write.j1, show ([10] : List Int) = intsW [10] from rfl, ← intsW_app]
      exact key _ hG
    · rw [if_neg h0, List.append_nil] at hG
      rw [if_neg (by omega), depotref21_Write.j1]
      exact key _ hG
end Go.Proofs.YtbaiglikmneicaaDoor.P
