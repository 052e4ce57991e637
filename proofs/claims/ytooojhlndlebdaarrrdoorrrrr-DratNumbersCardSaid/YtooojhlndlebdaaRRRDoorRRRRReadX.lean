/- drat's (*reader).read: the walk: what is read is readF, for every text of at most 4294967280 bytes. No conditions. -/
import Derived.Test.YtooojhlndlebdaaRRRDoorRRRRReadW
set_option linter.unusedVariables false
set_option linter.unusedSimpArgs false
namespace Go.Proofs.YtooojhlndlebdaaRRRDoorRRRR.R
open Go.RowKit Go.Lib Go.Proofs.YtooojhlndlebdaaRRRDoorRRRRW.PrintWords Go.Proofs.YtooojhlndlebdaaRRRDoorRRRRW.PrintLast Go.Proofs.YtooojhlndlebdaaRRRDoorRRRRW.PrintMore

def strOf (v : Value) : Nat := match v with | .string b => b.size | _ => 0
theorem blank_pays (w : World) : PredAt Tryd.prog 42 #[] (fun r : Nat => Value.int .i32 (r : Int)) blankR w := fun W x _ => blank_walk x W
/-- The reader's state, whatever the frame over rows of strings. -/
def RdE (w0 : World) (g : Nat) (st : St) (w : World) : Prop := ∃ ws, Rd w0 ws g st w
theorem RdE.on {w0 w w' : World} {g : Nat} {st : St} (h : RdE w0 g st w) (hb : Below w.heap.size w w') : RdE w0 g st w' := by
  obtain ⟨ws, vs, vl, h⟩ := h
  exact ⟨ws, vs, vl, h.on hb⟩
theorem RdE.base {w0 w : World} {g : Nat} {st : St} (h : RdE w0 g st w) : Rd w0 w g st w := by
  obtain ⟨ws, vs, vl, h⟩ := h
  exact ⟨vs, vl, h.blk, h.s, h.l, h.below, h.le, K9.refl w⟩
theorem takesF_drop (ws : List ByteArray) (st : St) (j : Nat) (hj : j < ws.length) : takesF st (ws.drop j) = match takeF st ws[j] with
    | some st' => takesF st' (ws.drop (j + 1))
    | none => (st, false) := by
  rw [List.drop_eq_getElem_cons hj, takesF]
  cases takeF st ws[j] <;> rfl
theorem RdE.env {w0 w : World} {g : Nat} {st : St} (h : RdE w0 g st w) (hE : Env w0) : Env w := by
  obtain ⟨ws, vs, vl, h⟩ := h
  exact hE.below h.below
theorem words_row {w w' : World} {base A : Nat} {ws : List ByteArray} {n c : Nat} (h : w.ownsRow base 9 1 (.slice (some ⟨A, 0, none⟩) n c) n (ws.map Value.string)) (hk : K9 w w') (j : Nat) (hj : j < ws.length) : w'.cell? ⟨A, j, none⟩ = some (.string ws[j]) := by
  have h1 := h.cellAt j (by have := h.1; rw [List.length_map] at this; omega)
  rcases h.2 with ⟨h', _⟩ | ⟨g', cap', cur, h', _, hg, _⟩
  · simp at h'
  · simp only [Value.slice.injEq, Option.some.injEq, Addr.mk.injEq, and_true, true_and] at h'
    obtain ⟨rfl, rfl⟩ := h'
    have h2 := hk _ _ hg
    rw [Lib.cell_of_heap h2]
    rw [Lib.cell_of_heap hg] at h1
    rw [h1]
    simp [hj]

set_option maxHeartbeats 8000000 in
set_option maxRecDepth 100000 in
theorem read_walk (w0 : World) (g : Nat) (s : ByteArray) (w : World) (hR : RdE w0 g st0 w) (hE : Env w0) (hs : s.size ≤ 4294967280) :
    Calls Tryd.prog 30 #[.pointer (some ⟨g, 0, none⟩), .string s] w fun e w' => e = .returned (.int .i64 ((readF s).2 : Nat)) ∧ RdE w0 g (readF s).1 w' := by
  have HR := Aside0.mk hR
  have HE := Aside0.mk hE
  have HF := Aside0.mk (show restF st0 0 s.data.toList = readF s by unfold restF readF; simp)
  clear hR hE
  have hmf : ∀ (fn : Fn) (first cap : Array Value) (w : World), (Instr.makeFunc fn first cap).run Tryd.prog w = .ok (.func fn first cap) w := fun _ _ _ _ => rfl
  go_enter Tryd.func30, Tryd.ntmps30
  go_wp2_with fail
  go_loopw [1, 6] (fun sv av w' => ∃ (l : List UInt8) (n : Nat) (st : St), sv = .string ⟨l.toArray⟩ ∧ av = .int .i64 n ∧ n + l.length ≤ s.size ∧ Aside0 (restF st n l = readF s) ∧ Aside0 (st.steps.length + 2 * l.length ≤ 2 * s.size ∧ st.lits.length + 2 * l.length ≤ 2 * s.size) ∧ Aside0 (RdE w0 g st w')) (fun sv _ _ => strOf sv)
  case atStart => exact ⟨s.data.toList, 0, st0, rfl, rfl, by simp, HF, ⟨by simp [st0], by simp [st0]⟩, HR⟩
  case round =>
    obtain ⟨l, n, st, rfl, rfl, hnl, hF, hB, hW⟩ := hrel
    by_cases hl : l = []
    · subst hl
      obtain ⟨vs, vl, hR⟩ := hW.out.base
      have b1 : wr.cell? ⟨g, 1, none⟩ = some (.bool st.begun) := (blk_cell hR.blk 1).trans rfl
      have hf := hF.out
      rw [restF_nil] at hf
      cases hb : st.begun with
      | true =>
        rw [hb] at b1 hf
        rw [if_pos rfl] at hf
        have HD := Aside0.mk hW.out
        clear hR
        go_wp2_with fail
        go_ret
        rw [← hf]
        exact ⟨rfl, HD.out⟩
      | false =>
        rw [hb] at b1 hf
        rw [if_neg (by decide)] at hf
        have HD := Aside0.mk hW.out
        clear hR
        go_wp2_with fail
        go_ret
        rw [← hf]
        exact ⟨rfl, HD.out⟩
    · obtain ⟨a, r, q, hc⟩ : ∃ a r q, cut l [10] = (a, r, q) := ⟨_, _, _, rfl⟩
      obtain ⟨m, hm⟩ := (hW.out.env HE.out).max
      have hcl := cut_length l
      rw [hc] at hcl
      have hpos := List.length_pos_iff.2 hl
      have hrl : a.length + r.length ≤ l.length ∧ r.length < l.length := by
        have h2 := congrArg (fun x : List UInt8 × List UInt8 × Bool => x.2.1.length) hc
        have h3 := congrArg (fun x : List UInt8 × List UInt8 × Bool => x.1.length) hc
        simp only at h2 h3
        rw [← h2, ← h3]
        unfold cut
        split
        · simp only [List.length_drop, List.length_take, List.length_cons, List.length_nil]; omega
        · simp only [List.length_nil]; omega
      have hf := hF.out
      rw [restF_cons st n l hl, hc] at hf
      simp only at hf
      have CUT := Aside0.mk (show ∀ W : World, W.cell? ⟨1, 0, none⟩ = some (.int .i64 m) → Calls Tryd.prog 38 #[.string ⟨l.toArray⟩, .string ⟨#[10]⟩] W fun e w' => e = .returned (.tuple #[.string ⟨a.toArray⟩, .string ⟨r.toArray⟩, .bool q]) ∧ ∃ n, w' = W.drewN n from fun W hW => by
        have := Tryd.strings_Cut ⟨l.toArray⟩ ⟨#[10]⟩ m W (by show l.length < _; omega) hW
        simpa [hc] using this)
      have FF := Aside0.mk hf
      have HC := Aside0.mk hc
      clear hf hc
      have k1 : (l == []) = false := beq_eq_false_iff_ne.mpr hl
      have k2 : (l != []) = true := bne_iff_ne.mpr hl
      have k3 : ((⟨l.toArray⟩ : ByteArray).toList == ([] : List UInt8)) = false := beq_eq_false_iff_ne.mpr (by rw [ByteArray.toList_eq]; exact hl)
      have k4 : ((⟨l.toArray⟩ : ByteArray).toList != ([] : List UInt8)) = true := by rw [bne, k3]; rfl
      go_wp2_with fail
      refine (CUT.out _ hm).mono ?_
      rintro e w2 ⟨rfl, nd, rfl⟩
      go_wp2_with fail
      refine (Tryd.strings_HasPrefix ⟨a.toArray⟩ ⟨#[99]⟩ _).mono ?_
      rintro e w3 ⟨rfl, rfl⟩
      have hW2 := Aside0.mk (hW.out.on (pw_below_drewN (Below.refl _ _) nd))
      cases hp : hasPrefix a [99] with
      | true =>
        have hline : lineF st a = (st, remF (mk_ a)) := by unfold lineF; rw [if_pos hp]
        have hf := FF.out
        rw [hline] at hf
        simp only at hf
        go_wp2_with fail
        refine (remark_walk ⟨a.toArray⟩ _ (by show a.length ≤ _; omega)).mono ?_
        rintro e w4 ⟨rfl, hb4⟩
        have hW4 := Aside0.mk (hW2.out.on hb4)
        clear hb4
        cases hrm : remF (mk_ a) with
        | true =>
          rw [hrm, if_pos rfl] at hf
          have HFF := Aside0.mk hf
          have hrm' : remF ⟨a.toArray⟩ = true := hrm
          clear hf
          go_wp2_with fail
          go_roundw
          case rel => exact ⟨r, n + 1, st, rfl, by go_num, by omega, HFF, ⟨by have := hB.out.1; omega, by have := hB.out.2; omega⟩, hW4⟩
          case measure => show r.length < l.length; omega
        | false =>
          rw [hrm, if_neg (by decide)] at hf
          have hrm' : remF ⟨a.toArray⟩ = false := hrm
          have HFF := Aside0.mk hf
          clear hf
          go_wp2_with fail
          go_ret
          rw [← HFF.out]
          exact ⟨rfl, hW4.out⟩
      | false =>
        have hline : lineF st a = takesF st (wordsB (mk_ a)) := by unfold lineF; rw [if_neg (by rw [hp]; decide)]
        have hf := FF.out
        rw [hline] at hf
        obtain ⟨ws, hws⟩ : ∃ ws, wordsB (mk_ a) = ws := ⟨_, rfl⟩
        have hwl := wordsB_length (mk_ a)
        have hwz := wordsB_size (mk_ a)
        have hma : (mk_ a).size = a.length := rfl
        rw [hws] at hf hwl hwz
        have FLD := Tryd.strings_FieldsFunc 42 #[] (fun args w => rfl) blankR ⟨a.toArray⟩ (wr.drewN nd) (by show a.length ≤ _; omega) (blank_pays _)
        rw [goFields_eq, show wordsB (⟨a.toArray⟩ : ByteArray) = ws from hws] at FLD
        have HFF := Aside0.mk hf
        have HWZ := Aside0.mk hwz
        have HWS := Aside0.mk hws
        have HFLD := Aside0.mk FLD
        clear hf hwz hws FLD
        go_wp2_with fail
        refine HFLD.out.mono ?_
        rintro e w5 ⟨A, rfl, hA, hrow, hb5⟩
        have HROW := Aside0.mk hrow
        have HR5 := Aside0.mk (hW2.out.on hb5).base
        clear hrow hA hb5
        go_wp2_with fail
        go_loopw [34] (fun jv w' => ∃ (j : Nat) (st' : St), jv = .int .i64 j ∧ j ≤ ws.length ∧ Aside0 (takesF st' (ws.drop j) = takesF st ws) ∧ Aside0 (st'.steps.length ≤ st.steps.length + j ∧ st'.lits.length ≤ st.lits.length + j) ∧ Aside0 (Rd w0 w5 g st' w')) (fun jv _ => ws.length - (intOf jv).toNat)
        case atStart => exact ⟨0, st, rfl, Nat.zero_le _, ⟨rfl⟩, ⟨by omega, by omega⟩, HR5⟩
        case round =>
          rename_i wq
          obtain ⟨j, st', rfl, hj, hT, hB2, hR2⟩ := hrel
          by_cases hlt : j < ws.length
          · obtain ⟨vs, vl, hV⟩ := hR2.out
            have hx := words_row HROW.out hV.k9 j hlt
            have hE2 := HE.out.below hV.below
            have hsz := HWZ.out ws[j] (List.getElem_mem hlt)
            have HV := Aside0.mk hV
            have HE2 := Aside0.mk hE2
            have b1 := hB.out
            have b2 := hB2.out
            have ht0 := takesF_drop ws st' j hlt
            have HT0 := Aside0.mk ht0
            clear hV hE2 ht0
            go_wp2_with fail
            refine (take_walk w0 w5 g vs vl st' ws[j] _ HV.out HE2.out (by omega) (by omega) (by omega)).mono ?_
            rintro e w6 (⟨ht, rfl, hR6⟩ | ⟨st'', ht, rfl, hR6⟩)
            · have htk := hT.out
              rw [HT0.out, ht] at htk
              simp only at htk
              have hf := HFF.out
              rw [← htk] at hf
              simp only [Bool.false_eq_true, if_false] at hf
              have HF2 := Aside0.mk hf
              have HR6 := Aside0.mk hR6
              clear ht htk hf hR6
              go_wp2_with fail
              go_ret
              rw [← HF2.out]
              exact ⟨rfl, _, HR6.out⟩
            · have htk := hT.out
              rw [HT0.out, ht] at htk
              simp only at htk
              have hl2 := takeF_length ht
              have HTK := Aside0.mk htk
              have HR6 := Aside0.mk hR6
              clear ht htk hR6
              go_wp2_with fail
              go_roundw
              case rel => exact ⟨j + 1, st'', by go_num, by omega, HTK, ⟨by omega, by omega⟩, HR6⟩
              case measure => simp [intOf]; omega
          · obtain rfl : j = ws.length := by omega
            have htk := hT.out
            rw [List.drop_length, takesF] at htk
            have hf := HFF.out
            rw [← htk] at hf
            simp only [if_true] at hf
            have HF2 := Aside0.mk hf
            have b1 := hB.out
            have b2 := hB2.out
            clear htk hf
            go_wp2_with fail
            go_roundw
            case rel => exact ⟨r, n + 1, st', rfl, by go_num, by omega, HF2, ⟨by omega, by omega⟩, ⟨_, hR2.out⟩⟩
            case measure => show r.length < l.length; omega
end Go.Proofs.YtooojhlndlebdaaRRRDoorRRRR.R
