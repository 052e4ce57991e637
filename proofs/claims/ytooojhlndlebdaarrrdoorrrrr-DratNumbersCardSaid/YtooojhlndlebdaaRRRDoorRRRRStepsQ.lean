/- drat.Steps: what its iterator hands over: the steps that are read, one by one, each in memory of its own. No conditions. -/
import Derived.Test.YtooojhlndlebdaaRRRDoorRRRRSeqR
import Derived.Test.YtooojhlndlebdaaRRRDoorRRRREDratReadR
import Derived.Shelf.Abstract
import Derived.Shelf.RegionOpen
import Derived.OwnWalkIn
import Derived.TacticsInMore
import Derived.LoopNIn
import Derived.LoopIn
import Derived.Sort.BigQuietIn
set_option linter.unusedVariables false
set_option linter.unusedSimpArgs false
namespace Go.Proofs.YtooojhlndlebdaaRRRDoorRRRR.R
open Go.RowKit Go.Lib Go.Proofs.YtooojhlndlebdaaRRRDoorRRRRW.PrintWords Go.Proofs.YtooojhlndlebdaaRRRDoorRRRRW.PrintLast Go.Proofs.YtooojhlndlebdaaRRRDoorRRRRW.PrintMore
open Go.Proofs.YtooojhlndlebdaaRRRDoorRRRR.Q (KeepC KC RW SeqR postR)
attribute [local go_sem] Oper.semAt_some

/-- An element handed over: the step, and its literals' slice. -/
abbrev El := S33 × Value
def encE (x : El) : Array Value := #[.agg #[.bool x.1.f0, x.2]]
def owE (x : El) : Option Nat := x.2.ownBlock
/-- The next step of the list, its literals in a row of their own. -/
def RdS (l : List S33) (n₀ : Nat) (pre : List El) (x : El) (W : World) : Prop := l[pre.length]? = some x.1 ∧ Kd.R (Kd.int .i64) 3 W n₀ (fun _ => True) x.2 x.1.f1
theorem tag_elem {w : World} {base G n cap : Nat} {ok : Nat → Prop} {l : List S33} {f : Nat → Nat} (h : (Kd.tag f k33).R 33 w base ok (.slice (some ⟨G, 0, none⟩) n cap) l.zipIdx) (i : Nat) (hi : i < l.length) (hn : n = l.length) :
    ∃ v, w.cell? ⟨G, i * 2, none⟩ = some (.bool l[i].f0) ∧ w.cell? ⟨G, i * 2 + 1, none⟩ = some v ∧ Kd.R (Kd.int .i64) 3 w base (fun k => k ≠ G ∧ f k = i) v l[i].f1 := by
  obtain ⟨c, hcl, hM, hcc, _⟩ := Kd.R_elem h (z33, 0) ((i : Nat) : Int) (by omega) (by omega)
  rw [Int.toNat_natCast] at hM hcc
  have hg : l.zipIdx.getD i (z33, 0) = (l[i], i) := by
    rw [List.getD_eq_getElem?_getD, Kd.zip_at (List.getElem?_eq_getElem hi)]
    rfl
  rw [hg] at hM
  have hM2 : k33.M w base (fun k => (ok k ∧ k ≠ G) ∧ f k = i) l[i] c := hM
  obtain ⟨v, rfl, hv⟩ := k33_openM hM2
  exact ⟨v, hcc 0 _ rfl, hcc 1 _ rfl, Kd.R_mono hv (fun k hk => ⟨hk.1.2, hk.2⟩)⟩
/-- Where the literals of step j lie. -/
def rowAt (w : World) (G j : Nat) : Option Nat := match w.cell? ⟨G, j * 2 + 1, none⟩ with | some v => v.ownBlock | none => none
/-- Cells from n₀ on lie as they lay, but for the literals of the first i steps. -/
structure AG (w : World) (n₀ G i : Nat) (w' : World) : Prop where
  size : w.heap.size ≤ w'.heap.size
  same : ∀ (k : Nat) (o : Obj), n₀ ≤ k → w.heap[k]? = some o → o.isCells = true → (∀ j, j < i → some k ≠ rowAt w G j) → w'.heap[k]? = some o
theorem AG.below {w : World} {n₀ G i : Nat} {A B : World} (h : AG w n₀ G i A) (hb : Below A.heap.size A B) : AG w n₀ G i B :=
  ⟨Nat.le_trans h.size hb.size, fun k o h1 h2 h3 h4 => by
    have := h.same k o h1 h2 h3 h4
    exact (hb.block k (Array.getElem?_eq_some_iff.1 this).1).trans this⟩
theorem AG.round {w : World} {n₀ G i : Nat} {A B : World} {own : Option Nat} (h : AG w n₀ G i A) (hr : RW n₀ own A B) (ho : own = rowAt w G i) : AG w n₀ G (i + 1) B :=
  ⟨Nat.le_trans h.size hr.size, fun k o h1 h2 h3 h4 => hr.cells k o h1 (h.same k o h1 h2 h3 (fun j hj => h4 j (by omega))) h3 (by rw [ho]; exact h4 i (Nat.lt_succ_self _))⟩
/-- The next step's cells, and its row, where the earlier ones have been given away. -/
theorem next_elem {w : World} {base n₀ G n cap : Nat} {ok : Nat → Prop} {l : List S33} {f : Nat → Nat} (h : (Kd.tag f k33).R 33 w base ok (.slice (some ⟨G, 0, none⟩) n cap) l.zipIdx) (hn : n = l.length) (hb : n₀ ≤ base) (i : Nat) (hi : i < l.length) {w' : World} (ha : AG w n₀ G i w') :
    ∃ v, w'.cell? ⟨G, i * 2, none⟩ = some (.bool l[i].f0) ∧ w'.cell? ⟨G, i * 2 + 1, none⟩ = some v ∧ Kd.R (Kd.int .i64) 3 w' n₀ (fun _ => True) v l[i].f1 ∧ v.ownBlock = rowAt w G i := by
  obtain ⟨v, c0, c1, hv⟩ := tag_elem h i hi hn
  obtain ⟨g', cap', hvs, hbg, hlg, cells, hcells⟩ := Kd.R_form h (by rw [List.length_zipIdx]; omega)
  have hG : g' = G := by injection hvs with h1 _ _; injection h1 with h1; injection h1 with h1; exact h1.symm
  subst hG
  have hrow : ∀ j, (hj : j < l.length) → ∃ u : Value, rowAt w g' j = u.ownBlock ∧ ∀ k, u.ownBlock = some k → k ≠ g' ∧ f k = j := fun j hj => by
    obtain ⟨u, _, d1, hu⟩ := tag_elem h j hj hn
    exact ⟨u, by unfold rowAt; rw [d1], fun k hk => hu.1 k hk⟩
  have hGs : w'.heap[g']? = some (.cells cells 33 (0, 0)) := ha.same g' _ (by omega) hcells rfl (fun j hj e => by
    obtain ⟨u, hu, hk⟩ := hrow j (by omega)
    rw [hu] at e
    exact (hk g' e.symm).1 rfl)
  have hcell : ∀ o, w'.cell? ⟨g', o, none⟩ = w.cell? ⟨g', o, none⟩ := fun o => by rw [blk_cell hGs, blk_cell hcells]
  refine ⟨v, (hcell _).trans c0, (hcell _).trans c1, ?_, by unfold rowAt; rw [c1]⟩
  have hb2 := Kd.R_bound hv
  refine Kd.R_lower (Kd.R_mono (Kd.R_step hb2 (fun k hk hlt => ?_)) (fun _ _ => trivial)) hb
  obtain ⟨⟨hkg, hkf⟩, hkb, _, q, _, cs, hcs⟩ := hk
  refine (ha.same k _ (by omega) hcs rfl (fun j hj e => ?_)).trans hcs.symm
  obtain ⟨u, hu, hk2⟩ := hrow j (by omega)
  rw [hu] at e
  have := (hk2 k e.symm).2
  omega
set_option maxHeartbeats 8000000 in
set_option maxRecDepth 100000 in
theorem steps_seq (s : ByteArray) (hs : s.size ≤ 4294967280) (n : Nat) (g : Nat) (w : World) (hg : w.heap[g]? = some (.cells #[.string s] 9 (0, 0))) (hE : Env w) :
    SeqR Fence.wide n Tryd.prog 33 #[.pointer (some ⟨g, 0, none⟩)] encE (RdS (readF s).1.steps) owE (fun xs => xs.map (·.1) = (readF s).1.steps) (fun pre => pre.map (·.1) <+: (readF s).1.steps) w := by
  intro l J Jx W n₀ hW hn hJ hJx hY h0
  have hrw := fun W hE => read_walk W W.heap.size s _ (rd_new W) hE hs
  obtain ⟨st, hst⟩ : ∃ st, (readF s).1 = st := ⟨_, rfl⟩
  rw [hst] at hY hrw
  rw [hst]
  clear hst
  have hgW : W.heap[g]? = some (.cells #[.string s] 9 (0, 0)) := (hW.block g (Array.getElem?_eq_some_iff.1 hg).1).trans hg
  have HEW := Aside0.mk (hE.below hW)
  have HJ := Aside0.mk hJ
  have HJX := Aside0.mk hJx
  have HY := Aside0.mk hY
  have H0 := Aside0.mk h0
  have HN := Aside0.mk hn
  have HGW := Aside0.mk hgW
  have cg : W.cell? ⟨g, 0, none⟩ = some (.string s) := (blk_cell hgW 0).trans rfl
  have hglt : g < W.heap.size := blk_lt hgW
  have HRW := Aside0.mk (hrw W HEW.out)
  clear hrw
  clear hW hn hJ hJx hY h0 hgW hE hg
  refine callsIn_of_wp Tryd.func33 rfl trivial ?_ rfl
  simp only [Tryd.ntmps33, List.size_toArray, List.length_cons, List.length_nil, Nat.reduceAdd, Nat.reduceSub, Array.replicate_succ, Array.replicate_zero, List.push_toArray, List.append_toArray, List.nil_append, List.cons_append]
  gi_wp2
  refine ⟨trivial, fun h => (by cases h), (callsIn_wide.2 HRW.out).mono ?_⟩
  rintro e w2 ⟨rfl, hR⟩
  obtain ⟨ws, vs, vl, hV⟩ := hR
  obtain ⟨f, hf⟩ := hV.s
  obtain ⟨Ao, co, eo⟩ := Kd.R_slice (Kd.S_R hV.s)
  subst eo
  have c0 : w2.cell? ⟨W.heap.size, 0, none⟩ = some (.slice Ao st.steps.length co) := (blk_cell hV.blk 0).trans rfl
  have HF := Aside0.mk hf
  have HB2 := Aside0.mk hV.below
  have hmax : st.steps.length ≤ 9223372036854775807 := Kd.C_max (Kd.R_reads' (Kd.S_R hV.s)).2.2
  have HMX := Aside0.mk hmax
  clear hV hf hmax
  gi_wp2
  gi_loopw [16] (fun iv wr => ∃ pre : List El, iv = .int .i64 (pre.length : Nat) ∧ Aside0 (pre.map (·.1) = st.steps.take pre.length) ∧ pre.length ≤ st.steps.length ∧ Aside0 (J pre wr) ∧ Aside0 (∀ G, Ao = some ⟨G, 0, none⟩ → AG w2 n₀ G pre.length wr)) (fun iv _ => st.steps.length - (RowKit.intOf iv).toNat)
  case atStart => exact ⟨[], rfl, ⟨by simp⟩, Nat.zero_le _, ⟨HJ.out _ _ _ H0.out HB2.out⟩, ⟨fun G _ => ⟨Nat.le_refl _, fun _ _ _ h _ _ => h⟩⟩⟩
  case round =>
    obtain ⟨pre, rfl, HP, hle, HJP, HAG⟩ := hrel
    by_cases hlt : pre.length < st.steps.length
    · obtain ⟨G, rfl⟩ : ∃ G, Ao = some ⟨G, 0, none⟩ := by
        obtain ⟨g', cap', hv, _⟩ := Kd.R_form HF.out (by rw [List.length_zipIdx]; omega)
        injection hv with h1 _ _
        exact ⟨g', h1⟩
      have hag := HAG.out G rfl
      have hpb : pre.length < 9223372036854775807 := by have := HMX.out; omega
      obtain ⟨v, x0, x1, hR, ho⟩ := next_elem HF.out rfl HN.out pre.length hlt hag
      have HRV := Aside0.mk hR
      have HO := Aside0.mk ho
      have hge : st.steps[pre.length]? = some st.steps[pre.length] := List.getElem?_eq_getElem hlt
      obtain ⟨x, hx⟩ : ∃ x, st.steps[pre.length] = x := ⟨_, rfl⟩
      rw [hx] at x0 HRV hge
      have HGE := Aside0.mk hge
      obtain ⟨Av, cv, ev⟩ := Kd.R_slice HRV.out
      subst ev
      have hgl : G < wr.heap.size := by
        have := World.block_lt_of_cell? _ _ x0
        exact this
      clear hag hR ho hge hx
      have hbw : Below wr.heap.size wr (wr.alloc (.cells #[.bool x.f0, .slice Av x.f1.length cv] 33)) := (Below.refl _ wr).alloc (Nat.le_refl _) _
      obtain ⟨fn, tmps, assign, body, hy, hRd⟩ := HY.out pre (x, .slice Av x.f1.length cv) _ (HJ.out _ _ _ HJP.out hbw) ⟨HGE.out, Kd.R_below HRV.out hbw⟩
      dsimp only [encE] at hy
      have HBW := Aside0.mk hbw
      have HRD := Aside0.mk hRd
      clear hbw hRd
      gi_wp2
      refine ⟨fun h => (by cases h), HRD.out.mono ?_⟩
      have hpx : (pre ++ [((x, .slice Av x.f1.length cv) : El)]).map (·.1) = st.steps.take (pre.length + 1) := by
        have e1 := HP.out
        have e2 : st.steps.take (pre.length + 1) = st.steps.take pre.length ++ [x] := by rw [List.take_add_one, HGE.out]; rfl
        rw [List.map_append, e1, e2]
        rfl
      have HPX := Aside0.mk hpx
      clear hpx
      rintro e W3 (⟨rfl, hJ3, hk3⟩ | ⟨rfl, hx3⟩)
      · have HJ3 := Aside0.mk hJ3
        have HAG3 := Aside0.mk (show ∀ G', (some ⟨G, 0, none⟩ : Option Addr) = some ⟨G', 0, none⟩ → AG w2 n₀ G' (pre.length + 1) W3 from fun G' hG' => by
          injection hG' with h1
          injection h1 with h1
          subst h1
          exact ((HAG.out G rfl).below HBW.out).round hk3 HO.out)
        clear hJ3 hk3
        gi_wp2
        go_roundw
        case rel => exact ⟨pre ++ [(x, .slice Av x.f1.length cv)], by simp, by rw [List.length_append]; exact HPX, by simp; omega, HJ3, by rw [List.length_append]; exact HAG3⟩
        case measure => simp [RowKit.intOf]; omega
      · have HX3 := Aside0.mk hx3
        clear hx3
        gi_wp2
        refine bodyPost_ret (results_none rfl _ _ _) rfl ?_
        exact ⟨⟨_, rfl⟩, .inr ⟨pre ++ [(x, .slice Av x.f1.length cv)], by rw [HPX.out]; exact List.take_prefix _ _, HX3.out⟩⟩
    · have HE2 := Aside0.mk (show pre.map (·.1) = st.steps by rw [HP.out]; exact List.take_of_length_le (by omega))
      have hpl : pre.length = st.steps.length := by omega
      have HPL := Aside0.mk hpl
      rw [hpl]
      clear hpl hlt hle
      gi_wp2
      go_end0
      exact ⟨⟨_, rfl⟩, .inl ⟨pre, HE2.out, HJP.out⟩⟩
end Go.Proofs.YtooojhlndlebdaaRRRDoorRRRR.R
