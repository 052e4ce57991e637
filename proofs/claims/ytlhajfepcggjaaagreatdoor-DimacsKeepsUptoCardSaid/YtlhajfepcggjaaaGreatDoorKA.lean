/- depotkit.ApartBools: true of rows of truths that lie apart. No conditions. depotkit.ApartInts: true of rows that lie apart. No conditions. Great regions whose order is drawn: that the lexical order stands for all, by their tables. No conditions. depotkit.ApartRows: true of lists of rows that lie apart. No conditions. depotkit.ApartClauses and ApartFormulas: true of answers whose rows lie apart. No conditions. -/
import Derived.Test.YtlhajfepcggjaaaGreatDoorKM
import Derived.Test.YtlhajfepcggjaaaGreatDoorRx0
import Derived.LoopN
import Derived.Test.YtlhajfepcggjaaaGreatDoorRx5
import Derived.Test.YtlhajfepcggjaaaGreatDoorWK
import Derived.Test.YtlhajfepcggjaaaGreatDoorProg
import Derived.Laws.AppendOwnNone
set_option linter.unusedVariables false
set_option linter.unusedSimpArgs false
namespace Go.Proofs.YtlhajfepcggjaaaGreatDoor.KP
open Go Go.RowKit Go.Proofs.YtlhajfepcggjaaaGreatDoorW.PrintWords Go.Proofs.YtlhajfepcggjaaaGreatDoorW.PrintLast Go.Proofs.YtlhajfepcggjaaaGreatDoorW.PrintMore

/-- The mark of a place. -/
def mkb (k i : Nat) : Bool := ((13 * (k : Int) + 5 * (i : Int)) % 3 == 0)
def MB (_ : World) (k i : Nat) (cs : List Value) : Prop := cs = [.bool (mkb k i)]
theorem MB_ok : MarkM MB 1 9999 :=
 ⟨fun h => by rw [h]; rfl, fun h q hq => by
  rw [h] at hq
  simp only [List.mem_cons, List.not_mem_nil, or_false] at hq
  subst hq
  rfl, fun _ h => h⟩
/-- What the grown rows hold, in the second and third loop. -/
def RMB (W : World) (j n : Nat) (xs : List Value) : Prop := Cont MB 1 W j (n + 64) xs
/-- .. in the fourth and fifth. -/
def RTB (W : World) (j n : Nat) (xs : List Value) : Prop := ∃ ys zs, xs = ys ++ zs ∧ Cont MB 1 W j n ys
theorem RMB_ok : Stay 9999 RMB := ⟨fun q h => Cont.keep MB_ok h q⟩
theorem RTB_ok : Stay 9999 RTB := ⟨fun q h => by
 obtain ⟨ys, zs, h1, h2⟩ := h
 exact ⟨ys, zs, h1, Cont.keep MB_ok h2 q⟩⟩
theorem info4B : (Tryz.prog.info? 4).map (fun i => (i.zero, i.size, i.bytes)) = some (some (.bool false), 1, 1) := by kernel_rfl
theorem info25B : (Tryz.prog.info? 25).map (fun i => (i.zero, i.size, i.bytes)) = some (some (.slice none 0 0), 1, 24) := by kernel_rfl
theorem cell_MB {w W : World} {g n m c k i : Nat} {xs : List Value} (h : w.ownsRow 0 4 1 (.slice (some ⟨g, 0, none⟩) n c) m xs) (hc : Cont MB 1 W k m xs) (hnm : n = m) (hi : i < n) : w.cell? ⟨g, i, none⟩ = some (.bool ((13 * (k : Int) + 5 * (i : Int)) % 3 == 0)) := by
 have h1 := own_cont (q := 0) h hc hnm hi (by decide)
 have h2 : (xs.drop (i * 1)).take 1 = [.bool (mkb k i)] := hc.at_ i (by omega)
 rw [h2, Nat.mul_one] at h1
 exact h1
set_option maxHeartbeats 16000000 in
set_option maxRecDepth 100000 in
theorem apartBools_calls (V : Value) (vs : List Value) (bO : Nat) (w0 : World) (hO : w0.ownsRow bO 25 1 V vs.length vs) (hrows : ∀ (j : Nat) (v : Value), vs[j]? = some v → ∃ xs, w0.ownsRow 0 4 1 v (lenV v) xs) (hap : apart vs) (hlen : vs.length ≤ 1000000000) (hln : ∀ v ∈ vs, lenV v ≤ 1000000000) :
  Calls Tryz.prog 35 #[V] w0 fun e w' => e = .returned (.bool true) ∧ Rest vs w0 w' := by
 obtain ⟨AO, cO, rfl⟩ := own_slice hO
 have HO := Aside0.mk hO
 have HP := Aside0.mk (P1.start (MK := MB) hrows)
 have HAP := Aside0.mk hap
 have HLN := Aside0.mk hln
 have HR := Aside0.mk (Rest.refl vs w0)
 -- the outer row lies through all
 have houter := fun (W : World) (h : Rest vs w0 W) => own_keep hO (fun k hk => h.same k (own_lt hO k hk).2 (fun v hv hb => by
  obtain ⟨j, hj⟩ := List.mem_iff_getElem?.1 hv
  obtain ⟨xs, hx⟩ := hrows j v hj
  obtain ⟨c1, h1⟩ := own_typed hO k hk
  obtain ⟨c2, h2⟩ := own_typed hx k hb
  exact blk_ne h1 h2 (by decide) rfl))
 have HOU := Aside0.mk houter
 clear hO hrows hap hln houter
 go_enter Tryz.func35, Tryz.ntmps35
 go_wp2
 go_loopw [3] (fun kv wr => ∃ k : Nat, kv = .int .i64 (k : Nat) ∧ k ≤ vs.length ∧ Aside0 (P1 MB 4 1 vs k 0 wr) ∧ Aside0 (Rest vs w0 wr)) (fun kv _ => vs.length - (RowKit.intOf kv).toNat)
 case atStart => exact ⟨0, rfl, Nat.zero_le _, HP, HR⟩
 case round =>
  obtain ⟨k, rfl, hk, HPk, HRk⟩ := hrel
  by_cases hlt : k < vs.length
  ·have hov := HOU.out _ HRk.out
   have hvk : vs[k]? = some vs[k] := List.getElem?_eq_getElem hlt
   obtain ⟨v, hv⟩ : ∃ v, vs[k] = v := ⟨_, rfl⟩
   rw [hv] at hvk
   obtain ⟨GO, capO, eO, _, _⟩ := hov.form (by omega)
   have eA : AO = some ⟨GO, 0, none⟩ := by injection eO
   have xk : wr.cell? ⟨GO, k, none⟩ = some v := by
    rw [eA] at hov
    exact (own_cell hov (by omega)).trans hvk
   obtain ⟨xs0, hx0, _⟩ := HPk.out.row k v hvk
   obtain ⟨Av, cv, ev⟩ := own_slice hx0
   obtain ⟨n, hn⟩ : ∃ n, lenV v = n := ⟨_, rfl⟩
   have hnl : n ≤ 1000000000 := by rw [← hn]; exact HLN.out v (by rw [← hv]; exact List.getElem_mem hlt)
   rw [hn] at ev
   have HVK := Aside0.mk hvk
   have HXK := Aside0.mk xk
   have EA := Aside0.mk eA
   subst ev
   clear hx0 hv hov eO hn
   rw [EA.out]
   clear xk hvk eA
   have xk := HXK.out
   go_wp2
   go_loopw [4] (fun iv wr => ∃ i : Nat, iv = .int .i64 (i : Nat) ∧ i ≤ n ∧ Aside0 (P1 MB 4 1 vs k i wr) ∧ Aside0 (Rest vs w0 wr)) (fun iv _ => n - (RowKit.intOf iv).toNat)
   case atStart => exact ⟨0, rfl, Nat.zero_le _, HPk, HRk⟩
   case round =>
    obtain ⟨i, rfl, hi, HPi, HRi⟩ := hrel
    clear xk
    have hov := HOU.out _ HRi.out
    have xk : wr.cell? ⟨GO, k, none⟩ = some (.slice Av n cv) := by
     rw [EA.out] at hov
     exact (own_cell hov (by omega)).trans HVK.out
    clear hov
    by_cases hin : i < n
    ·obtain ⟨xs, hx, _, _⟩ := HPi.out.row k _ HVK.out
     obtain ⟨g, cap, eg, _, _⟩ := hx.form (by show 0 < n; omega)
     have eg2 : Av = some ⟨g, 0, none⟩ := by injection eg
     subst eg2
     have HX := Aside0.mk hx
     have hc0 := own_cell (i := i) hx (by show i < n * 1; omega)
     obtain ⟨curg, hcg, hbg, hng, hcpg, hsg, _, _⟩ := own_at hx
     obtain ⟨xo, hxo⟩ : ∃ xo, xs[i]? = some xo := ⟨_, List.getElem?_eq_getElem (by have := own_len hx; omega)⟩
     rw [hxo] at hc0
     have fg := blk_frozen hcg i
     clear hx eg hcg hxo
     go_wp2
     go_roundw
     case rel => exact ⟨i + 1, by simp, by omega, ⟨by have h := HPi.out.seg MB_ok (by decide) HAP.out HVK.out hin (seg := [.bool (mkb k i)]) rfl; rw [Nat.mul_one] at h; exact h⟩, ⟨show Rest vs w0 (wr.setCells g i [.bool (mkb k i)]) from HRi.out.seg (List.mem_of_getElem? HVK.out) rfl⟩⟩
     case measure => simp [RowKit.intOf]; omega
    ·have hie : i = n := by omega
     subst hie
     go_wp2
     go_roundw
     case rel => exact ⟨k + 1, by simp, by omega, ⟨HPi.out.next HVK.out⟩, HRi⟩
     case measure => simp [RowKit.intOf]; omega
  ·have hke : k = vs.length := by omega
   subst hke
   clear hk hlt
   have HP2 := Aside0.mk (P2.start (R := RMB) HAP.out HPk.out)
   go_wp2
   go_loopw [5, 6] (fun gsv kv wr => ∃ (k : Nat) (us : List Value) (gsV : Value), gsV = gsv ∧ kv = .int .i64 (k : Nat) ∧ k ≤ vs.length ∧ Aside0 (us.length = k) ∧ Aside0 (wr.ownsRow w0.heap.size 25 1 gsV k us) ∧ Aside0 (P2 MB RMB 4 1 vs us wr) ∧ Aside0 (Rest vs w0 wr)) (fun _ kv _ => vs.length - (RowKit.intOf kv).toNat)
   case atStart => exact ⟨0, [], _, rfl, rfl, Nat.zero_le _, ⟨rfl⟩, ⟨World.ownsRow_nil _ _ _ _⟩, HP2, HRk⟩
   case round =>
    clear HP2 HRk HPk
    obtain ⟨k, us, gsV, rfl, rfl, hk, HUL, HGS, HP2, HR2⟩ := hrel
    by_cases hlt : k < vs.length
    ·have hov := HOU.out _ HR2.out
     have hvk : vs[k]? = some vs[k] := List.getElem?_eq_getElem hlt
     obtain ⟨v, hv⟩ : ∃ v, vs[k] = v := ⟨_, rfl⟩
     rw [hv] at hvk
     obtain ⟨GO, capO, eO, _, _⟩ := hov.form (by omega)
     have eA : AO = some ⟨GO, 0, none⟩ := by injection eO
     obtain ⟨xs0, hx0, _⟩ := HP2.out.row k v hvk
     obtain ⟨Av, cv, ev⟩ := own_slice hx0
     obtain ⟨n, hn⟩ : ∃ n, lenV v = n := ⟨_, rfl⟩
     have hnl : n ≤ 1000000000 := by rw [← hn]; exact HLN.out v (by rw [← hv]; exact List.getElem_mem hlt)
     rw [hn] at ev
     subst ev
     have HVK := Aside0.mk hvk
     have EA := Aside0.mk eA
     have xkk : ∀ W, Rest vs w0 W → W.cell? ⟨GO, k, none⟩ = some (.slice Av n cv) := fun W h => by
      have h1 := HOU.out W h
      rw [EA.out] at h1
      exact (own_cell h1 (by omega)).trans HVK.out
     have XKK := Aside0.mk xkk
     have xk := XKK.out _ HR2.out
     clear hx0 hv hov eO hn hvk eA xkk
     rw [EA.out]
     go_wp2
     go_loopw [7, 8] (fun gv iv wr => ∃ (i : Nat) (gV : Value), gV = gv ∧ iv = .int .i64 (i : Nat) ∧ i ≤ 64 ∧ Aside0 (PG MB RMB 4 1 w0.heap.size vs us k n i gV wr) ∧ Aside0 (wr.ownsRow w0.heap.size 25 1 gsV k us) ∧ Aside0 (Rest vs w0 wr)) (fun _ iv _ => 64 - (RowKit.intOf iv).toNat)
     case atStart => exact ⟨0, _, rfl, rfl, Nat.zero_le _, ⟨PG.start HVK.out HP2.out⟩, HGS, HR2⟩
     case round =>
      clear xk
      obtain ⟨i, gV, rfl, rfl, hi, HPG, HGS2, HR3⟩ := hrel
      by_cases hin : i < 64
      ·have xk := XKK.out _ HR3.out
       obtain ⟨xsg, hxsg, hcsg⟩ := HPG.out.g
       obtain ⟨Ag, cg, eg⟩ := own_slice hxsg
       clear hxsg hcsg
       subst eg
       have hba := alloc_below wr (.cells #[.bool (mkb k (n + i))] 4)
       have HPGm := HPG
       have HGSm := HGS2
       have HRm := HR3
       clear hba
       go_wp2_with (first | (at_builtin; refine wpList_append_PG (MK := MB) (e := 4) (sz := 1) (bytes := 1) (tI := 9999) MB_ok RMB_ok (by decide) rfl (.tmp 58) (.tmp 72) 25 rfl Tryz.underlying25 info4B rfl (by decide) (seg := [.bool (mkb k (n + i))]) (m := n + i) rfl (Nat.le_of_eq HUL.out) rfl rfl rfl HPGm.out HRm.out.size (by unfold maxLen; omega) (by omega) ?_))
       intro gV2 w2 hPG2 hg2
       have HR2b := Aside0.mk (HRm.out.grown HPGm.out hg2)
       have HGS2b := Aside0.mk (own_keep HGSm.out fun b hb => hg2.block b (own_lt HGSm.out b hb).2 (fun e => by
        obtain ⟨c1, h1⟩ := own_typed HGSm.out b hb
        obtain ⟨xsm, hxm, _⟩ := HPGm.out.g
        obtain ⟨c2, h2⟩ := own_typed hxm b e.symm
        exact blk_ne h1 h2 (by decide) rfl))
       have HPG2 := Aside0.mk hPG2
       clear hPG2 hg2
       go_wp2_with fail
       go_roundw
       case rel => exact ⟨i + 1, gV2, rfl, by simp, by omega, HPG2, HGS2b, HR2b⟩
       case measure => simp [RowKit.intOf]; omega
      ·have hie : i = 64 := by omega
       subst hie
       obtain ⟨xsg, hxsg, hcsg⟩ := HPG.out.g
       obtain ⟨Ag, cg, eg⟩ := own_slice hxsg
       clear hxsg hcsg
       subst eg
       have hpd := HPG.out.done HUL.out HVK.out rfl (fun xs h => h)
       have HPD := Aside0.mk hpd
       clear hpd
       go_wp2_with (first | (at_builtin; refine wpList_append_val (e := 25) (bytes := 24) rfl (.tmp 74) (.tmp 76) 69 rfl Tryz.underlying69 info25B rfl (gsV := gsV) rfl rfl rfl HGS2.out HR3.out.size (by unfold maxLen; omega) (by omega) ?_))
       intro gsV2 w2 hgs2 hg2
       have HP2b := Aside0.mk (HPD.out.val MB_ok RMB_ok (by decide) (by decide) HGS2.out hg2)
       have HR2b := Aside0.mk (HR3.out.val HGS2.out hg2)
       have HGS2b := Aside0.mk hgs2
       have HUL2 := Aside0.mk (show (us ++ [Value.slice Ag (n + 64) cg]).length = k + 1 by rw [List.length_append, HUL.out]; rfl)
       clear hgs2 hg2
       go_wp2_with fail
       go_roundw
       case rel => exact ⟨k + 1, _, gsV2, rfl, by simp, by omega, HUL2, HGS2b, HP2b, HR2b⟩
       case measure => simp [RowKit.intOf]; omega
    ·have hke : k = vs.length := by omega
     subst hke
     clear hk hlt
     go_wp2
     go_loopw [9] (fun kv wr => ∃ k : Nat, kv = .int .i64 (k : Nat) ∧ k ≤ vs.length ∧ Aside0 (wr.ownsRow w0.heap.size 25 1 gsV vs.length us) ∧ Aside0 (P2 MB RMB 4 1 vs us wr) ∧ Aside0 (Rest vs w0 wr)) (fun kv _ => vs.length - (RowKit.intOf kv).toNat)
     case atStart => exact ⟨0, rfl, Nat.zero_le _, HGS, HP2, HR2⟩
     case round =>
      clear HP2 HR2 HGS
      obtain ⟨k, rfl, hk, HGS, HP2, HR2⟩ := hrel
      obtain ⟨Ags, cgs, egs⟩ := own_slice HGS.out
      subst egs
      by_cases hlt : k < vs.length
      ·have hov := HOU.out _ HR2.out
       have hvk : vs[k]? = some vs[k] := List.getElem?_eq_getElem hlt
       obtain ⟨v, hv⟩ : ∃ v, vs[k] = v := ⟨_, rfl⟩
       rw [hv] at hvk
       have huk : us[k]? = some (us[k]'(by rw [HUL.out]; exact hlt)) := List.getElem?_eq_getElem _
       obtain ⟨u, hu⟩ : ∃ u, us[k]'(by rw [HUL.out]; exact hlt) = u := ⟨_, rfl⟩
       rw [hu] at huk
       obtain ⟨GO, capO, eO, _, _⟩ := hov.form (by omega)
       have eA : AO = some ⟨GO, 0, none⟩ := by injection eO
       obtain ⟨GG, capG, eG, _, _⟩ := HGS.out.form (by omega)
       have eAG : Ags = some ⟨GG, 0, none⟩ := by injection eG
       subst eAG
       obtain ⟨xs0, hx0, _⟩ := HP2.out.row k v hvk
       obtain ⟨Av, cv, ev⟩ := own_slice hx0
       obtain ⟨xg, hg0, hxg⟩ := HP2.out.got k u v huk hvk
       clear hxg
       obtain ⟨n, hn⟩ : ∃ n, lenV v = n := ⟨_, rfl⟩
       have hnl : n ≤ 1000000000 := by rw [← hn]; exact HLN.out v (by rw [← hv]; exact List.getElem_mem hlt)
       rw [hn] at ev hg0
       subst ev
       obtain ⟨g, cu, eu, _, _⟩ := hg0.form (by omega)
       subst eu
       have HVK := Aside0.mk hvk
       have HUK := Aside0.mk huk
       have EA := Aside0.mk eA
       have XKK := Aside0.mk (fun (W : World) (h : Rest vs w0 W) => show W.cell? ⟨GO, k, none⟩ = some (.slice Av n cv) by
        have h1 := HOU.out W h
        rw [EA.out] at h1
        exact (own_cell h1 (by omega)).trans HVK.out)
       have YKK := Aside0.mk (fun (W : World) (h : W.ownsRow w0.heap.size 25 1 (.slice (some ⟨GG, 0, none⟩) vs.length cgs) vs.length us) => show W.cell? ⟨GG, k, none⟩ = some (.slice (some ⟨g, 0, none⟩) (n + 64) cu) from (own_cell h (by omega)).trans HUK.out)
       have xk := XKK.out _ HR2.out
       have yk := YKK.out _ HGS.out
       clear hx0 hg0 hv hu hov eO eG hn hvk huk eA
       rw [EA.out]
       go_wp2
       go_loopw [10] (fun iv wr => ∃ i : Nat, iv = .int .i64 (i : Nat) ∧ i ≤ n + 64 ∧ Aside0 (wr.ownsRow w0.heap.size 25 1 (.slice (some ⟨GG, 0, none⟩) vs.length cgs) vs.length us) ∧ Aside0 (P2 MB RMB 4 1 vs us wr) ∧ Aside0 (Rest vs w0 wr)) (fun iv _ => n + 64 - (RowKit.intOf iv).toNat)
       case atStart => exact ⟨0, rfl, Nat.zero_le _, HGS, HP2, HR2⟩
       case round =>
        clear xk yk
        obtain ⟨i, rfl, hi, HGS3, HP3, HR3⟩ := hrel
        have xk := XKK.out _ HR3.out
        have yk := YKK.out _ HGS3.out
        by_cases hin : i < n + 64
        ·obtain ⟨xg3, hg3, hxg3⟩ := HP3.out.got k _ _ HUK.out HVK.out
         obtain ⟨xv3, hv3, hcv3⟩ := HP3.out.row k _ HVK.out
         have hu0 := (cell_MB hg3 hxg3 rfl hin)
         by_cases hiv : i < n
         case' pos =>
          obtain ⟨g1, c1, e1, _, _⟩ := hv3.form (by show 0 < n; omega)
          have e2 : Av = some ⟨g1, 0, none⟩ := by injection e1
          subst e2
          have hv0 := (cell_MB hv3 hcv3 rfl hiv)
          have hd0 : decide (i < n) = true := decide_eq_true hiv
          have hd1 : decide ((i : Int) < (n : Int)) = true := decide_eq_true (by omega)
          clear e1
         case' neg =>
          have hd0 : decide (i < n) = false := decide_eq_false hiv
          have hd1 : decide ((i : Int) < (n : Int)) = false := decide_eq_false (by omega)
         all_goals
          clear hg3 hv3
          go_wp2
          go_roundw
          case rel => exact ⟨i + 1, by simp, by omega, HGS3, HP3, HR3⟩
          case measure => simp [RowKit.intOf]; omega
        ·have hie : i = n + 64 := by omega
         subst hie
         go_wp2
         go_roundw
         case rel => exact ⟨k + 1, by simp, by omega, HGS3, HP3, HR3⟩
         case measure => simp [RowKit.intOf]; omega
      ·have hke : k = vs.length := by omega
       subst hke
       have HP0 := Aside0.mk (HP2.out.rows (R' := RTB))
       clear hk hlt HP2
       go_wp2
       go_loopw [11] (fun kv wr => ∃ (k : Nat) (us : List Value), kv = .int .i64 (k : Nat) ∧ k ≤ vs.length ∧ Aside0 (us.length = vs.length) ∧ Aside0 (wr.ownsRow w0.heap.size 25 1 (.slice Ags vs.length cgs) vs.length us) ∧ Aside0 (P2 MB RTB 4 1 vs (us.take k) wr) ∧ Aside0 (Rest vs w0 wr)) (fun kv _ => vs.length - (RowKit.intOf kv).toNat)
       case atStart => exact ⟨0, us, rfl, Nat.zero_le _, HUL, HGS, HP0, HR2⟩
       case round =>
        clear HP0 HR2 HGS HUL
        obtain ⟨k, us, rfl, hk, HUL, HGS, HP2, HR2⟩ := hrel
        by_cases hlt : k < vs.length
        ·have HTL := Aside0.mk (show (us.take k).length = k by rw [List.length_take, HUL.out]; omega)
         obtain ⟨GO, capO, eO, _, _⟩ := (HOU.out _ HR2.out).form (by omega)
         have eA : AO = some ⟨GO, 0, none⟩ := by injection eO
         obtain ⟨GG, capG, eG, _, _⟩ := HGS.out.form (by omega)
         have eAG : Ags = some ⟨GG, 0, none⟩ := by injection eG
         subst eAG
         have EA := Aside0.mk eA
         clear eO eG eA
         rw [EA.out]
         go_wp2
         go_loopw [12, 13] (fun mv iv wr => ∃ (i : Nat) (mV : Value), mV = mv ∧ iv = .int .i64 (i : Nat) ∧ i ≤ 64 ∧ Aside0 (PG MB RTB 4 1 w0.heap.size vs (us.take k) (k + vs.length) 0 i mV wr) ∧ Aside0 (wr.ownsRow w0.heap.size 25 1 (.slice (some ⟨GG, 0, none⟩) vs.length cgs) vs.length us) ∧ Aside0 (Rest vs w0 wr)) (fun _ iv _ => 64 - (RowKit.intOf iv).toNat)
         case atStart => exact ⟨0, _, rfl, rfl, Nat.zero_le _, ⟨PG.nil HP2.out⟩, HGS, HR2⟩
         case round =>
          clear HP2 HGS HR2
          obtain ⟨i, mV, rfl, rfl, hi, HPG, HGS2, HR3⟩ := hrel
          by_cases hin : i < 64
          ·have HPGm := HPG
           have HGSm := HGS2
           have HRm := HR3
           obtain ⟨xsq, hxq, _⟩ := HPGm.out.g
           obtain ⟨Am, cm, em⟩ := own_slice hxq
           clear hxq
           rw [Nat.zero_add] at em
           subst em
           go_wp2_with (first | (at_builtin; refine wpList_append_PG (MK := MB) (e := 4) (sz := 1) (bytes := 1) (tI := 9999) MB_ok RTB_ok (by decide) rfl (.tmp 146) (.tmp 157) 25 rfl Tryz.underlying25 info4B rfl (by decide) (seg := [.bool (mkb (k + vs.length) i)]) (m := i) (Nat.zero_add i).symm (by rw [HTL.out]; omega) rfl rfl rfl HPGm.out HRm.out.size (by unfold maxLen; omega) (by omega) ?_))
           intro mV2 w2 hPG2 hg2
           have HR2b := Aside0.mk (HRm.out.grown HPGm.out hg2)
           have HGS2b := Aside0.mk (own_keep HGSm.out fun b hb => hg2.block b (own_lt HGSm.out b hb).2 (fun e => by
            obtain ⟨c1, h1⟩ := own_typed HGSm.out b hb
            obtain ⟨xsm, hxm, _⟩ := HPGm.out.g
            obtain ⟨c2, h2⟩ := own_typed hxm b e.symm
            exact blk_ne h1 h2 (by decide) rfl))
           have HPG2 := Aside0.mk hPG2
           clear hPG2 hg2
           go_wp2_with fail
           go_roundw
           case rel => exact ⟨i + 1, mV2, rfl, by simp, by omega, HPG2, HGS2b, HR2b⟩
           case measure => simp [RowKit.intOf]; omega
          ·have hie : i = 64 := by omega
           subst hie
           obtain ⟨xm, hmg, hcm⟩ := HPG.out.g
           rw [Nat.zero_add] at hmg hcm
           obtain ⟨gm, cm, em, _, _⟩ := hmg.form (by decide)
           subst em
           have HMG := Aside0.mk hmg
           have hvk : vs[k]? = some vs[k] := List.getElem?_eq_getElem hlt
           obtain ⟨v, hv⟩ : ∃ v, vs[k] = v := ⟨_, rfl⟩
           rw [hv] at hvk
           have hov := HOU.out _ HR3.out
           obtain ⟨xs0, hx0, _⟩ := HPG.out.p.row k v hvk
           obtain ⟨Av, cv, ev⟩ := own_slice hx0
           obtain ⟨n, hn⟩ : ∃ n, lenV v = n := ⟨_, rfl⟩
           have hnl : n ≤ 1000000000 := by rw [← hn]; exact HLN.out v (by rw [← hv]; exact List.getElem_mem hlt)
           rw [hn] at ev
           subst ev
           have HVK := Aside0.mk hvk
           have xk : wr.cell? ⟨GO, k, none⟩ = some (.slice Av n cv) := by
            rw [EA.out] at hov
            exact (own_cell hov (by omega)).trans HVK.out
           clear hmg hv hov hx0 hn hvk
           go_wp2_with (first | (at_builtin; refine wpList_append_many (MK := MB) (e := 4) (sz := 1) (bytes := 1) (tI := 9999) MB_ok RTB_ok (by decide) rfl (.tmp 164) (.tmp 165) 25 rfl Tryz.underlying25 info4B rfl (by decide) HTL.out HVK.out rfl rfl HMG.out (hcm.one MB_ok (by decide)) HPG.out.p (fun W ys h => ⟨ys, xm, rfl, h⟩) (by unfold maxLen; omega) (by omega) ?_))
           intro gV2 w2 hP2 hg2 ho2
           have hkk : (us.take k ++ [gV2])[k]? = some gV2 := by
            have h := HTL.out
            rw [List.getElem?_append_right (by omega), h, Nat.sub_self]
            rfl
           obtain ⟨xs2, hx2, _⟩ := hP2.got k gV2 _ hkk HVK.out
           obtain ⟨A2, c2, e2⟩ := own_slice hx2
           have hgs : w2.ownsRow w0.heap.size 25 1 (.slice (some ⟨GG, 0, none⟩) vs.length cgs) vs.length us := own_keep HGS2.out fun b hb => hg2.block b (own_lt HGS2.out b hb).2 (fun e => by
            obtain ⟨c1, h1⟩ := own_typed HGS2.out b hb
            obtain ⟨xsr, hxr, _⟩ := HPG.out.p.row k _ HVK.out
            obtain ⟨c2, h2⟩ := own_typed hxr b e.symm
            exact blk_ne h1 h2 (by decide) rfl)
           have yk : w2.cell? ⟨GG, k, none⟩ = us[k]? := own_cell hgs (by omega)
           rw [List.getElem?_eq_getElem (show k < us.length by rw [HUL.out]; exact hlt)] at yk
           obtain ⟨curG, hcG, hBG, _⟩ := own_at hgs
           have fk := blk_frozen hcG k
           have HR4 := Aside0.mk (HR3.out.vrow (List.mem_of_getElem? HVK.out) hg2)
           have HGS4 := Aside0.mk hgs
           have HP4 := Aside0.mk hP2
           have HCG := Aside0.mk hcG
           have HBG := Aside0.mk hBG
           subst e2
           clear hP2 hg2 ho2 hkk hx2 hgs hcG hBG xk
           go_wp2_with fail
           have hseg := own_seg HGS4.out (o := k) (seg := [Value.slice A2 (lenV (.slice Av n cv) + 64) c2]) (by show k + 1 ≤ vs.length * 1; omega)
           have hut : (us.take k ++ [Value.slice A2 (lenV (.slice Av n cv) + 64) c2] ++ us.drop (k + [Value.slice A2 (lenV (.slice Av n cv) + 64) c2].length)).take (k + 1) = us.take k ++ [Value.slice A2 (lenV (.slice Av n cv) + 64) c2] := by
            have h := HTL.out
            rw [List.take_append_of_le_length (by rw [List.length_append, h]; simp), List.take_of_length_le (by rw [List.length_append, h]; simp)]
           have hP5 : P2 MB RTB 4 1 vs (us.take k ++ [Value.slice A2 (lenV (.slice Av n cv) + 64) c2]) (w2.setCells GG k [Value.slice A2 (lenV (.slice Av n cv) + 64) c2]) := HP4.out.keep MB_ok RTB_ok (fun j b hj hb => below_seg (by
            rintro rfl
            obtain ⟨c1, h1⟩ := (HP4.out.lt hj).2
            exact blk_ne h1 HCG.out (by decide) rfl)) (Kp.seg (cur' := []) HCG.out (by decide))
           go_roundw
           case rel => exact ⟨k + 1, _, by simp, by omega, ⟨by have h := own_len hseg; rw [Nat.mul_one] at h; exact h⟩, ⟨hseg⟩, ⟨by rw [hut]; exact hP5⟩, ⟨show Rest vs w0 (w2.setCells GG k [Value.slice A2 (lenV (.slice Av n cv) + 64) c2]) from HR4.out.far HBG.out⟩⟩
           case measure => simp [RowKit.intOf]; omega
        ·have hke : k = vs.length := by omega
         subst hke
         have HP5 := Aside0.mk (show P2 MB RTB 4 1 vs us wr by
          have h := HP2.out
          rwa [List.take_of_length_le (by rw [HUL.out]; exact Nat.le_refl _)] at h)
         clear hk hlt HP2
         go_wp2
         go_loopw [14] (fun kv wr => ∃ k : Nat, kv = .int .i64 (k : Nat) ∧ k ≤ vs.length ∧ Aside0 (wr.ownsRow w0.heap.size 25 1 (.slice Ags vs.length cgs) vs.length us) ∧ Aside0 (P2 MB RTB 4 1 vs us wr) ∧ Aside0 (Rest vs w0 wr)) (fun kv _ => vs.length - (RowKit.intOf kv).toNat)
         case atStart => exact ⟨0, rfl, Nat.zero_le _, HGS, HP5, HR2⟩
         case round =>
          clear HP5 HR2 HGS
          obtain ⟨k, rfl, hk, HGS, HP2, HR2⟩ := hrel
          by_cases hlt : k < vs.length
          ·have hov := HOU.out _ HR2.out
           have hvk : vs[k]? = some vs[k] := List.getElem?_eq_getElem hlt
           obtain ⟨v, hv⟩ : ∃ v, vs[k] = v := ⟨_, rfl⟩
           rw [hv] at hvk
           have huk : us[k]? = some (us[k]'(by rw [HUL.out]; exact hlt)) := List.getElem?_eq_getElem _
           obtain ⟨u, hu⟩ : ∃ u, us[k]'(by rw [HUL.out]; exact hlt) = u := ⟨_, rfl⟩
           rw [hu] at huk
           obtain ⟨GO, capO, eO, _, _⟩ := hov.form (by omega)
           have eA : AO = some ⟨GO, 0, none⟩ := by injection eO
           obtain ⟨GG, capG, eG, _, _⟩ := HGS.out.form (by omega)
           have eAG : Ags = some ⟨GG, 0, none⟩ := by injection eG
           subst eAG
           obtain ⟨xs0, hx0, _⟩ := HP2.out.row k v hvk
           obtain ⟨Av, cv, ev⟩ := own_slice hx0
           obtain ⟨xg, hg0, _⟩ := HP2.out.got k u v huk hvk
           obtain ⟨n, hn⟩ : ∃ n, lenV v = n := ⟨_, rfl⟩
           have hnl : n ≤ 1000000000 := by rw [← hn]; exact HLN.out v (by rw [← hv]; exact List.getElem_mem hlt)
           rw [hn] at ev hg0
           subst ev
           obtain ⟨g, cu, eu, _, _⟩ := hg0.form (by omega)
           subst eu
           have HVK := Aside0.mk hvk
           have HUK := Aside0.mk huk
           have EA := Aside0.mk eA
           have XKK := Aside0.mk (fun (W : World) (h : Rest vs w0 W) => show W.cell? ⟨GO, k, none⟩ = some (.slice Av n cv) by
            have h1 := HOU.out W h
            rw [EA.out] at h1
            exact (own_cell h1 (by omega)).trans HVK.out)
           have YKK := Aside0.mk (fun (W : World) (h : W.ownsRow w0.heap.size 25 1 (.slice (some ⟨GG, 0, none⟩) vs.length cgs) vs.length us) => show W.cell? ⟨GG, k, none⟩ = some (.slice (some ⟨g, 0, none⟩) (n + 64) cu) from (own_cell h (by omega)).trans HUK.out)
           have xk := XKK.out _ HR2.out
           clear hx0 hg0 hv hu hov eO eG hn hvk huk eA
           rw [EA.out]
           go_wp2
           go_loopw [15] (fun iv wr => ∃ i : Nat, iv = .int .i64 (i : Nat) ∧ i ≤ n ∧ Aside0 (wr.ownsRow w0.heap.size 25 1 (.slice (some ⟨GG, 0, none⟩) vs.length cgs) vs.length us) ∧ Aside0 (P2 MB RTB 4 1 vs us wr) ∧ Aside0 (Rest vs w0 wr)) (fun iv _ => n - (RowKit.intOf iv).toNat)
           case atStart => exact ⟨0, rfl, Nat.zero_le _, HGS, HP2, HR2⟩
           case round =>
            clear xk
            obtain ⟨i, rfl, hi, HGS3, HP3, HR3⟩ := hrel
            have xk := XKK.out _ HR3.out
            have yk := YKK.out _ HGS3.out
            by_cases hin : i < n
            ·obtain ⟨xg3, hg3, ys3, zs3, hxg3, hcy3⟩ := HP3.out.got k _ _ HUK.out HVK.out
             subst hxg3
             have hg4 := own_prefix hg3 hcy3.len
             obtain ⟨xv3, hv3, hcv3⟩ := HP3.out.row k _ HVK.out
             have hu0 := (cell_MB hg4 hcy3 rfl hin)
             obtain ⟨g1, c1, e1, _, _⟩ := hv3.form (by show 0 < n; omega)
             have e2 : Av = some ⟨g1, 0, none⟩ := by injection e1
             subst e2
             have hv0 := (cell_MB hv3 hcv3 rfl hin)
             clear e1 hg3 hg4 hv3
             go_wp2
             go_roundw
             case rel => exact ⟨i + 1, by simp, by omega, HGS3, HP3, HR3⟩
             case measure => simp [RowKit.intOf]; omega
            ·have hie : i = n := by omega
             subst hie
             go_wp2
             go_roundw
             case rel => exact ⟨k + 1, by simp, by omega, HGS3, HP3, HR3⟩
             case measure => simp [RowKit.intOf]; omega
          ·have hke : k = vs.length := by omega
           subst hke
           go_wp2
           go_ret
           exact ⟨rfl, HR2.out⟩
end Go.Proofs.YtlhajfepcggjaaaGreatDoor.KP

set_option linter.unusedVariables false
set_option linter.unusedSimpArgs false
namespace Go.Proofs.YtlhajfepcggjaaaGreatDoor.KP
open Go Go.RowKit Go.Proofs.YtlhajfepcggjaaaGreatDoorW.PrintWords Go.Proofs.YtlhajfepcggjaaaGreatDoorW.PrintLast Go.Proofs.YtlhajfepcggjaaaGreatDoorW.PrintMore
open Go.Proofs.YtlhajfepcggjaaaGreatDoor.R (depotkit_mark.f depotkit_mark.calls)

/-- The mark of a place. -/
def mkv (k i : Nat) : Int := wrap64 ((wrap64 (1000003 * (wrap64 ((k : Int) + 7)))) + (i : Int))
theorem mark_calls (k i : Nat) (ki ii : Int) (hk : ki = (k : Int)) (hi : ii = (i : Int)) (w : World) : Calls Tryz.prog 18 #[.int .i64 ki, .int .i64 ii] w fun e w' => e = .returned (.int .i64 (mkv k i)) ∧ Below w.heap.size w w' := by
 subst hk hi
 exact (depotkit_mark.calls k i _ w rfl).mono fun e w' h => ⟨h.1, h.2.below⟩
def MI (_ : World) (k i : Nat) (cs : List Value) : Prop := cs = [.int .i64 (mkv k i)]
theorem MI_ok : MarkM MI 1 9999 :=
 ⟨fun h => by rw [h]; rfl, fun h q hq => by
  rw [h] at hq
  simp only [List.mem_cons, List.not_mem_nil, or_false] at hq
  subst hq
  rfl, fun _ h => h⟩
/-- What the grown rows hold, in the second and third loop. -/
def RMI (W : World) (j n : Nat) (xs : List Value) : Prop := Cont MI 1 W j (n + 64) xs
/-- .. in the fourth and fifth. -/
def RTI (W : World) (j n : Nat) (xs : List Value) : Prop := ∃ ys zs, xs = ys ++ zs ∧ Cont MI 1 W j n ys
theorem RMI_ok : Stay 9999 RMI := ⟨fun q h => Cont.keep MI_ok h q⟩
theorem RTI_ok : Stay 9999 RTI := ⟨fun q h => by
 obtain ⟨ys, zs, h1, h2⟩ := h
 exact ⟨ys, zs, h1, Cont.keep MI_ok h2 q⟩⟩
theorem info3I : (Tryz.prog.info? 3).map (fun i => (i.zero, i.size, i.bytes)) = some (some (.int .i64 0), 1, 8) := by kernel_rfl
theorem info43I : (Tryz.prog.info? 43).map (fun i => (i.zero, i.size, i.bytes)) = some (some (.slice none 0 0), 1, 24) := by kernel_rfl
theorem cell_MI {w W : World} {g n m c k i : Nat} {xs : List Value} (h : w.ownsRow 0 3 1 (.slice (some ⟨g, 0, none⟩) n c) m xs) (hc : Cont MI 1 W k m xs) (hnm : n = m) (hi : i < n) : w.cell? ⟨g, i, none⟩ = some (.int .i64 (mkv k i)) := by
 have h1 := own_cont (q := 0) h hc hnm hi (by decide)
 have h2 : (xs.drop (i * 1)).take 1 = [.int .i64 (mkv k i)] := hc.at_ i (by omega)
 rw [h2, Nat.mul_one] at h1
 exact h1
set_option maxHeartbeats 16000000 in
set_option maxRecDepth 100000 in
theorem apartInts_calls (V : Value) (vs : List Value) (bO : Nat) (w0 : World) (hO : w0.ownsRow bO 43 1 V vs.length vs) (hrows : ∀ (j : Nat) (v : Value), vs[j]? = some v → ∃ xs, w0.ownsRow 0 3 1 v (lenV v) xs) (hap : apart vs) (hlen : vs.length ≤ 1000000000) (hln : ∀ v ∈ vs, lenV v ≤ 1000000000) :
  Calls Tryz.prog 71 #[V] w0 fun e w' => e = .returned (.bool true) ∧ Rest vs w0 w' := by
 obtain ⟨AO, cO, rfl⟩ := own_slice hO
 have HO := Aside0.mk hO
 have HP := Aside0.mk (P1.start (MK := MI) hrows)
 have HAP := Aside0.mk hap
 have HLN := Aside0.mk hln
 have HR := Aside0.mk (Rest.refl vs w0)
 -- the outer row lies through all
 have houter := fun (W : World) (h : Rest vs w0 W) => own_keep hO (fun k hk => h.same k (own_lt hO k hk).2 (fun v hv hb => by
  obtain ⟨j, hj⟩ := List.mem_iff_getElem?.1 hv
  obtain ⟨xs, hx⟩ := hrows j v hj
  obtain ⟨c1, h1⟩ := own_typed hO k hk
  obtain ⟨c2, h2⟩ := own_typed hx k hb
  exact blk_ne h1 h2 (by decide) rfl))
 have HOU := Aside0.mk houter
 clear hO hrows hap hln houter
 go_enter Tryz.func71, Tryz.ntmps71
 go_wp2
 go_loopw [3] (fun kv wr => ∃ k : Nat, kv = .int .i64 (k : Nat) ∧ k ≤ vs.length ∧ Aside0 (P1 MI 3 1 vs k 0 wr) ∧ Aside0 (Rest vs w0 wr)) (fun kv _ => vs.length - (RowKit.intOf kv).toNat)
 case atStart => exact ⟨0, rfl, Nat.zero_le _, HP, HR⟩
 case round =>
  obtain ⟨k, rfl, hk, HPk, HRk⟩ := hrel
  by_cases hlt : k < vs.length
  ·have hov := HOU.out _ HRk.out
   have hvk : vs[k]? = some vs[k] := List.getElem?_eq_getElem hlt
   obtain ⟨v, hv⟩ : ∃ v, vs[k] = v := ⟨_, rfl⟩
   rw [hv] at hvk
   obtain ⟨GO, capO, eO, _, _⟩ := hov.form (by omega)
   have eA : AO = some ⟨GO, 0, none⟩ := by injection eO
   have xk : wr.cell? ⟨GO, k, none⟩ = some v := by
    rw [eA] at hov
    exact (own_cell hov (by omega)).trans hvk
   obtain ⟨xs0, hx0, _⟩ := HPk.out.row k v hvk
   obtain ⟨Av, cv, ev⟩ := own_slice hx0
   obtain ⟨n, hn⟩ : ∃ n, lenV v = n := ⟨_, rfl⟩
   have hnl : n ≤ 1000000000 := by rw [← hn]; exact HLN.out v (by rw [← hv]; exact List.getElem_mem hlt)
   rw [hn] at ev
   have HVK := Aside0.mk hvk
   have HXK := Aside0.mk xk
   have EA := Aside0.mk eA
   subst ev
   clear hx0 hv hov eO hn
   rw [EA.out]
   clear xk hvk eA
   have xk := HXK.out
   go_wp2
   go_loopw [4] (fun iv wr => ∃ i : Nat, iv = .int .i64 (i : Nat) ∧ i ≤ n ∧ Aside0 (P1 MI 3 1 vs k i wr) ∧ Aside0 (Rest vs w0 wr)) (fun iv _ => n - (RowKit.intOf iv).toNat)
   case atStart => exact ⟨0, rfl, Nat.zero_le _, HPk, HRk⟩
   case round =>
    obtain ⟨i, rfl, hi, HPi, HRi⟩ := hrel
    clear xk
    have hov := HOU.out _ HRi.out
    have xk : wr.cell? ⟨GO, k, none⟩ = some (.slice Av n cv) := by
     rw [EA.out] at hov
     exact (own_cell hov (by omega)).trans HVK.out
    clear hov
    by_cases hin : i < n
    ·obtain ⟨xs, hx, _, _⟩ := HPi.out.row k _ HVK.out
     obtain ⟨g, cap, eg, _, _⟩ := hx.form (by show 0 < n; omega)
     have eg2 : Av = some ⟨g, 0, none⟩ := by injection eg
     subst eg2
     have HX := Aside0.mk hx
     have hxk : ∀ j : Wb wr, j.val.cell? ⟨GO, k, none⟩ = some (.slice (some ⟨g, 0, none⟩) n cv) := fun j => Kd.cell_heap (fun b hb => j.bel.block b hb) xk
     have hMT : ∀ j : Wb wr, Calls Tryz.prog 18 #[.int .i64 (k : Nat), .int .i64 (i : Nat)] j.val fun e w' => e = .returned (.int .i64 (mkv k i)) ∧ ∃ q : Wb wr, w' = q.val := fun j =>
      (mark_calls k i k i rfl rfl j.val).mono fun e w' h => ⟨h.1, ⟨⟨w', j.bel.trans (h.2.mono j.bel.size)⟩, rfl⟩⟩
     have hnw : Nonempty (Wb wr) := ⟨⟨wr, Below.refl _ _⟩⟩
     have HMT := Aside0.mk hMT
     clear hx eg hMT
     go_wp2
     refine region_lastL (by simp) (by kernel_rfl) (by kernel_rfl) (by kernel_rfl) (by kernel_rfl) ?_
     simp only [List.dropLast, List.getLast]
     repeat (go_big_quiet_step (first | (go_at_call 18; exact HMT.out _)))
     refine wpQuiet_nil ?_
     intro _ hw'
     obtain ⟨j, hw''⟩ := hw'
     subst hw''
     clear hxk xk
     refine wp_store_own (e := 3) (size := 1) 3 (.tmp 39) (.tmp 38) rfl (off := i) _ [.int .i64 (mkv k i)] rfl rfl rfl (by kernel_rfl) (MI_ok.one (W := wr) (k := k) (i := i) rfl) (own_below HX.out j.bel) (by show i + 1 ≤ n * 1; omega) ?_
     go_wp2
     go_roundw
     case rel => exact ⟨i + 1, by simp, by omega, ⟨by have h := (HPi.out.below MI_ok j.bel).seg MI_ok (by decide) HAP.out HVK.out hin (seg := [.int .i64 (mkv k i)]) rfl; rw [Nat.mul_one] at h; exact h⟩, ⟨(HRi.out.below j.bel).seg (List.mem_of_getElem? HVK.out) rfl⟩⟩
     case measure => simp [RowKit.intOf]; omega
    ·have hie : i = n := by omega
     subst hie
     go_wp2
     go_roundw
     case rel => exact ⟨k + 1, by simp, by omega, ⟨HPi.out.next HVK.out⟩, HRi⟩
     case measure => simp [RowKit.intOf]; omega
  ·have hke : k = vs.length := by omega
   subst hke
   clear hk hlt
   have HP2 := Aside0.mk (P2.start (R := RMI) HAP.out HPk.out)
   go_wp2
   go_loopw [5, 6] (fun gsv kv wr => ∃ (k : Nat) (us : List Value) (gsV : Value), gsV = gsv ∧ kv = .int .i64 (k : Nat) ∧ k ≤ vs.length ∧ Aside0 (us.length = k) ∧ Aside0 (wr.ownsRow w0.heap.size 43 1 gsV k us) ∧ Aside0 (P2 MI RMI 3 1 vs us wr) ∧ Aside0 (Rest vs w0 wr)) (fun _ kv _ => vs.length - (RowKit.intOf kv).toNat)
   case atStart => exact ⟨0, [], _, rfl, rfl, Nat.zero_le _, ⟨rfl⟩, ⟨World.ownsRow_nil _ _ _ _⟩, HP2, HRk⟩
   case round =>
    clear HP2 HRk HPk
    obtain ⟨k, us, gsV, rfl, rfl, hk, HUL, HGS, HP2, HR2⟩ := hrel
    by_cases hlt : k < vs.length
    ·have hov := HOU.out _ HR2.out
     have hvk : vs[k]? = some vs[k] := List.getElem?_eq_getElem hlt
     obtain ⟨v, hv⟩ : ∃ v, vs[k] = v := ⟨_, rfl⟩
     rw [hv] at hvk
     obtain ⟨GO, capO, eO, _, _⟩ := hov.form (by omega)
     have eA : AO = some ⟨GO, 0, none⟩ := by injection eO
     obtain ⟨xs0, hx0, _⟩ := HP2.out.row k v hvk
     obtain ⟨Av, cv, ev⟩ := own_slice hx0
     obtain ⟨n, hn⟩ : ∃ n, lenV v = n := ⟨_, rfl⟩
     have hnl : n ≤ 1000000000 := by rw [← hn]; exact HLN.out v (by rw [← hv]; exact List.getElem_mem hlt)
     rw [hn] at ev
     subst ev
     have HVK := Aside0.mk hvk
     have EA := Aside0.mk eA
     have xkk : ∀ W, Rest vs w0 W → W.cell? ⟨GO, k, none⟩ = some (.slice Av n cv) := fun W h => by
      have h1 := HOU.out W h
      rw [EA.out] at h1
      exact (own_cell h1 (by omega)).trans HVK.out
     have XKK := Aside0.mk xkk
     have xk := XKK.out _ HR2.out
     clear hx0 hv hov eO hn hvk eA xkk
     rw [EA.out]
     go_wp2
     go_loopw [7, 8] (fun gv iv wr => ∃ (i : Nat) (gV : Value), gV = gv ∧ iv = .int .i64 (i : Nat) ∧ i ≤ 64 ∧ Aside0 (PG MI RMI 3 1 w0.heap.size vs us k n i gV wr) ∧ Aside0 (wr.ownsRow w0.heap.size 43 1 gsV k us) ∧ Aside0 (Rest vs w0 wr)) (fun _ iv _ => 64 - (RowKit.intOf iv).toNat)
     case atStart => exact ⟨0, _, rfl, rfl, Nat.zero_le _, ⟨PG.start HVK.out HP2.out⟩, HGS, HR2⟩
     case round =>
      clear xk
      obtain ⟨i, gV, rfl, rfl, hi, HPG, HGS2, HR3⟩ := hrel
      by_cases hin : i < 64
      ·have xk := XKK.out _ HR3.out
       have hmt := mark_calls k (n + i) (k : Nat) ((n : Int) + (i : Int)) rfl (by simp) wr
       have HMT := Aside0.mk hmt
       obtain ⟨xsg, hxsg, hcsg⟩ := HPG.out.g
       obtain ⟨Ag, cg, eg⟩ := own_slice hxsg
       clear hxsg hcsg
       subst eg
       clear hmt
       go_wp2_with fail
       refine HMT.out.mono ?_
       rintro e wm ⟨rfl, hbm⟩
       have HPGm := Aside0.mk (HPG.out.below MI_ok RMI_ok hbm)
       have HGSm := Aside0.mk (own_below HGS2.out hbm)
       have HRm := Aside0.mk (HR3.out.below hbm)
       clear hbm xk
       go_wp2_with (first | (at_builtin; refine wpList_append_PG (MK := MI) (e := 3) (sz := 1) (bytes := 8) (tI := 9999) MI_ok RMI_ok (by decide) rfl (.tmp 54) (.tmp 64) 43 rfl Tryz.underlying43 info3I rfl (by decide) (seg := [.int .i64 (mkv k (n + i))]) (m := n + i) rfl (Nat.le_of_eq HUL.out) rfl rfl rfl HPGm.out HRm.out.size (by unfold maxLen; omega) (by omega) ?_))
       intro gV2 w2 hPG2 hg2
       have HR2b := Aside0.mk (HRm.out.grown HPGm.out hg2)
       have HGS2b := Aside0.mk (own_keep HGSm.out fun b hb => hg2.block b (own_lt HGSm.out b hb).2 (fun e => by
        obtain ⟨c1, h1⟩ := own_typed HGSm.out b hb
        obtain ⟨xsm, hxm, _⟩ := HPGm.out.g
        obtain ⟨c2, h2⟩ := own_typed hxm b e.symm
        exact blk_ne h1 h2 (by decide) rfl))
       have HPG2 := Aside0.mk hPG2
       clear hPG2 hg2
       go_wp2_with fail
       go_roundw
       case rel => exact ⟨i + 1, gV2, rfl, by simp, by omega, HPG2, HGS2b, HR2b⟩
       case measure => simp [RowKit.intOf]; omega
      ·have hie : i = 64 := by omega
       subst hie
       obtain ⟨xsg, hxsg, hcsg⟩ := HPG.out.g
       obtain ⟨Ag, cg, eg⟩ := own_slice hxsg
       clear hxsg hcsg
       subst eg
       have hpd := HPG.out.done HUL.out HVK.out rfl (fun xs h => h)
       have HPD := Aside0.mk hpd
       clear hpd
       go_wp2_with (first | (at_builtin; refine wpList_append_val (e := 43) (bytes := 24) rfl (.tmp 66) (.tmp 68) 22 rfl Tryz.underlying22 info43I rfl (gsV := gsV) rfl rfl rfl HGS2.out HR3.out.size (by unfold maxLen; omega) (by omega) ?_))
       intro gsV2 w2 hgs2 hg2
       have HP2b := Aside0.mk (HPD.out.val MI_ok RMI_ok (by decide) (by decide) HGS2.out hg2)
       have HR2b := Aside0.mk (HR3.out.val HGS2.out hg2)
       have HGS2b := Aside0.mk hgs2
       have HUL2 := Aside0.mk (show (us ++ [Value.slice Ag (n + 64) cg]).length = k + 1 by rw [List.length_append, HUL.out]; rfl)
       clear hgs2 hg2
       go_wp2_with fail
       go_roundw
       case rel => exact ⟨k + 1, _, gsV2, rfl, by simp, by omega, HUL2, HGS2b, HP2b, HR2b⟩
       case measure => simp [RowKit.intOf]; omega
    ·have hke : k = vs.length := by omega
     subst hke
     clear hk hlt
     go_wp2
     go_loopw [9] (fun kv wr => ∃ k : Nat, kv = .int .i64 (k : Nat) ∧ k ≤ vs.length ∧ Aside0 (wr.ownsRow w0.heap.size 43 1 gsV vs.length us) ∧ Aside0 (P2 MI RMI 3 1 vs us wr) ∧ Aside0 (Rest vs w0 wr)) (fun kv _ => vs.length - (RowKit.intOf kv).toNat)
     case atStart => exact ⟨0, rfl, Nat.zero_le _, HGS, HP2, HR2⟩
     case round =>
      clear HP2 HR2 HGS
      obtain ⟨k, rfl, hk, HGS, HP2, HR2⟩ := hrel
      obtain ⟨Ags, cgs, egs⟩ := own_slice HGS.out
      subst egs
      by_cases hlt : k < vs.length
      ·have hov := HOU.out _ HR2.out
       have hvk : vs[k]? = some vs[k] := List.getElem?_eq_getElem hlt
       obtain ⟨v, hv⟩ : ∃ v, vs[k] = v := ⟨_, rfl⟩
       rw [hv] at hvk
       have huk : us[k]? = some (us[k]'(by rw [HUL.out]; exact hlt)) := List.getElem?_eq_getElem _
       obtain ⟨u, hu⟩ : ∃ u, us[k]'(by rw [HUL.out]; exact hlt) = u := ⟨_, rfl⟩
       rw [hu] at huk
       obtain ⟨GO, capO, eO, _, _⟩ := hov.form (by omega)
       have eA : AO = some ⟨GO, 0, none⟩ := by injection eO
       obtain ⟨GG, capG, eG, _, _⟩ := HGS.out.form (by omega)
       have eAG : Ags = some ⟨GG, 0, none⟩ := by injection eG
       subst eAG
       obtain ⟨xs0, hx0, _⟩ := HP2.out.row k v hvk
       obtain ⟨Av, cv, ev⟩ := own_slice hx0
       obtain ⟨xg, hg0, hxg⟩ := HP2.out.got k u v huk hvk
       clear hxg
       obtain ⟨n, hn⟩ : ∃ n, lenV v = n := ⟨_, rfl⟩
       have hnl : n ≤ 1000000000 := by rw [← hn]; exact HLN.out v (by rw [← hv]; exact List.getElem_mem hlt)
       rw [hn] at ev hg0
       subst ev
       obtain ⟨g, cu, eu, _, _⟩ := hg0.form (by omega)
       subst eu
       have HVK := Aside0.mk hvk
       have HUK := Aside0.mk huk
       have EA := Aside0.mk eA
       have XKK := Aside0.mk (fun (W : World) (h : Rest vs w0 W) => show W.cell? ⟨GO, k, none⟩ = some (.slice Av n cv) by
        have h1 := HOU.out W h
        rw [EA.out] at h1
        exact (own_cell h1 (by omega)).trans HVK.out)
       have YKK := Aside0.mk (fun (W : World) (h : W.ownsRow w0.heap.size 43 1 (.slice (some ⟨GG, 0, none⟩) vs.length cgs) vs.length us) => show W.cell? ⟨GG, k, none⟩ = some (.slice (some ⟨g, 0, none⟩) (n + 64) cu) from (own_cell h (by omega)).trans HUK.out)
       have xk := XKK.out _ HR2.out
       have yk := YKK.out _ HGS.out
       clear hx0 hg0 hv hu hov eO eG hn hvk huk eA
       rw [EA.out]
       go_wp2
       go_loopw [10] (fun iv wr => ∃ i : Nat, iv = .int .i64 (i : Nat) ∧ i ≤ n + 64 ∧ Aside0 (wr.ownsRow w0.heap.size 43 1 (.slice (some ⟨GG, 0, none⟩) vs.length cgs) vs.length us) ∧ Aside0 (P2 MI RMI 3 1 vs us wr) ∧ Aside0 (Rest vs w0 wr)) (fun iv _ => n + 64 - (RowKit.intOf iv).toNat)
       case atStart => exact ⟨0, rfl, Nat.zero_le _, HGS, HP2, HR2⟩
       case round =>
        clear xk yk
        obtain ⟨i, rfl, hi, HGS3, HP3, HR3⟩ := hrel
        have xk := XKK.out _ HR3.out
        have yk := YKK.out _ HGS3.out
        by_cases hin : i < n + 64
        ·obtain ⟨xg3, hg3, hxg3⟩ := HP3.out.got k _ _ HUK.out HVK.out
         obtain ⟨xv3, hv3, hcv3⟩ := HP3.out.row k _ HVK.out
         have hu0 : ∀ j : Wb wr, j.val.cell? ⟨g, i, none⟩ = some (.int .i64 (mkv k i)) := fun j => Kd.cell_heap (fun b hb => j.bel.block b hb) (cell_MI hg3 hxg3 rfl hin)
         have hxk : ∀ j : Wb wr, j.val.cell? ⟨GO, k, none⟩ = some (.slice Av n cv) := fun j => Kd.cell_heap (fun b hb => j.bel.block b hb) xk
         have hyk : ∀ j : Wb wr, j.val.cell? ⟨GG, k, none⟩ = some (.slice (some ⟨g, 0, none⟩) (n + 64) cu) := fun j => Kd.cell_heap (fun b hb => j.bel.block b hb) yk
         have HMT := Aside0.mk (fun j : Wb wr => show Calls Tryz.prog 18 #[.int .i64 (k : Nat), .int .i64 (i : Nat)] j.val fun e w' => e = .returned (.int .i64 (mkv k i)) ∧ ∃ q : Wb wr, w' = q.val from
          (mark_calls k i k i rfl rfl j.val).mono fun e w' h => ⟨h.1, ⟨⟨w', j.bel.trans (h.2.mono j.bel.size)⟩, rfl⟩⟩)
         have hnw : Nonempty (Wb wr) := ⟨⟨wr, Below.refl _ _⟩⟩
         by_cases hiv : i < n
         case' pos =>
          obtain ⟨g1, c1, e1, _, _⟩ := hv3.form (by show 0 < n; omega)
          have e2 : Av = some ⟨g1, 0, none⟩ := by injection e1
          subst e2
          have hv0 : ∀ j : Wb wr, j.val.cell? ⟨g1, i, none⟩ = some (.int .i64 (mkv k i)) := fun j => Kd.cell_heap (fun b hb => j.bel.block b hb) (cell_MI hv3 hcv3 rfl hiv)
          have hd0 : decide (i < n) = true := decide_eq_true hiv
          have hd1 : decide ((i : Int) < (n : Int)) = true := decide_eq_true (by omega)
          clear e1
         case' neg =>
          have hd0 : decide (i < n) = false := decide_eq_false hiv
          have hd1 : decide ((i : Int) < (n : Int)) = false := decide_eq_false (by omega)
         all_goals
          clear hg3 hv3
          go_wp2
          refine region_clsK (by kernel_rfl) (by kernel_rfl) ?_
          repeat (go_big_quiet_step (first | (go_at_call 18; exact HMT.out _)))
          refine wpQuiet_nil ?_
          intro _ hw'
          obtain ⟨j, hw''⟩ := hw'
          subst hw''
          have HGS4 := Aside0.mk (own_below HGS3.out j.bel)
          have HP4 := Aside0.mk (HP3.out.below MI_ok RMI_ok j.bel)
          have HR4 := Aside0.mk (HR3.out.below j.bel)
          clear hu0 hxk hyk xk yk hxg3 hcv3
          go_wp2
          go_roundw
          case rel => exact ⟨i + 1, by simp, by omega, HGS4, HP4, HR4⟩
          case measure => simp [RowKit.intOf]; omega
        ·have hie : i = n + 64 := by omega
         subst hie
         go_wp2
         go_roundw
         case rel => exact ⟨k + 1, by simp, by omega, HGS3, HP3, HR3⟩
         case measure => simp [RowKit.intOf]; omega
      ·have hke : k = vs.length := by omega
       subst hke
       have HP0 := Aside0.mk (HP2.out.rows (R' := RTI))
       clear hk hlt HP2
       go_wp2
       go_loopw [11] (fun kv wr => ∃ (k : Nat) (us : List Value), kv = .int .i64 (k : Nat) ∧ k ≤ vs.length ∧ Aside0 (us.length = vs.length) ∧ Aside0 (wr.ownsRow w0.heap.size 43 1 (.slice Ags vs.length cgs) vs.length us) ∧ Aside0 (P2 MI RTI 3 1 vs (us.take k) wr) ∧ Aside0 (Rest vs w0 wr)) (fun kv _ => vs.length - (RowKit.intOf kv).toNat)
       case atStart => exact ⟨0, us, rfl, Nat.zero_le _, HUL, HGS, HP0, HR2⟩
       case round =>
        clear HP0 HR2 HGS HUL
        obtain ⟨k, us, rfl, hk, HUL, HGS, HP2, HR2⟩ := hrel
        by_cases hlt : k < vs.length
        ·have HTL := Aside0.mk (show (us.take k).length = k by rw [List.length_take, HUL.out]; omega)
         obtain ⟨GO, capO, eO, _, _⟩ := (HOU.out _ HR2.out).form (by omega)
         have eA : AO = some ⟨GO, 0, none⟩ := by injection eO
         obtain ⟨GG, capG, eG, _, _⟩ := HGS.out.form (by omega)
         have eAG : Ags = some ⟨GG, 0, none⟩ := by injection eG
         subst eAG
         have EA := Aside0.mk eA
         clear eO eG eA
         rw [EA.out]
         go_wp2
         go_loopw [12, 13] (fun mv iv wr => ∃ (i : Nat) (mV : Value), mV = mv ∧ iv = .int .i64 (i : Nat) ∧ i ≤ 64 ∧ Aside0 (PG MI RTI 3 1 w0.heap.size vs (us.take k) (k + vs.length) 0 i mV wr) ∧ Aside0 (wr.ownsRow w0.heap.size 43 1 (.slice (some ⟨GG, 0, none⟩) vs.length cgs) vs.length us) ∧ Aside0 (Rest vs w0 wr)) (fun _ iv _ => 64 - (RowKit.intOf iv).toNat)
         case atStart => exact ⟨0, _, rfl, rfl, Nat.zero_le _, ⟨PG.nil HP2.out⟩, HGS, HR2⟩
         case round =>
          clear HP2 HGS HR2
          obtain ⟨i, mV, rfl, rfl, hi, HPG, HGS2, HR3⟩ := hrel
          by_cases hin : i < 64
          ·have HMT := Aside0.mk (mark_calls (k + vs.length) i ((k : Int) + (vs.length : Int)) (i : Nat) (by simp) rfl wr)
           go_wp2_with fail
           refine HMT.out.mono ?_
           rintro e wm ⟨rfl, hbm⟩
           have HPGm := Aside0.mk (HPG.out.below MI_ok RTI_ok hbm)
           have HGSm := Aside0.mk (own_below HGS2.out hbm)
           have HRm := Aside0.mk (HR3.out.below hbm)
           clear hbm
           obtain ⟨xsq, hxq, _⟩ := HPGm.out.g
           obtain ⟨Am, cm, em⟩ := own_slice hxq
           clear hxq
           rw [Nat.zero_add] at em
           subst em
           go_wp2_with (first | (at_builtin; refine wpList_append_PG (MK := MI) (e := 3) (sz := 1) (bytes := 8) (tI := 9999) MI_ok RTI_ok (by decide) rfl (.tmp 130) (.tmp 137) 43 rfl Tryz.underlying43 info3I rfl (by decide) (seg := [.int .i64 (mkv (k + vs.length) i)]) (m := i) (Nat.zero_add i).symm (by rw [HTL.out]; omega) rfl rfl rfl HPGm.out HRm.out.size (by unfold maxLen; omega) (by omega) ?_))
           intro mV2 w2 hPG2 hg2
           have HR2b := Aside0.mk (HRm.out.grown HPGm.out hg2)
           have HGS2b := Aside0.mk (own_keep HGSm.out fun b hb => hg2.block b (own_lt HGSm.out b hb).2 (fun e => by
            obtain ⟨c1, h1⟩ := own_typed HGSm.out b hb
            obtain ⟨xsm, hxm, _⟩ := HPGm.out.g
            obtain ⟨c2, h2⟩ := own_typed hxm b e.symm
            exact blk_ne h1 h2 (by decide) rfl))
           have HPG2 := Aside0.mk hPG2
           clear hPG2 hg2
           go_wp2_with fail
           go_roundw
           case rel => exact ⟨i + 1, mV2, rfl, by simp, by omega, HPG2, HGS2b, HR2b⟩
           case measure => simp [RowKit.intOf]; omega
          ·have hie : i = 64 := by omega
           subst hie
           obtain ⟨xm, hmg, hcm⟩ := HPG.out.g
           rw [Nat.zero_add] at hmg hcm
           obtain ⟨gm, cm, em, _, _⟩ := hmg.form (by decide)
           subst em
           have HMG := Aside0.mk hmg
           have hvk : vs[k]? = some vs[k] := List.getElem?_eq_getElem hlt
           obtain ⟨v, hv⟩ : ∃ v, vs[k] = v := ⟨_, rfl⟩
           rw [hv] at hvk
           have hov := HOU.out _ HR3.out
           obtain ⟨xs0, hx0, _⟩ := HPG.out.p.row k v hvk
           obtain ⟨Av, cv, ev⟩ := own_slice hx0
           obtain ⟨n, hn⟩ : ∃ n, lenV v = n := ⟨_, rfl⟩
           have hnl : n ≤ 1000000000 := by rw [← hn]; exact HLN.out v (by rw [← hv]; exact List.getElem_mem hlt)
           rw [hn] at ev
           subst ev
           have HVK := Aside0.mk hvk
           have xk : wr.cell? ⟨GO, k, none⟩ = some (.slice Av n cv) := by
            rw [EA.out] at hov
            exact (own_cell hov (by omega)).trans HVK.out
           clear hmg hv hov hx0 hn hvk
           go_wp2_with (first | (at_builtin; refine wpList_append_many (MK := MI) (e := 3) (sz := 1) (bytes := 8) (tI := 9999) MI_ok RTI_ok (by decide) rfl (.tmp 144) (.tmp 145) 43 rfl Tryz.underlying43 info3I rfl (by decide) HTL.out HVK.out rfl rfl HMG.out (hcm.one MI_ok (by decide)) HPG.out.p (fun W ys h => ⟨ys, xm, rfl, h⟩) (by unfold maxLen; omega) (by omega) ?_))
           intro gV2 w2 hP2 hg2 ho2
           have hkk : (us.take k ++ [gV2])[k]? = some gV2 := by
            have h := HTL.out
            rw [List.getElem?_append_right (by omega), h, Nat.sub_self]
            rfl
           obtain ⟨xs2, hx2, _⟩ := hP2.got k gV2 _ hkk HVK.out
           obtain ⟨A2, c2, e2⟩ := own_slice hx2
           have hgs : w2.ownsRow w0.heap.size 43 1 (.slice (some ⟨GG, 0, none⟩) vs.length cgs) vs.length us := own_keep HGS2.out fun b hb => hg2.block b (own_lt HGS2.out b hb).2 (fun e => by
            obtain ⟨c1, h1⟩ := own_typed HGS2.out b hb
            obtain ⟨xsr, hxr, _⟩ := HPG.out.p.row k _ HVK.out
            obtain ⟨c2, h2⟩ := own_typed hxr b e.symm
            exact blk_ne h1 h2 (by decide) rfl)
           have yk : w2.cell? ⟨GG, k, none⟩ = us[k]? := own_cell hgs (by omega)
           rw [List.getElem?_eq_getElem (show k < us.length by rw [HUL.out]; exact hlt)] at yk
           obtain ⟨curG, hcG, hBG, _⟩ := own_at hgs
           have fk := blk_frozen hcG k
           have HR4 := Aside0.mk (HR3.out.vrow (List.mem_of_getElem? HVK.out) hg2)
           have HGS4 := Aside0.mk hgs
           have HP4 := Aside0.mk hP2
           have HCG := Aside0.mk hcG
           have HBG := Aside0.mk hBG
           subst e2
           clear hP2 hg2 ho2 hkk hx2 hgs hcG hBG xk
           go_wp2_with fail
           have hseg := own_seg HGS4.out (o := k) (seg := [Value.slice A2 (lenV (.slice Av n cv) + 64) c2]) (by show k + 1 ≤ vs.length * 1; omega)
           have hut : (us.take k ++ [Value.slice A2 (lenV (.slice Av n cv) + 64) c2] ++ us.drop (k + [Value.slice A2 (lenV (.slice Av n cv) + 64) c2].length)).take (k + 1) = us.take k ++ [Value.slice A2 (lenV (.slice Av n cv) + 64) c2] := by
            have h := HTL.out
            rw [List.take_append_of_le_length (by rw [List.length_append, h]; simp), List.take_of_length_le (by rw [List.length_append, h]; simp)]
           have hP5 : P2 MI RTI 3 1 vs (us.take k ++ [Value.slice A2 (lenV (.slice Av n cv) + 64) c2]) (w2.setCells GG k [Value.slice A2 (lenV (.slice Av n cv) + 64) c2]) := HP4.out.keep MI_ok RTI_ok (fun j b hj hb => below_seg (by
            rintro rfl
            obtain ⟨c1, h1⟩ := (HP4.out.lt hj).2
            exact blk_ne h1 HCG.out (by decide) rfl)) (Kp.seg (cur' := []) HCG.out (by decide))
           go_roundw
           case rel => exact ⟨k + 1, _, by simp, by omega, ⟨by have h := own_len hseg; rw [Nat.mul_one] at h; exact h⟩, ⟨hseg⟩, ⟨by rw [hut]; exact hP5⟩, ⟨show Rest vs w0 (w2.setCells GG k [Value.slice A2 (lenV (.slice Av n cv) + 64) c2]) from HR4.out.far HBG.out⟩⟩
           case measure => simp [RowKit.intOf]; omega
        ·have hke : k = vs.length := by omega
         subst hke
         have HP5 := Aside0.mk (show P2 MI RTI 3 1 vs us wr by
          have h := HP2.out
          rwa [List.take_of_length_le (by rw [HUL.out]; exact Nat.le_refl _)] at h)
         clear hk hlt HP2
         go_wp2
         go_loopw [14] (fun kv wr => ∃ k : Nat, kv = .int .i64 (k : Nat) ∧ k ≤ vs.length ∧ Aside0 (wr.ownsRow w0.heap.size 43 1 (.slice Ags vs.length cgs) vs.length us) ∧ Aside0 (P2 MI RTI 3 1 vs us wr) ∧ Aside0 (Rest vs w0 wr)) (fun kv _ => vs.length - (RowKit.intOf kv).toNat)
         case atStart => exact ⟨0, rfl, Nat.zero_le _, HGS, HP5, HR2⟩
         case round =>
          clear HP5 HR2 HGS
          obtain ⟨k, rfl, hk, HGS, HP2, HR2⟩ := hrel
          by_cases hlt : k < vs.length
          ·have hov := HOU.out _ HR2.out
           have hvk : vs[k]? = some vs[k] := List.getElem?_eq_getElem hlt
           obtain ⟨v, hv⟩ : ∃ v, vs[k] = v := ⟨_, rfl⟩
           rw [hv] at hvk
           have huk : us[k]? = some (us[k]'(by rw [HUL.out]; exact hlt)) := List.getElem?_eq_getElem _
           obtain ⟨u, hu⟩ : ∃ u, us[k]'(by rw [HUL.out]; exact hlt) = u := ⟨_, rfl⟩
           rw [hu] at huk
           obtain ⟨GO, capO, eO, _, _⟩ := hov.form (by omega)
           have eA : AO = some ⟨GO, 0, none⟩ := by injection eO
           obtain ⟨GG, capG, eG, _, _⟩ := HGS.out.form (by omega)
           have eAG : Ags = some ⟨GG, 0, none⟩ := by injection eG
           subst eAG
           obtain ⟨xs0, hx0, _⟩ := HP2.out.row k v hvk
           obtain ⟨Av, cv, ev⟩ := own_slice hx0
           obtain ⟨xg, hg0, _⟩ := HP2.out.got k u v huk hvk
           obtain ⟨n, hn⟩ : ∃ n, lenV v = n := ⟨_, rfl⟩
           have hnl : n ≤ 1000000000 := by rw [← hn]; exact HLN.out v (by rw [← hv]; exact List.getElem_mem hlt)
           rw [hn] at ev hg0
           subst ev
           obtain ⟨g, cu, eu, _, _⟩ := hg0.form (by omega)
           subst eu
           have HVK := Aside0.mk hvk
           have HUK := Aside0.mk huk
           have EA := Aside0.mk eA
           have XKK := Aside0.mk (fun (W : World) (h : Rest vs w0 W) => show W.cell? ⟨GO, k, none⟩ = some (.slice Av n cv) by
            have h1 := HOU.out W h
            rw [EA.out] at h1
            exact (own_cell h1 (by omega)).trans HVK.out)
           have YKK := Aside0.mk (fun (W : World) (h : W.ownsRow w0.heap.size 43 1 (.slice (some ⟨GG, 0, none⟩) vs.length cgs) vs.length us) => show W.cell? ⟨GG, k, none⟩ = some (.slice (some ⟨g, 0, none⟩) (n + 64) cu) from (own_cell h (by omega)).trans HUK.out)
           have xk := XKK.out _ HR2.out
           clear hx0 hg0 hv hu hov eO eG hn hvk huk eA
           rw [EA.out]
           go_wp2
           go_loopw [15] (fun iv wr => ∃ i : Nat, iv = .int .i64 (i : Nat) ∧ i ≤ n ∧ Aside0 (wr.ownsRow w0.heap.size 43 1 (.slice (some ⟨GG, 0, none⟩) vs.length cgs) vs.length us) ∧ Aside0 (P2 MI RTI 3 1 vs us wr) ∧ Aside0 (Rest vs w0 wr)) (fun iv _ => n - (RowKit.intOf iv).toNat)
           case atStart => exact ⟨0, rfl, Nat.zero_le _, HGS, HP2, HR2⟩
           case round =>
            clear xk
            obtain ⟨i, rfl, hi, HGS3, HP3, HR3⟩ := hrel
            have xk := XKK.out _ HR3.out
            have yk := YKK.out _ HGS3.out
            by_cases hin : i < n
            ·obtain ⟨xg3, hg3, ys3, zs3, hxg3, hcy3⟩ := HP3.out.got k _ _ HUK.out HVK.out
             subst hxg3
             have hg4 := own_prefix hg3 hcy3.len
             obtain ⟨xv3, hv3, hcv3⟩ := HP3.out.row k _ HVK.out
             have hu0 : ∀ j : Wb wr, j.val.cell? ⟨g, i, none⟩ = some (.int .i64 (mkv k i)) := fun j => Kd.cell_heap (fun b hb => j.bel.block b hb) (cell_MI hg4 hcy3 rfl hin)
             have hxk : ∀ j : Wb wr, j.val.cell? ⟨GO, k, none⟩ = some (.slice Av n cv) := fun j => Kd.cell_heap (fun b hb => j.bel.block b hb) xk
             have hyk : ∀ j : Wb wr, j.val.cell? ⟨GG, k, none⟩ = some (.slice (some ⟨g, 0, none⟩) (n + 64) cu) := fun j => Kd.cell_heap (fun b hb => j.bel.block b hb) yk
             have HMT := Aside0.mk (fun j : Wb wr => show Calls Tryz.prog 18 #[.int .i64 (k : Nat), .int .i64 (i : Nat)] j.val fun e w' => e = .returned (.int .i64 (mkv k i)) ∧ ∃ q : Wb wr, w' = q.val from
              (mark_calls k i k i rfl rfl j.val).mono fun e w' h => ⟨h.1, ⟨⟨w', j.bel.trans (h.2.mono j.bel.size)⟩, rfl⟩⟩)
             have hnw : Nonempty (Wb wr) := ⟨⟨wr, Below.refl _ _⟩⟩
             obtain ⟨g1, c1, e1, _, _⟩ := hv3.form (by show 0 < n; omega)
             have e2 : Av = some ⟨g1, 0, none⟩ := by injection e1
             subst e2
             have hv0 : ∀ j : Wb wr, j.val.cell? ⟨g1, i, none⟩ = some (.int .i64 (mkv k i)) := fun j => Kd.cell_heap (fun b hb => j.bel.block b hb) (cell_MI hv3 hcv3 rfl hin)
             clear e1 hg3 hg4 hv3
             go_wp2
             refine region_clsK (by kernel_rfl) (by kernel_rfl) ?_
             repeat (go_big_quiet_step (first | (go_at_call 18; exact HMT.out _)))
             refine wpQuiet_nil ?_
             intro _ hw'
             obtain ⟨j, hw''⟩ := hw'
             subst hw''
             have HGS4 := Aside0.mk (own_below HGS3.out j.bel)
             have HP4 := Aside0.mk (HP3.out.below MI_ok RTI_ok j.bel)
             have HR4 := Aside0.mk (HR3.out.below j.bel)
             clear hu0 hxk hyk xk yk hv0 hcv3 hcy3
             go_wp2
             go_roundw
             case rel => exact ⟨i + 1, by simp, by omega, HGS4, HP4, HR4⟩
             case measure => simp [RowKit.intOf]; omega
            ·have hie : i = n := by omega
             subst hie
             go_wp2
             go_roundw
             case rel => exact ⟨k + 1, by simp, by omega, HGS3, HP3, HR3⟩
             case measure => simp [RowKit.intOf]; omega
          ·have hke : k = vs.length := by omega
           subst hke
           go_wp2
           go_ret
           exact ⟨rfl, HR2.out⟩
end Go.Proofs.YtlhajfepcggjaaaGreatDoor.KP

set_option linter.unusedVariables false
set_option linter.unusedSimpArgs false
namespace Go.Proofs.YtlhajfepcggjaaaGreatDoor.KP
open Go Go.RowKit Go.Proofs.YtlhajfepcggjaaaGreatDoorW.PrintWords Go.Proofs.YtlhajfepcggjaaaGreatDoorW.PrintLast Go.Proofs.YtlhajfepcggjaaaGreatDoorW.PrintMore

def lexT (T : List (List Nat × List Nat)) : Nat → Nat → List Bool → Bool
 | 0, _, l => (readyT T l).isEmpty
 | n + 1, k, l => readyAt T l k && freeT T l k && lexT T n (k + 1) (l.set k true)
theorem lex_of {md : Region.Mode} {ops : Array Oper} {T : Bool × List (List Nat × List Nat)} (hT : rtab md ops = T) : ∀ (n k : Nat) (l : Array Bool), lexT T.2 n k l.toList = true → Region.lexFrom md ops n k l = true
 | 0, k, l, h => by
  unfold lexT at h
  unfold Region.lexFrom
  rw [ready_eq, hT]
  exact h
 | n + 1, k, l, h => by
  unfold lexT at h
  simp only [Bool.and_eq_true] at h
  obtain ⟨⟨h1, h2⟩, h3⟩ := h
  unfold Region.lexFrom
  rw [readyAt_mem h1 hT, free_eq, hT, h2]
  simp only [Bool.true_and]
  refine lex_of hT n (k + 1) _ ?_
  rw [Array.toList_setIfInBounds]
  exact h3
theorem lexB_of {md : Region.Mode} {ops : Array Oper} {T : Bool × List (List Nat × List Nat)} (hT : rtab md ops = T) (n : Nat) (hn : ops.size = n) (h : (T.1 && lexT T.2 n 0 (List.replicate n false)) = true) : Region.lexB md ops = true := by
 rw [Bool.and_eq_true] at h
 unfold Region.lexB
 rw [Bool.and_eq_true]
 refine ⟨?_, ?_⟩
 ·have h1 := h.1
  rw [← hT] at h1
  exact h1
 ·rw [hn]
  refine lex_of hT n 0 _ ?_
  rw [Array.toList_replicate]
  exact h.2
def reg72.T24 : Bool × List (List Nat × List Nat) := (true, [([], []), ([], []), ([0, 1], [0, 1]), ([2], [2]), ([], []), ([3, 4], [3, 4]), ([5], [5]), ([6], [6]), ([7], [7]), ([8], [8]), ([9], [9]), ([9], [9]), ([10, 11, 9], [9, 10, 11]), ([12, 9], [9, 12]), ([9], [9]), ([13, 14, 9], [9, 13, 14]), ([15, 9], [9, 15]), ([16, 9], [9, 16]), ([17, 9], [9, 17]), ([9], [9]), ([9], [9]), ([19, 20, 9, 9], [9, 19, 20]), ([18, 21, 9], [9, 18, 21]), ([9, 22], [9, 22]), ([23], [23]), ([24, 21], [24]), ([25], [25]), ([25], [25]), ([25], [25]), ([27, 28, 25], [25, 27, 28]), ([29, 25], [25, 29]), ([30, 25], [25, 30]), ([26, 31, 25], [25, 26, 31]), ([32, 25, 25], [25, 32]), ([33], [33]), ([33], [33]), ([34, 35, 33], [33, 34, 35]), ([36, 33], [33, 36]), ([33], [33]), ([37, 38, 33], [33, 37, 38]), ([39, 33], [33, 39]), ([40, 33], [33, 40]), ([41, 33], [33, 41]), ([42, 33, 33], [33, 42]), ([43], [43]), ([43], [43]), ([44, 45, 43], [43, 44, 45]), ([46, 43], [43, 46]), ([43], [43]), ([47, 48, 43], [43, 47, 48]), ([49, 43], [43, 49]), ([50, 43], [43, 50]), ([51, 43], [43, 51]), ([43], [43]), ([43], [43]), ([53, 54, 43, 43], [43, 53, 54]), ([52, 55, 43], [43, 52, 55]), ([43, 56, 33], [33, 43, 56]), ([57, 33], [33, 57]), ([33, 58, 25], [25, 33, 58]), ([25, 59], [25, 59])])
theorem reg72.tab24 : rtab .any (opsOf Tryz.f72 24) = reg72.T24 := by kernel_rfl
theorem reg72.lex24 : ∀ l : List Oper, l.toArray = opsOf Tryz.f72 24 → Region.lexB .any l.toArray = true := fun l h => by
 rw [h]
 exact lexB_of reg72.tab24 61 (by kernel_rfl) (by kernel_rfl)
def reg72.T41 : Bool × List (List Nat × List Nat) := (true, [([], []), ([], []), ([0, 1], [0, 1]), ([2], [2]), ([], []), ([3, 4], [3, 4]), ([5], [5]), ([6], [6]), ([7], [7]), ([8], [8]), ([9], [9]), ([9], [9]), ([10, 11, 9], [9, 10, 11]), ([12, 9], [9, 12]), ([9], [9]), ([13, 14, 9], [9, 13, 14]), ([15, 9], [9, 15]), ([16, 9], [9, 16]), ([17, 9], [9, 17]), ([9], [9]), ([9], [9]), ([19, 20, 9, 9], [9, 19, 20]), ([18, 21, 9], [9, 18, 21]), ([9, 22], [9, 22]), ([23], [23]), ([24, 21], [24]), ([25], [25]), ([25], [25]), ([26, 27, 25], [25, 26, 27]), ([28, 25], [25, 28]), ([25], [25]), ([29, 30, 25], [25, 29, 30]), ([31, 25], [25, 31]), ([32, 25], [25, 32]), ([33, 25], [25, 33]), ([34, 25, 25], [25, 34]), ([35], [35]), ([35], [35]), ([36, 37, 35], [35, 36, 37]), ([38, 35], [35, 38]), ([35], [35]), ([39, 40, 35], [35, 39, 40]), ([41, 35], [35, 41]), ([42, 35], [35, 42]), ([43, 35], [35, 43]), ([35], [35]), ([35], [35]), ([45, 46, 35, 35], [35, 45, 46]), ([44, 47, 35], [35, 44, 47]), ([35, 48, 25], [25, 35, 48]), ([49, 25], [25, 49]), ([25, 50], [25, 50])])
theorem reg72.tab41 : rtab .any (opsOf Tryz.f72 41) = reg72.T41 := by kernel_rfl
theorem reg72.lex41 : ∀ l : List Oper, l.toArray = opsOf Tryz.f72 41 → Region.lexB .any l.toArray = true := fun l h => by
 rw [h]
 exact lexB_of reg72.tab41 52 (by kernel_rfl) (by kernel_rfl)
end Go.Proofs.YtlhajfepcggjaaaGreatDoor.KP

set_option linter.unusedVariables false
set_option linter.unusedSimpArgs false
namespace Go.Proofs.YtlhajfepcggjaaaGreatDoor.KP
open Go Go.RowKit Go.Proofs.YtlhajfepcggjaaaGreatDoorW.PrintWords Go.Proofs.YtlhajfepcggjaaaGreatDoorW.PrintLast Go.Proofs.YtlhajfepcggjaaaGreatDoorW.PrintMore
open Go.Proofs.YtlhajfepcggjaaaGreatDoor.R (depotkit_mark.f depotkit_mark.calls)

/-- A marked row: a list of its own that holds its mark. -/
def MR (W : World) (k i : Nat) (cs : List Value) : Prop := ∃ g, cs = [.slice (some ⟨g, 0, none⟩) 1 1] ∧ W.heap[g]? = some (.cells #[.int .i64 (mkv k i)] 3 (0, 0))
theorem MR_ok : MarkM MR 1 3 :=
 ⟨fun h => by obtain ⟨g, h, _⟩ := h; rw [h]; rfl, fun h q hq => by
  obtain ⟨g, h, _⟩ := h
  rw [h] at hq
  simp only [List.mem_cons, List.not_mem_nil, or_false] at hq
  subst hq
  rfl, fun q h => by
  obtain ⟨g, h, hg⟩ := h
  exact ⟨g, h, q g _ hg⟩⟩
def RMR (W : World) (j n : Nat) (xs : List Value) : Prop := Cont MR 1 W j (n + 64) xs
def RTR (W : World) (j n : Nat) (xs : List Value) : Prop := ∃ ys zs, xs = ys ++ zs ∧ Cont MR 1 W j n ys
theorem RMR_ok : Stay 3 RMR := ⟨fun q h => Cont.keep MR_ok h q⟩
theorem RTR_ok : Stay 3 RTR := ⟨fun q h => by
 obtain ⟨ys, zs, h1, h2⟩ := h
 exact ⟨ys, zs, h1, Cont.keep MR_ok h2 q⟩⟩
theorem info22R : (Tryz.prog.info? 22).map (fun i => (i.zero, i.size, i.bytes)) = some (some (.slice none 0 0), 1, 24) := by kernel_rfl
theorem cell_MR {w : World} {g n m c k i : Nat} {xs : List Value} (h : w.ownsRow 0 43 1 (.slice (some ⟨g, 0, none⟩) n c) m xs) (hc : Cont MR 1 w k m xs) (hnm : n = m) (hi : i < n) : ∃ gl, w.cell? ⟨g, i, none⟩ = some (.slice (some ⟨gl, 0, none⟩) 1 1) ∧ w.cell? ⟨gl, 0, none⟩ = some (.int .i64 (mkv k i)) := by
 have h0 := own_cont (q := 0) h hc hnm hi (by decide)
 obtain ⟨gl, h2, h3⟩ := hc.at_ i (by omega)
 rw [h2, Nat.mul_one] at h0
 exact ⟨gl, h0, (blk_cell h3 0).trans rfl⟩
def apartR.T7 : Bool × List (List Nat × List Nat) := (true, [([], []), ([], []), ([0, 1], [0, 1]), ([2], [2]), ([], []), ([], []), ([], []), ([5, 6], [5, 6]), ([7], [7]), ([3, 4, 0, 1, 2, 3, 4, 5, 6, 7, 8], [3, 4]), ([9, 8, 7, 0, 1, 2, 3, 4, 5, 6, 7, 8], [8, 9])])
def apartR.B7 : List Nat := [0, 0, 3, 7, 0, 0, 0, 96, 224, 511, 1023]
theorem apartR.tab7 : rtab .any (opsOf Tryz.f72 7) = apartR.T7 := by kernel_rfl
theorem apartR.bits7 : waitsOk apartR.T7.2 apartR.B7 = true := by kernel_rfl
set_option maxHeartbeats 16000000 in
set_option maxRecDepth 100000 in
theorem apartRows_calls (V : Value) (vs : List Value) (bO : Nat) (w0 : World) (hO : w0.ownsRow bO 22 1 V vs.length vs) (hrows : ∀ (j : Nat) (v : Value), vs[j]? = some v → ∃ xs, w0.ownsRow 0 43 1 v (lenV v) xs) (hap : apart vs) (hlen : vs.length ≤ 1000000000) (hln : ∀ v ∈ vs, lenV v ≤ 1000000000) :
  Calls Tryz.prog 72 #[V] w0 fun e w' => e = .returned (.bool true) ∧ Rest vs w0 w' := by
 obtain ⟨AO, cO, rfl⟩ := own_slice hO
 have HO := Aside0.mk hO
 have HP := Aside0.mk (P1.start (MK := MR) hrows)
 have HAP := Aside0.mk hap
 have HLN := Aside0.mk hln
 have HR := Aside0.mk (Rest.refl vs w0)
 -- the outer row lies through all
 have houter := fun (W : World) (h : Rest vs w0 W) => own_keep hO (fun k hk => h.same k (own_lt hO k hk).2 (fun v hv hb => by
  obtain ⟨j, hj⟩ := List.mem_iff_getElem?.1 hv
  obtain ⟨xs, hx⟩ := hrows j v hj
  obtain ⟨c1, h1⟩ := own_typed hO k hk
  obtain ⟨c2, h2⟩ := own_typed hx k hb
  exact blk_ne h1 h2 (by decide) rfl))
 have HOU := Aside0.mk houter
 clear hO hrows hap hln houter
 go_enter Tryz.func72, Tryz.ntmps72
 go_wp2
 go_loopw [3] (fun kv wr => ∃ k : Nat, kv = .int .i64 (k : Nat) ∧ k ≤ vs.length ∧ Aside0 (P1 MR 43 1 vs k 0 wr) ∧ Aside0 (Rest vs w0 wr)) (fun kv _ => vs.length - (RowKit.intOf kv).toNat)
 case atStart => exact ⟨0, rfl, Nat.zero_le _, HP, HR⟩
 case round =>
  obtain ⟨k, rfl, hk, HPk, HRk⟩ := hrel
  by_cases hlt : k < vs.length
  ·have hov := HOU.out _ HRk.out
   have hvk : vs[k]? = some vs[k] := List.getElem?_eq_getElem hlt
   obtain ⟨v, hv⟩ : ∃ v, vs[k] = v := ⟨_, rfl⟩
   rw [hv] at hvk
   obtain ⟨GO, capO, eO, _, _⟩ := hov.form (by omega)
   have eA : AO = some ⟨GO, 0, none⟩ := by injection eO
   have xk : wr.cell? ⟨GO, k, none⟩ = some v := by
    rw [eA] at hov
    exact (own_cell hov (by omega)).trans hvk
   obtain ⟨xs0, hx0, _⟩ := HPk.out.row k v hvk
   obtain ⟨Av, cv, ev⟩ := own_slice hx0
   obtain ⟨n, hn⟩ : ∃ n, lenV v = n := ⟨_, rfl⟩
   have hnl : n ≤ 1000000000 := by rw [← hn]; exact HLN.out v (by rw [← hv]; exact List.getElem_mem hlt)
   rw [hn] at ev
   have HVK := Aside0.mk hvk
   have HXK := Aside0.mk xk
   have EA := Aside0.mk eA
   subst ev
   clear hx0 hv hov eO hn
   rw [EA.out]
   clear xk hvk eA
   have xk := HXK.out
   go_wp2
   go_loopw [4] (fun iv wr => ∃ i : Nat, iv = .int .i64 (i : Nat) ∧ i ≤ n ∧ Aside0 (P1 MR 43 1 vs k i wr) ∧ Aside0 (Rest vs w0 wr)) (fun iv _ => n - (RowKit.intOf iv).toNat)
   case atStart => exact ⟨0, rfl, Nat.zero_le _, HPk, HRk⟩
   case round =>
    obtain ⟨i, rfl, hi, HPi, HRi⟩ := hrel
    clear xk
    have hov := HOU.out _ HRi.out
    have xk : wr.cell? ⟨GO, k, none⟩ = some (.slice Av n cv) := by
     rw [EA.out] at hov
     exact (own_cell hov (by omega)).trans HVK.out
    clear hov
    by_cases hin : i < n
    ·obtain ⟨xs, hx, _, _⟩ := HPi.out.row k _ HVK.out
     obtain ⟨g, cap, eg, _, _⟩ := hx.form (by show 0 < n; omega)
     have eg2 : Av = some ⟨g, 0, none⟩ := by injection eg
     subst eg2
     have HX := Aside0.mk hx
     have XKK := Aside0.mk (fun (W : World) (h : Rest vs w0 W) => show W.cell? ⟨GO, k, none⟩ = some (.slice (some ⟨g, 0, none⟩) n cv) by
      have h1 := HOU.out W h
      rw [EA.out] at h1
      exact (own_cell h1 (by omega)).trans HVK.out)
     clear hx eg
     go_wp2
     refine start_ (n := 11) (S := fun w' => w'.cell? ⟨GO, k, none⟩ = some (.slice (some ⟨g, 0, none⟩) n cv)) (ds := [10]) #[false, false, false, false, false, false, false, false, false, false, false] (by kernel_rfl) rfl rfl xk (fun hHeld => ?_); refine with_tabW apartR.tab7 apartR.bits7 (fun HT_ HW_ => ?_)
     clear hHeld
     have hHeld := XKK.out _ (HRi.out.below ((Below.refl wr.heap.size wr).drew))
     clear xk
     refine pure_ (i := 0) (N := some 31) (v := ?_) (a' := ?_) #[true, false, false, false, false, false, false, false, false, false, false] rfl rfl (any_of HT_.out (by kernel_rfl)) (fun _ _ _ h => h) (Or.inl ⟨by rfl, ?_⟩) ?_ ?_
     rotate_left
     ·intro w'
      go_simp
      with_reducible rfl
     rotate_left
     ·simp only [Act.put, List.setIfInBounds_toArray, List.set_cons_zero, List.set_cons_succ, i64_w, i32_w]
      rfl
     refine pure_ (i := 1) (N := some 32) (v := ?_) (a' := ?_) #[true, true, false, false, false, false, false, false, false, false, false] rfl rfl (any_of HT_.out (by kernel_rfl)) (fun _ _ _ h => h) (Or.inl ⟨by rfl, ?_⟩) ?_ ?_
     rotate_left
     ·intro w'
      go_simp
      with_reducible rfl
     rotate_left
     ·simp only [Act.put, List.setIfInBounds_toArray, List.set_cons_zero, List.set_cons_succ, i64_w, i32_w]
      rfl
     refine pure_ (i := 2) (N := some 33) (v := ?_) (a' := ?_) #[true, true, true, false, false, false, false, false, false, false, false] rfl rfl (any_of HT_.out (by kernel_rfl)) (fun _ _ _ h => h) (Or.inl ⟨by rfl, ?_⟩) ?_ ?_
     rotate_left
     ·intro w'
      go_simp
      with_reducible rfl
     rotate_left
     ·simp only [Act.put, List.setIfInBounds_toArray, List.set_cons_zero, List.set_cons_succ, i64_w, i32_w]
      rfl
     refine pure_ (i := 4) (N := some 35) (v := ?_) (a' := ?_) #[true, true, true, false, true, false, false, false, false, false, false] rfl rfl (any_of HT_.out (by kernel_rfl)) (fun _ _ _ h => h) (Or.inl ⟨by rfl, ?_⟩) ?_ ?_
     rotate_left
     ·intro w'
      go_simp
      with_reducible rfl
     rotate_left
     ·simp only [Act.put, List.setIfInBounds_toArray, List.set_cons_zero, List.set_cons_succ, i64_w, i32_w]
      rfl
     refine pure_ (i := 5) (N := some 36) (v := ?_) (a' := ?_) #[true, true, true, false, true, true, false, false, false, false, false] rfl rfl (any_of HT_.out (by kernel_rfl)) (fun _ _ _ h => h) (Or.inl ⟨by rfl, ?_⟩) ?_ ?_
     rotate_left
     ·intro w'
      go_simp
      with_reducible rfl
     rotate_left
     ·simp only [Act.put, List.setIfInBounds_toArray, List.set_cons_zero, List.set_cons_succ, i64_w, i32_w]
      rfl
     refine pure_ (i := 6) (N := some 37) (v := ?_) (a' := ?_) #[true, true, true, false, true, true, true, false, false, false, false] rfl rfl (any_of HT_.out (by kernel_rfl)) (fun _ _ _ h => h) (Or.inl ⟨by rfl, ?_⟩) ?_ ?_
     rotate_left
     ·intro w'
      go_simp
      with_reducible rfl
     rotate_left
     ·simp only [Act.put, List.setIfInBounds_toArray, List.set_cons_zero, List.set_cons_succ, i64_w, i32_w]
      rfl
     refine take_ (i := 3) (N := some 34) (v := ?_) (a' := ?_) #[true, true, true, true, true, true, true, false, false, false, false] rfl rfl (take_ofW HT_.out HW_.out (by kernel_rfl)) (fun _ _ _ h => h) (Or.inl ⟨by rfl, ?_⟩) hHeld ?_ ?_
     rotate_left
     ·intro w' s0
      go_simp
      with_reducible rfl
     rotate_left
     ·simp only [Act.put, List.setIfInBounds_toArray, List.set_cons_zero, List.set_cons_succ, i64_w, i32_w]
      rfl
     refine one_ (i := 7) (N := some 38) #[true, true, true, true, true, true, true, true, false, false, false] rfl rfl (one_of HT_.out (by kernel_rfl)) (by decide) (fun K hK => ?_)
     refine goes_ Tryz.func18 (by kernel_rfl) rfl #[.int .i64 (k : Nat), .int .i64 (i : Nat)] (by rfl) rfl rfl (by (try simp only [List.map_toArray, List.map_cons, List.map_nil]); first | done | rfl) ?_
     refine (mark_calls k i k i rfl rfl _).mono ?_
     rintro e wm ⟨rfl, hbm⟩
     refine ⟨_, rfl, ?_⟩
     have HPm := Aside0.mk (HPi.out.below MR_ok (Below.trans ((Below.refl wr.heap.size wr).drew) hbm))
     have HRm := Aside0.mk (HRi.out.below (Below.trans ((Below.refl wr.heap.size wr).drew) hbm))
     have HXm := Aside0.mk (own_below HX.out (Below.trans ((Below.refl wr.heap.size wr).drew) hbm))
     refine hK.out _ _ (XKK.out _ HRm.out) (fun hHeld => ?_)
     clear hK K hbm
     refine norm_ (a' := ?_) ?_ ?_
     rotate_left
     ·show Act.put _ (some 38) _ = _
      simp only [Act.put, List.setIfInBounds_toArray, List.set_cons_zero, List.set_cons_succ, i64_w, i32_w]
      rfl
     refine one_ (i := 8) (N := some 39) #[true, true, true, true, true, true, true, true, true, false, false] rfl rfl (one_of HT_.out (by kernel_rfl)) (by decide) (fun K hK => ?_)
     refine value_ (w1 := wm.alloc (.cells #[.int .i64 (mkv k i)] 3)) (v := .slice (some ⟨wm.heap.size, 0, none⟩) 1 1) (by rfl) rfl ?_ ?_
     ·go_simp
     have HPa := Aside0.mk (HPm.out.below MR_ok (alloc_below wm (.cells #[.int .i64 (mkv k i)] 3)))
     have HRa := Aside0.mk (HRm.out.below (alloc_below wm (.cells #[.int .i64 (mkv k i)] 3)))
     have HXa := Aside0.mk (own_below HXm.out (alloc_below wm (.cells #[.int .i64 (mkv k i)] 3)))
     have HSa : Aside0 (MR (wm.alloc (.cells #[.int .i64 (mkv k i)] 3)) k i [.slice (some ⟨wm.heap.size, 0, none⟩) 1 1]) := ⟨⟨_, rfl, heap_alloc_new wm _⟩⟩
     refine hK.out _ _ (XKK.out _ HRa.out) (fun hHeld => ?_)
     clear hK K HPm HRm HXm
     refine norm_ (a' := ?_) ?_ ?_
     rotate_left
     ·show Act.put _ (some 39) _ = _
      simp only [Act.put, List.setIfInBounds_toArray, List.set_cons_zero, List.set_cons_succ, i64_w, i32_w]
      rfl
     refine pure_ (i := 9) (N := some 40) (v := ?_) (a' := ?_) #[true, true, true, true, true, true, true, true, true, true, false] rfl rfl (any_of HT_.out (by kernel_rfl)) (fun _ _ _ h => h) (Or.inl ⟨by rfl, ?_⟩) ?_ ?_
     rotate_left
     ·intro w'
      go_simp
      with_reducible rfl
     rotate_left
     ·simp only [Act.put, List.setIfInBounds_toArray, List.set_cons_zero, List.set_cons_succ, i64_w, i32_w]
      rfl
     refine last_ (i := 10) (N := none) #[true, true, true, true, true, true, true, true, true, true, true] rfl rfl (one_of HT_.out (by kernel_rfl)) (by decide) (fun K hK => ?_)
     rw [if_pos (by rfl)]
     refine wp_store_own (e := 43) (size := 1) 43 (.tmp 40) (.tmp 39) rfl (off := i) _ [.slice (some ⟨wm.heap.size, 0, none⟩) 1 1] rfl rfl rfl (by kernel_rfl) (MR_ok.one HSa.out) HXa.out (by show i + 1 ≤ n * 1; omega) ?_
     refine hK.out _ _ ?_
     clear hK K
     refine done_ (done_of HT_.out (by kernel_rfl)) ?_
     go_wp2
     go_roundw
     case rel => exact ⟨i + 1, by simp, by omega, ⟨by have h := HPa.out.seg MR_ok (by decide) HAP.out HVK.out hin HSa.out; rw [Nat.mul_one] at h; exact h⟩, ⟨HRa.out.seg (List.mem_of_getElem? HVK.out) rfl⟩⟩
     case measure => simp [RowKit.intOf]; omega
    ·have hie : i = n := by omega
     subst hie
     go_wp2
     go_roundw
     case rel => exact ⟨k + 1, by simp, by omega, ⟨HPi.out.next HVK.out⟩, HRi⟩
     case measure => simp [RowKit.intOf]; omega
  ·have hke : k = vs.length := by omega
   subst hke
   clear hk hlt
   have HP2 := Aside0.mk (P2.start (R := RMR) HAP.out HPk.out)
   go_wp2
   go_loopw [5, 6] (fun gsv kv wr => ∃ (k : Nat) (us : List Value) (gsV : Value), gsV = gsv ∧ kv = .int .i64 (k : Nat) ∧ k ≤ vs.length ∧ Aside0 (us.length = k) ∧ Aside0 (wr.ownsRow w0.heap.size 22 1 gsV k us) ∧ Aside0 (P2 MR RMR 43 1 vs us wr) ∧ Aside0 (Rest vs w0 wr)) (fun _ kv _ => vs.length - (RowKit.intOf kv).toNat)
   case atStart => exact ⟨0, [], _, rfl, rfl, Nat.zero_le _, ⟨rfl⟩, ⟨World.ownsRow_nil _ _ _ _⟩, HP2, HRk⟩
   case round =>
    clear HP2 HRk HPk
    obtain ⟨k, us, gsV, rfl, rfl, hk, HUL, HGS, HP2, HR2⟩ := hrel
    by_cases hlt : k < vs.length
    ·have hov := HOU.out _ HR2.out
     have hvk : vs[k]? = some vs[k] := List.getElem?_eq_getElem hlt
     obtain ⟨v, hv⟩ : ∃ v, vs[k] = v := ⟨_, rfl⟩
     rw [hv] at hvk
     obtain ⟨GO, capO, eO, _, _⟩ := hov.form (by omega)
     have eA : AO = some ⟨GO, 0, none⟩ := by injection eO
     obtain ⟨xs0, hx0, _⟩ := HP2.out.row k v hvk
     obtain ⟨Av, cv, ev⟩ := own_slice hx0
     obtain ⟨n, hn⟩ : ∃ n, lenV v = n := ⟨_, rfl⟩
     have hnl : n ≤ 1000000000 := by rw [← hn]; exact HLN.out v (by rw [← hv]; exact List.getElem_mem hlt)
     rw [hn] at ev
     subst ev
     have HVK := Aside0.mk hvk
     have EA := Aside0.mk eA
     have xkk : ∀ W, Rest vs w0 W → W.cell? ⟨GO, k, none⟩ = some (.slice Av n cv) := fun W h => by
      have h1 := HOU.out W h
      rw [EA.out] at h1
      exact (own_cell h1 (by omega)).trans HVK.out
     have XKK := Aside0.mk xkk
     have xk := XKK.out _ HR2.out
     clear hx0 hv hov eO hn hvk eA xkk
     rw [EA.out]
     go_wp2
     go_loopw [7, 8] (fun gv iv wr => ∃ (i : Nat) (gV : Value), gV = gv ∧ iv = .int .i64 (i : Nat) ∧ i ≤ 64 ∧ Aside0 (PG MR RMR 43 1 w0.heap.size vs us k n i gV wr) ∧ Aside0 (wr.ownsRow w0.heap.size 22 1 gsV k us) ∧ Aside0 (Rest vs w0 wr)) (fun _ iv _ => 64 - (RowKit.intOf iv).toNat)
     case atStart => exact ⟨0, _, rfl, rfl, Nat.zero_le _, ⟨PG.start HVK.out HP2.out⟩, HGS, HR2⟩
     case round =>
      clear xk
      obtain ⟨i, gV, rfl, rfl, hi, HPG, HGS2, HR3⟩ := hrel
      by_cases hin : i < 64
      ·have xk := XKK.out _ HR3.out
       have hmt := mark_calls k (n + i) (k : Nat) ((n : Int) + (i : Int)) rfl (by simp) wr
       have HMT := Aside0.mk hmt
       obtain ⟨xsg, hxsg, hcsg⟩ := HPG.out.g
       obtain ⟨Ag, cg, eg⟩ := own_slice hxsg
       clear hxsg hcsg
       subst eg
       clear hmt
       go_wp2_with fail
       refine HMT.out.mono ?_
       rintro e wm ⟨rfl, hbm⟩
       have HPGm := Aside0.mk (HPG.out.below MR_ok RMR_ok hbm)
       have HGSm := Aside0.mk (own_below HGS2.out hbm)
       have HRm := Aside0.mk (HR3.out.below hbm)
       clear hbm xk
       have hba := alloc_below wm (.cells #[.int .i64 (mkv k (n + i))] 3)
       have HSm : Aside0 (MR (wm.alloc (.cells #[.int .i64 (mkv k (n + i))] 3)) k (n + i) [.slice (some ⟨wm.heap.size, 0, none⟩) 1 1]) := ⟨⟨_, rfl, heap_alloc_new wm _⟩⟩
       have n1_ := Aside0.mk (HPGm.out.below MR_ok RMR_ok hba)
       have n2_ := Aside0.mk (own_below HGSm.out hba)
       have n3_ := Aside0.mk (HRm.out.below hba)
       clear HPGm HGSm HRm hba
       have HPGm := n1_
       have HGSm := n2_
       have HRm := n3_
       clear n1_ n2_ n3_
       go_wp2_with (first | (at_builtin; refine wpList_append_PG (MK := MR) (e := 43) (sz := 1) (bytes := 24) (tI := 3) MR_ok RMR_ok (by decide) rfl (.tmp 55) (.tmp 66) 22 rfl Tryz.underlying22 info43I rfl (by decide) (seg := [.slice (some ⟨wm.heap.size, 0, none⟩) 1 1]) (m := n + i) rfl (Nat.le_of_eq HUL.out) rfl (by rw [World.size_alloc]; rfl) HSm.out HPGm.out HRm.out.size (by unfold maxLen; omega) (by omega) ?_))
       intro gV2 w2 hPG2 hg2
       have HR2b := Aside0.mk (HRm.out.grown HPGm.out hg2)
       have HGS2b := Aside0.mk (own_keep HGSm.out fun b hb => hg2.block b (own_lt HGSm.out b hb).2 (fun e => by
        obtain ⟨c1, h1⟩ := own_typed HGSm.out b hb
        obtain ⟨xsm, hxm, _⟩ := HPGm.out.g
        obtain ⟨c2, h2⟩ := own_typed hxm b e.symm
        exact blk_ne h1 h2 (by decide) rfl))
       have HPG2 := Aside0.mk hPG2
       clear hPG2 hg2
       go_wp2_with fail
       go_roundw
       case rel => exact ⟨i + 1, gV2, rfl, by simp, by omega, HPG2, HGS2b, HR2b⟩
       case measure => simp [RowKit.intOf]; omega
      ·have hie : i = 64 := by omega
       subst hie
       obtain ⟨xsg, hxsg, hcsg⟩ := HPG.out.g
       obtain ⟨Ag, cg, eg⟩ := own_slice hxsg
       clear hxsg hcsg
       subst eg
       have hpd := HPG.out.done HUL.out HVK.out rfl (fun xs h => h)
       have HPD := Aside0.mk hpd
       clear hpd
       go_wp2_with (first | (at_builtin; refine wpList_append_val (e := 22) (bytes := 24) rfl (.tmp 68) (.tmp 70) 87 rfl Tryz.underlying87 info22R rfl (gsV := gsV) rfl rfl rfl HGS2.out HR3.out.size (by unfold maxLen; omega) (by omega) ?_))
       intro gsV2 w2 hgs2 hg2
       have HP2b := Aside0.mk (HPD.out.val MR_ok RMR_ok (by decide) (by decide) HGS2.out hg2)
       have HR2b := Aside0.mk (HR3.out.val HGS2.out hg2)
       have HGS2b := Aside0.mk hgs2
       have HUL2 := Aside0.mk (show (us ++ [Value.slice Ag (n + 64) cg]).length = k + 1 by rw [List.length_append, HUL.out]; rfl)
       clear hgs2 hg2
       go_wp2_with fail
       go_roundw
       case rel => exact ⟨k + 1, _, gsV2, rfl, by simp, by omega, HUL2, HGS2b, HP2b, HR2b⟩
       case measure => simp [RowKit.intOf]; omega
    ·have hke : k = vs.length := by omega
     subst hke
     clear hk hlt
     go_wp2
     go_loopw [9] (fun kv wr => ∃ k : Nat, kv = .int .i64 (k : Nat) ∧ k ≤ vs.length ∧ Aside0 (wr.ownsRow w0.heap.size 22 1 gsV vs.length us) ∧ Aside0 (P2 MR RMR 43 1 vs us wr) ∧ Aside0 (Rest vs w0 wr)) (fun kv _ => vs.length - (RowKit.intOf kv).toNat)
     case atStart => exact ⟨0, rfl, Nat.zero_le _, HGS, HP2, HR2⟩
     case round =>
      clear HP2 HR2 HGS
      obtain ⟨k, rfl, hk, HGS, HP2, HR2⟩ := hrel
      obtain ⟨Ags, cgs, egs⟩ := own_slice HGS.out
      subst egs
      by_cases hlt : k < vs.length
      ·have hov := HOU.out _ HR2.out
       have hvk : vs[k]? = some vs[k] := List.getElem?_eq_getElem hlt
       obtain ⟨v, hv⟩ : ∃ v, vs[k] = v := ⟨_, rfl⟩
       rw [hv] at hvk
       have huk : us[k]? = some (us[k]'(by rw [HUL.out]; exact hlt)) := List.getElem?_eq_getElem _
       obtain ⟨u, hu⟩ : ∃ u, us[k]'(by rw [HUL.out]; exact hlt) = u := ⟨_, rfl⟩
       rw [hu] at huk
       obtain ⟨GO, capO, eO, _, _⟩ := hov.form (by omega)
       have eA : AO = some ⟨GO, 0, none⟩ := by injection eO
       obtain ⟨GG, capG, eG, _, _⟩ := HGS.out.form (by omega)
       have eAG : Ags = some ⟨GG, 0, none⟩ := by injection eG
       subst eAG
       obtain ⟨xs0, hx0, _⟩ := HP2.out.row k v hvk
       obtain ⟨Av, cv, ev⟩ := own_slice hx0
       obtain ⟨xg, hg0, hxg⟩ := HP2.out.got k u v huk hvk
       clear hxg
       obtain ⟨n, hn⟩ : ∃ n, lenV v = n := ⟨_, rfl⟩
       have hnl : n ≤ 1000000000 := by rw [← hn]; exact HLN.out v (by rw [← hv]; exact List.getElem_mem hlt)
       rw [hn] at ev hg0
       subst ev
       obtain ⟨g, cu, eu, _, _⟩ := hg0.form (by omega)
       subst eu
       have HVK := Aside0.mk hvk
       have HUK := Aside0.mk huk
       have EA := Aside0.mk eA
       have XKK := Aside0.mk (fun (W : World) (h : Rest vs w0 W) => show W.cell? ⟨GO, k, none⟩ = some (.slice Av n cv) by
        have h1 := HOU.out W h
        rw [EA.out] at h1
        exact (own_cell h1 (by omega)).trans HVK.out)
       have YKK := Aside0.mk (fun (W : World) (h : W.ownsRow w0.heap.size 22 1 (.slice (some ⟨GG, 0, none⟩) vs.length cgs) vs.length us) => show W.cell? ⟨GG, k, none⟩ = some (.slice (some ⟨g, 0, none⟩) (n + 64) cu) from (own_cell h (by omega)).trans HUK.out)
       have xk := XKK.out _ HR2.out
       have yk := YKK.out _ HGS.out
       clear hx0 hg0 hv hu hov eO eG hn hvk huk eA
       rw [EA.out]
       go_wp2
       go_loopw [10] (fun iv wr => ∃ i : Nat, iv = .int .i64 (i : Nat) ∧ i ≤ n + 64 ∧ Aside0 (wr.ownsRow w0.heap.size 22 1 (.slice (some ⟨GG, 0, none⟩) vs.length cgs) vs.length us) ∧ Aside0 (P2 MR RMR 43 1 vs us wr) ∧ Aside0 (Rest vs w0 wr)) (fun iv _ => n + 64 - (RowKit.intOf iv).toNat)
       case atStart => exact ⟨0, rfl, Nat.zero_le _, HGS, HP2, HR2⟩
       case round =>
        clear xk yk
        obtain ⟨i, rfl, hi, HGS3, HP3, HR3⟩ := hrel
        have xk := XKK.out _ HR3.out
        have yk := YKK.out _ HGS3.out
        by_cases hin : i < n + 64
        ·obtain ⟨xg3, hg3, hxg3⟩ := HP3.out.got k _ _ HUK.out HVK.out
         obtain ⟨xv3, hv3, hcv3⟩ := HP3.out.row k _ HVK.out
         obtain ⟨gl, yu0, yu1⟩ := cell_MR hg3 hxg3 rfl hin
         have hu0 : ∀ j : Wb wr, j.val.cell? ⟨g, i, none⟩ = some (.slice (some ⟨gl, 0, none⟩) 1 1) := fun j => Kd.cell_heap (fun b hb => j.bel.block b hb) yu0
         have hu1 : ∀ j : Wb wr, j.val.cell? ⟨gl, 0, none⟩ = some (.int .i64 (mkv k i)) := fun j => Kd.cell_heap (fun b hb => j.bel.block b hb) yu1
         clear yu0 yu1
         have hxk : ∀ j : Wb wr, j.val.cell? ⟨GO, k, none⟩ = some (.slice Av n cv) := fun j => Kd.cell_heap (fun b hb => j.bel.block b hb) xk
         have hyk : ∀ j : Wb wr, j.val.cell? ⟨GG, k, none⟩ = some (.slice (some ⟨g, 0, none⟩) (n + 64) cu) := fun j => Kd.cell_heap (fun b hb => j.bel.block b hb) yk
         have HMT := Aside0.mk (fun j : Wb wr => show Calls Tryz.prog 18 #[.int .i64 (k : Nat), .int .i64 (i : Nat)] j.val fun e w' => e = .returned (.int .i64 (mkv k i)) ∧ ∃ q : Wb wr, w' = q.val from
          (mark_calls k i k i rfl rfl j.val).mono fun e w' h => ⟨h.1, ⟨⟨w', j.bel.trans (h.2.mono j.bel.size)⟩, rfl⟩⟩)
         have hnw : Nonempty (Wb wr) := ⟨⟨wr, Below.refl _ _⟩⟩
         by_cases hiv : i < n
         case' pos =>
          obtain ⟨g1, c1, e1, _, _⟩ := hv3.form (by show 0 < n; omega)
          have e2 : Av = some ⟨g1, 0, none⟩ := by injection e1
          subst e2
          obtain ⟨gm, yv0, yv1⟩ := cell_MR hv3 hcv3 rfl hiv
          have hv0 : ∀ j : Wb wr, j.val.cell? ⟨g1, i, none⟩ = some (.slice (some ⟨gm, 0, none⟩) 1 1) := fun j => Kd.cell_heap (fun b hb => j.bel.block b hb) yv0
          have hv1 : ∀ j : Wb wr, j.val.cell? ⟨gm, 0, none⟩ = some (.int .i64 (mkv k i)) := fun j => Kd.cell_heap (fun b hb => j.bel.block b hb) yv1
          clear yv0 yv1
          have hd0 : decide (i < n) = true := decide_eq_true hiv
          have hd1 : decide ((i : Int) < (n : Int)) = true := decide_eq_true (by omega)
          clear e1
         case' neg =>
          have hd0 : decide (i < n) = false := decide_eq_false hiv
          have hd1 : decide ((i : Int) < (n : Int)) = false := decide_eq_false (by omega)
         all_goals
          as_aux_lemma =>
           clear hg3 hv3
           go_wp2
           refine region_clsK (by kernel_rfl) (reg72.lex24 _ (by kernel_rfl)) ?_
           try simp only [List.append_eq, List.cons_append, List.nil_append]
           repeat (go_big_quiet_step (first | (go_at_call 18; exact HMT.out _)))
           refine wpQuiet_nil ?_
           intro _ hw'
           obtain ⟨j, hw''⟩ := hw'
           subst hw''
           have HGS4 := Aside0.mk (own_below HGS3.out j.bel)
           have HP4 := Aside0.mk (HP3.out.below MR_ok RMR_ok j.bel)
           have HR4 := Aside0.mk (HR3.out.below j.bel)
           clear hu0 hu1 hxk hyk xk yk hxg3 hcv3
           go_wp2
           go_roundw
           case rel => exact ⟨i + 1, by simp, by omega, HGS4, HP4, HR4⟩
           case measure => simp [RowKit.intOf]; omega
        ·have hie : i = n + 64 := by omega
         subst hie
         go_wp2
         go_roundw
         case rel => exact ⟨k + 1, by simp, by omega, HGS3, HP3, HR3⟩
         case measure => simp [RowKit.intOf]; omega
      ·have hke : k = vs.length := by omega
       subst hke
       have HP0 := Aside0.mk (HP2.out.rows (R' := RTR))
       clear hk hlt HP2
       go_wp2
       go_loopw [11] (fun kv wr => ∃ (k : Nat) (us : List Value), kv = .int .i64 (k : Nat) ∧ k ≤ vs.length ∧ Aside0 (us.length = vs.length) ∧ Aside0 (wr.ownsRow w0.heap.size 22 1 (.slice Ags vs.length cgs) vs.length us) ∧ Aside0 (P2 MR RTR 43 1 vs (us.take k) wr) ∧ Aside0 (Rest vs w0 wr)) (fun kv _ => vs.length - (RowKit.intOf kv).toNat)
       case atStart => exact ⟨0, us, rfl, Nat.zero_le _, HUL, HGS, HP0, HR2⟩
       case round =>
        clear HP0 HR2 HGS HUL
        obtain ⟨k, us, rfl, hk, HUL, HGS, HP2, HR2⟩ := hrel
        by_cases hlt : k < vs.length
        ·have HTL := Aside0.mk (show (us.take k).length = k by rw [List.length_take, HUL.out]; omega)
         obtain ⟨GO, capO, eO, _, _⟩ := (HOU.out _ HR2.out).form (by omega)
         have eA : AO = some ⟨GO, 0, none⟩ := by injection eO
         obtain ⟨GG, capG, eG, _, _⟩ := HGS.out.form (by omega)
         have eAG : Ags = some ⟨GG, 0, none⟩ := by injection eG
         subst eAG
         have EA := Aside0.mk eA
         clear eO eG eA
         rw [EA.out]
         go_wp2
         go_loopw [12, 13] (fun mv iv wr => ∃ (i : Nat) (mV : Value), mV = mv ∧ iv = .int .i64 (i : Nat) ∧ i ≤ 64 ∧ Aside0 (PG MR RTR 43 1 w0.heap.size vs (us.take k) (k + vs.length) 0 i mV wr) ∧ Aside0 (wr.ownsRow w0.heap.size 22 1 (.slice (some ⟨GG, 0, none⟩) vs.length cgs) vs.length us) ∧ Aside0 (Rest vs w0 wr)) (fun _ iv _ => 64 - (RowKit.intOf iv).toNat)
         case atStart => exact ⟨0, _, rfl, rfl, Nat.zero_le _, ⟨PG.nil HP2.out⟩, HGS, HR2⟩
         case round =>
          clear HP2 HGS HR2
          obtain ⟨i, mV, rfl, rfl, hi, HPG, HGS2, HR3⟩ := hrel
          by_cases hin : i < 64
          ·have HMT := Aside0.mk (mark_calls (k + vs.length) i ((k : Int) + (vs.length : Int)) (i : Nat) (by simp) rfl wr)
           go_wp2_with fail
           refine HMT.out.mono ?_
           rintro e wm ⟨rfl, hbm⟩
           have HPGm := Aside0.mk (HPG.out.below MR_ok RTR_ok hbm)
           have HGSm := Aside0.mk (own_below HGS2.out hbm)
           have HRm := Aside0.mk (HR3.out.below hbm)
           clear hbm
           have hba := alloc_below wm (.cells #[.int .i64 (mkv (k + vs.length) i)] 3)
           have HSm : Aside0 (MR (wm.alloc (.cells #[.int .i64 (mkv (k + vs.length) i)] 3)) (k + vs.length) i [.slice (some ⟨wm.heap.size, 0, none⟩) 1 1]) := ⟨⟨_, rfl, heap_alloc_new wm _⟩⟩
           have n1_ := Aside0.mk (HPGm.out.below MR_ok RTR_ok hba)
           have n2_ := Aside0.mk (own_below HGSm.out hba)
           have n3_ := Aside0.mk (HRm.out.below hba)
           clear HPGm HGSm HRm hba
           have HPGm := n1_
           have HGSm := n2_
           have HRm := n3_
           clear n1_ n2_ n3_
           obtain ⟨xsq, hxq, _⟩ := HPGm.out.g
           obtain ⟨Am, cm, em⟩ := own_slice hxq
           clear hxq
           rw [Nat.zero_add] at em
           subst em
           go_wp2_with (first | (at_builtin; refine wpList_append_PG (MK := MR) (e := 43) (sz := 1) (bytes := 24) (tI := 3) MR_ok RTR_ok (by decide) rfl (.tmp 158) (.tmp 166) 22 rfl Tryz.underlying22 info43I rfl (by decide) (seg := [.slice (some ⟨wm.heap.size, 0, none⟩) 1 1]) (m := i) (Nat.zero_add i).symm (by rw [HTL.out]; omega) rfl (by rw [World.size_alloc]; rfl) HSm.out HPGm.out HRm.out.size (by unfold maxLen; omega) (by omega) ?_))
           intro mV2 w2 hPG2 hg2
           have HR2b := Aside0.mk (HRm.out.grown HPGm.out hg2)
           have HGS2b := Aside0.mk (own_keep HGSm.out fun b hb => hg2.block b (own_lt HGSm.out b hb).2 (fun e => by
            obtain ⟨c1, h1⟩ := own_typed HGSm.out b hb
            obtain ⟨xsm, hxm, _⟩ := HPGm.out.g
            obtain ⟨c2, h2⟩ := own_typed hxm b e.symm
            exact blk_ne h1 h2 (by decide) rfl))
           have HPG2 := Aside0.mk hPG2
           clear hPG2 hg2
           go_wp2_with fail
           go_roundw
           case rel => exact ⟨i + 1, mV2, rfl, by simp, by omega, HPG2, HGS2b, HR2b⟩
           case measure => simp [RowKit.intOf]; omega
          ·have hie : i = 64 := by omega
           subst hie
           obtain ⟨xm, hmg, hcm⟩ := HPG.out.g
           rw [Nat.zero_add] at hmg hcm
           obtain ⟨gm, cm, em, _, _⟩ := hmg.form (by decide)
           subst em
           have HMG := Aside0.mk hmg
           have hvk : vs[k]? = some vs[k] := List.getElem?_eq_getElem hlt
           obtain ⟨v, hv⟩ : ∃ v, vs[k] = v := ⟨_, rfl⟩
           rw [hv] at hvk
           have hov := HOU.out _ HR3.out
           obtain ⟨xs0, hx0, _⟩ := HPG.out.p.row k v hvk
           obtain ⟨Av, cv, ev⟩ := own_slice hx0
           obtain ⟨n, hn⟩ : ∃ n, lenV v = n := ⟨_, rfl⟩
           have hnl : n ≤ 1000000000 := by rw [← hn]; exact HLN.out v (by rw [← hv]; exact List.getElem_mem hlt)
           rw [hn] at ev
           subst ev
           have HVK := Aside0.mk hvk
           have xk : wr.cell? ⟨GO, k, none⟩ = some (.slice Av n cv) := by
            rw [EA.out] at hov
            exact (own_cell hov (by omega)).trans HVK.out
           clear hmg hv hov hx0 hn hvk
           go_wp2_with (first | (at_builtin; refine wpList_append_many (MK := MR) (e := 43) (sz := 1) (bytes := 24) (tI := 3) MR_ok RTR_ok (by decide) rfl (.tmp 173) (.tmp 174) 22 rfl Tryz.underlying22 info43I rfl (by decide) HTL.out HVK.out rfl rfl HMG.out (hcm.one MR_ok (by decide)) HPG.out.p (fun W ys h => ⟨ys, xm, rfl, h⟩) (by unfold maxLen; omega) (by omega) ?_))
           intro gV2 w2 hP2 hg2 ho2
           have hkk : (us.take k ++ [gV2])[k]? = some gV2 := by
            have h := HTL.out
            rw [List.getElem?_append_right (by omega), h, Nat.sub_self]
            rfl
           obtain ⟨xs2, hx2, _⟩ := hP2.got k gV2 _ hkk HVK.out
           obtain ⟨A2, c2, e2⟩ := own_slice hx2
           have hgs : w2.ownsRow w0.heap.size 22 1 (.slice (some ⟨GG, 0, none⟩) vs.length cgs) vs.length us := own_keep HGS2.out fun b hb => hg2.block b (own_lt HGS2.out b hb).2 (fun e => by
            obtain ⟨c1, h1⟩ := own_typed HGS2.out b hb
            obtain ⟨xsr, hxr, _⟩ := HPG.out.p.row k _ HVK.out
            obtain ⟨c2, h2⟩ := own_typed hxr b e.symm
            exact blk_ne h1 h2 (by decide) rfl)
           have yk : w2.cell? ⟨GG, k, none⟩ = us[k]? := own_cell hgs (by omega)
           rw [List.getElem?_eq_getElem (show k < us.length by rw [HUL.out]; exact hlt)] at yk
           obtain ⟨curG, hcG, hBG, _⟩ := own_at hgs
           have fk := blk_frozen hcG k
           have HR4 := Aside0.mk (HR3.out.vrow (List.mem_of_getElem? HVK.out) hg2)
           have HGS4 := Aside0.mk hgs
           have HP4 := Aside0.mk hP2
           have HCG := Aside0.mk hcG
           have HBG := Aside0.mk hBG
           subst e2
           clear hP2 hg2 ho2 hkk hx2 hgs hcG hBG xk
           go_wp2_with fail
           have hseg := own_seg HGS4.out (o := k) (seg := [Value.slice A2 (lenV (.slice Av n cv) + 64) c2]) (by show k + 1 ≤ vs.length * 1; omega)
           have hut : (us.take k ++ [Value.slice A2 (lenV (.slice Av n cv) + 64) c2] ++ us.drop (k + [Value.slice A2 (lenV (.slice Av n cv) + 64) c2].length)).take (k + 1) = us.take k ++ [Value.slice A2 (lenV (.slice Av n cv) + 64) c2] := by
            have h := HTL.out
            rw [List.take_append_of_le_length (by rw [List.length_append, h]; simp), List.take_of_length_le (by rw [List.length_append, h]; simp)]
           have hP5 : P2 MR RTR 43 1 vs (us.take k ++ [Value.slice A2 (lenV (.slice Av n cv) + 64) c2]) (w2.setCells GG k [Value.slice A2 (lenV (.slice Av n cv) + 64) c2]) := HP4.out.keep MR_ok RTR_ok (fun j b hj hb => below_seg (by
            rintro rfl
            obtain ⟨c1, h1⟩ := (HP4.out.lt hj).2
            exact blk_ne h1 HCG.out (by decide) rfl)) (Kp.seg (cur' := []) HCG.out (by decide))
           go_roundw
           case rel => exact ⟨k + 1, _, by simp, by omega, ⟨by have h := own_len hseg; rw [Nat.mul_one] at h; exact h⟩, ⟨hseg⟩, ⟨by rw [hut]; exact hP5⟩, ⟨show Rest vs w0 (w2.setCells GG k [Value.slice A2 (lenV (.slice Av n cv) + 64) c2]) from HR4.out.far HBG.out⟩⟩
           case measure => simp [RowKit.intOf]; omega
        ·have hke : k = vs.length := by omega
         subst hke
         have HP5 := Aside0.mk (show P2 MR RTR 43 1 vs us wr by
          have h := HP2.out
          rwa [List.take_of_length_le (by rw [HUL.out]; exact Nat.le_refl _)] at h)
         clear hk hlt HP2
         go_wp2
         go_loopw [14] (fun kv wr => ∃ k : Nat, kv = .int .i64 (k : Nat) ∧ k ≤ vs.length ∧ Aside0 (wr.ownsRow w0.heap.size 22 1 (.slice Ags vs.length cgs) vs.length us) ∧ Aside0 (P2 MR RTR 43 1 vs us wr) ∧ Aside0 (Rest vs w0 wr)) (fun kv _ => vs.length - (RowKit.intOf kv).toNat)
         case atStart => exact ⟨0, rfl, Nat.zero_le _, HGS, HP5, HR2⟩
         case round =>
          clear HP5 HR2 HGS
          obtain ⟨k, rfl, hk, HGS, HP2, HR2⟩ := hrel
          by_cases hlt : k < vs.length
          ·have hov := HOU.out _ HR2.out
           have hvk : vs[k]? = some vs[k] := List.getElem?_eq_getElem hlt
           obtain ⟨v, hv⟩ : ∃ v, vs[k] = v := ⟨_, rfl⟩
           rw [hv] at hvk
           have huk : us[k]? = some (us[k]'(by rw [HUL.out]; exact hlt)) := List.getElem?_eq_getElem _
           obtain ⟨u, hu⟩ : ∃ u, us[k]'(by rw [HUL.out]; exact hlt) = u := ⟨_, rfl⟩
           rw [hu] at huk
           obtain ⟨GO, capO, eO, _, _⟩ := hov.form (by omega)
           have eA : AO = some ⟨GO, 0, none⟩ := by injection eO
           obtain ⟨GG, capG, eG, _, _⟩ := HGS.out.form (by omega)
           have eAG : Ags = some ⟨GG, 0, none⟩ := by injection eG
           subst eAG
           obtain ⟨xs0, hx0, _⟩ := HP2.out.row k v hvk
           obtain ⟨Av, cv, ev⟩ := own_slice hx0
           obtain ⟨xg, hg0, _⟩ := HP2.out.got k u v huk hvk
           obtain ⟨n, hn⟩ : ∃ n, lenV v = n := ⟨_, rfl⟩
           have hnl : n ≤ 1000000000 := by rw [← hn]; exact HLN.out v (by rw [← hv]; exact List.getElem_mem hlt)
           rw [hn] at ev hg0
           subst ev
           obtain ⟨g, cu, eu, _, _⟩ := hg0.form (by omega)
           subst eu
           have HVK := Aside0.mk hvk
           have HUK := Aside0.mk huk
           have EA := Aside0.mk eA
           have XKK := Aside0.mk (fun (W : World) (h : Rest vs w0 W) => show W.cell? ⟨GO, k, none⟩ = some (.slice Av n cv) by
            have h1 := HOU.out W h
            rw [EA.out] at h1
            exact (own_cell h1 (by omega)).trans HVK.out)
           have YKK := Aside0.mk (fun (W : World) (h : W.ownsRow w0.heap.size 22 1 (.slice (some ⟨GG, 0, none⟩) vs.length cgs) vs.length us) => show W.cell? ⟨GG, k, none⟩ = some (.slice (some ⟨g, 0, none⟩) (n + 64) cu) from (own_cell h (by omega)).trans HUK.out)
           have xk := XKK.out _ HR2.out
           clear hx0 hg0 hv hu hov eO eG hn hvk huk eA
           rw [EA.out]
           go_wp2
           go_loopw [15] (fun iv wr => ∃ i : Nat, iv = .int .i64 (i : Nat) ∧ i ≤ n ∧ Aside0 (wr.ownsRow w0.heap.size 22 1 (.slice (some ⟨GG, 0, none⟩) vs.length cgs) vs.length us) ∧ Aside0 (P2 MR RTR 43 1 vs us wr) ∧ Aside0 (Rest vs w0 wr)) (fun iv _ => n - (RowKit.intOf iv).toNat)
           case atStart => exact ⟨0, rfl, Nat.zero_le _, HGS, HP2, HR2⟩
           case round =>
            clear xk
            obtain ⟨i, rfl, hi, HGS3, HP3, HR3⟩ := hrel
            have xk := XKK.out _ HR3.out
            have yk := YKK.out _ HGS3.out
            by_cases hin : i < n
            ·obtain ⟨xg3, hg3, ys3, zs3, hxg3, hcy3⟩ := HP3.out.got k _ _ HUK.out HVK.out
             subst hxg3
             have hg4 := own_prefix hg3 hcy3.len
             obtain ⟨xv3, hv3, hcv3⟩ := HP3.out.row k _ HVK.out
             obtain ⟨gl, yu0, yu1⟩ := cell_MR hg4 hcy3 rfl hin
             have hu0 : ∀ j : Wb wr, j.val.cell? ⟨g, i, none⟩ = some (.slice (some ⟨gl, 0, none⟩) 1 1) := fun j => Kd.cell_heap (fun b hb => j.bel.block b hb) yu0
             have hu1 : ∀ j : Wb wr, j.val.cell? ⟨gl, 0, none⟩ = some (.int .i64 (mkv k i)) := fun j => Kd.cell_heap (fun b hb => j.bel.block b hb) yu1
             clear yu0 yu1
             have hxk : ∀ j : Wb wr, j.val.cell? ⟨GO, k, none⟩ = some (.slice Av n cv) := fun j => Kd.cell_heap (fun b hb => j.bel.block b hb) xk
             have hyk : ∀ j : Wb wr, j.val.cell? ⟨GG, k, none⟩ = some (.slice (some ⟨g, 0, none⟩) (n + 64) cu) := fun j => Kd.cell_heap (fun b hb => j.bel.block b hb) yk
             have HMT := Aside0.mk (fun j : Wb wr => show Calls Tryz.prog 18 #[.int .i64 (k : Nat), .int .i64 (i : Nat)] j.val fun e w' => e = .returned (.int .i64 (mkv k i)) ∧ ∃ q : Wb wr, w' = q.val from
              (mark_calls k i k i rfl rfl j.val).mono fun e w' h => ⟨h.1, ⟨⟨w', j.bel.trans (h.2.mono j.bel.size)⟩, rfl⟩⟩)
             have hnw : Nonempty (Wb wr) := ⟨⟨wr, Below.refl _ _⟩⟩
             obtain ⟨g1, c1, e1, _, _⟩ := hv3.form (by show 0 < n; omega)
             have e2 : Av = some ⟨g1, 0, none⟩ := by injection e1
             subst e2
             obtain ⟨gm, yv0, yv1⟩ := cell_MR hv3 hcv3 rfl hin
             have hv0 : ∀ j : Wb wr, j.val.cell? ⟨g1, i, none⟩ = some (.slice (some ⟨gm, 0, none⟩) 1 1) := fun j => Kd.cell_heap (fun b hb => j.bel.block b hb) yv0
             have hv1 : ∀ j : Wb wr, j.val.cell? ⟨gm, 0, none⟩ = some (.int .i64 (mkv k i)) := fun j => Kd.cell_heap (fun b hb => j.bel.block b hb) yv1
             clear yv0 yv1
             as_aux_lemma =>
              clear e1 hg3 hg4 hv3
              go_wp2
              refine region_clsK (by kernel_rfl) (reg72.lex41 _ (by kernel_rfl)) ?_
              try simp only [List.append_eq, List.cons_append, List.nil_append]
              repeat (go_big_quiet_step (first | (go_at_call 18; exact HMT.out _)))
              refine wpQuiet_nil ?_
              intro _ hw'
              obtain ⟨j, hw''⟩ := hw'
              subst hw''
              have HGS4 := Aside0.mk (own_below HGS3.out j.bel)
              have HP4 := Aside0.mk (HP3.out.below MR_ok RTR_ok j.bel)
              have HR4 := Aside0.mk (HR3.out.below j.bel)
              clear hu0 hu1 hxk hyk xk yk hv0 hv1 hcv3 hcy3
              go_wp2
              go_roundw
              case rel => exact ⟨i + 1, by simp, by omega, HGS4, HP4, HR4⟩
              case measure => simp [RowKit.intOf]; omega
            ·have hie : i = n := by omega
             subst hie
             go_wp2
             go_roundw
             case rel => exact ⟨k + 1, by simp, by omega, HGS3, HP3, HR3⟩
             case measure => simp [RowKit.intOf]; omega
          ·have hke : k = vs.length := by omega
           subst hke
           go_wp2
           go_ret
           exact ⟨rfl, HR2.out⟩
end Go.Proofs.YtlhajfepcggjaaaGreatDoor.KP

set_option linter.unusedVariables false
set_option linter.unusedSimpArgs false
namespace Go.Proofs.YtlhajfepcggjaaaGreatDoor.KP
open Go Go.RowKit Go.Proofs.YtlhajfepcggjaaaGreatDoorW.PrintWords Go.Proofs.YtlhajfepcggjaaaGreatDoorW.PrintLast Go.Proofs.YtlhajfepcggjaaaGreatDoorW.PrintMore

section
variable {P : Program} {ops : Array Oper} {rest : List Oper} {o : Oper} {a : Act} {Q : Exit → Act → World → Prop}
/-- A row appended to a row of the call's own. -/
theorem wpList_append_row {e bytes base : Nat} {z : Value} (hgd : o.guard = none) (s x : Operand) (t : TypeId)
  (ho : o.op = .call { callee := .builtin .append, args := #[s, x], argTypes := #[t, t] }) (ht : P.underlying t = some (.slice e)) (hinfo : (P.info? e).map (fun i => (i.zero, i.size, i.bytes)) = some (some z, 1, bytes)) (hz : z.cells.size = 1)
  {us ys : List Value} {k m : Nat} {gsV v : Value} {w : World} (hs : a.eval s = gsV) (hx : a.eval x = v) (hv : w.ownsRow 0 e 1 v m ys) (h1 : ∀ u ∈ ys, u.oneCell' = true)
  (hown : w.ownsRow base e 1 gsV k us) (hB : base ≤ w.heap.size) (hl : k + m ≤ maxLen) (hby : (k + m) * bytes ≤ 140737488355328)
  (h : ∀ v' w', w'.ownsRow base e 1 v' (k + m) (us ++ ys) → w.grownBy w' gsV.ownBlock → wpList P ops Q rest (a.put o.dst v') w') : wpList P ops Q (o :: rest) a w := by
 obtain ⟨ti, hti, hq⟩ := Option.map_eq_some_iff.1 hinfo
 simp only [Prod.mk.injEq] at hq
 obtain ⟨q1, q2, q3⟩ := hq
 have hlen := own_len hv
 rw [Nat.mul_one] at hlen
 rcases hv.2 with ⟨h0, hm0⟩ | ⟨g, cap, cur, hvv, hb, hg, hr⟩
 ·subst hm0
  have hys : ys = [] := List.length_eq_zero_iff.1 hlen
  subst hys
  refine wpList_append_own_none hgd s x t ho base e ti 1 ht hti gsV k us hs hown (by rw [hx, h0]) ?_
  exact h gsV w (by simpa using hown) ⟨rfl, rfl, rfl, Nat.le_refl _, fun _ _ _ => rfl⟩
 ·subst hvv
  refine wpList_append_own_at w hgd s x t ho base e ti z 1 bytes ht hti q1 q2 q3 hz (by decide) gsV k us hs hown ⟨g, 0, none⟩ m cap ys hx (by rw [hlen, Nat.mul_one]) (own_news hv) h1 hl hby hB ?_
  intro v' w' ho' hg' _ _
  exact h v' w' ho' hg'
end
/-- The rows of the first k lists. -/
def rowsK (X : Nat → List Value) : Nat → List Value
 | 0 => []
 | k + 1 => rowsK X k ++ X k
theorem rowsK_le (X : Nat → List Value) : ∀ K k : Nat, k < K → (rowsK X k).length + (X k).length ≤ (rowsK X K).length
 | 0, k, h => absurd h (Nat.not_lt_zero _)
 | K + 1, k, h => by
  rw [rowsK, List.length_append]
  by_cases hk : k = K
  ·subst hk; exact Nat.le_refl _
  ·have := rowsK_le X K k (by omega)
   omega
theorem rowsK_mem (X : Nat → List Value) : ∀ K k : Nat, k < K → ∀ u ∈ X k, u ∈ rowsK X K
 | 0, k, h => absurd h (Nat.not_lt_zero _)
 | K + 1, k, h => fun u hu => by
  rw [rowsK]
  by_cases hk : k = K
  ·subst hk; exact List.mem_append_right _ hu
  ·exact List.mem_append_left _ (rowsK_mem X K k (by omega) u hu)
set_option maxHeartbeats 16000000 in
set_option maxRecDepth 100000 in
theorem apartClauses_calls (V : Value) (vs : List Value) (X : Nat → List Value) (bO : Nat) (w0 : World) (hO : w0.ownsRow bO 22 1 V vs.length vs) (hrows : ∀ (j : Nat) (v : Value), vs[j]? = some v → w0.ownsRow 0 43 1 v (lenV v) (X j))
  (hF : ∀ (j : Nat) (u : Value), (rowsK X vs.length)[j]? = some u → ∃ xs, w0.ownsRow 0 3 1 u (lenV u) xs) (hap : apart vs) (hapF : apart (rowsK X vs.length)) (hlen : vs.length ≤ 1000000000) (hln : ∀ v ∈ vs, lenV v ≤ 1000000000) (hlF : (rowsK X vs.length).length ≤ 1000000000) (hlnF : ∀ u ∈ rowsK X vs.length, lenV u ≤ 1000000000) :
  Calls Tryz.prog 52 #[V] w0 fun e w' => e = .returned (.bool true) ∧ Rest (rowsK X vs.length ++ vs) w0 w' := by
 obtain ⟨AO, cO, rfl⟩ := own_slice hO
 have HO := Aside0.mk hO
 have HRW := Aside0.mk hrows
 have HF := Aside0.mk hF
 have HAP := Aside0.mk hap
 have HAPF := Aside0.mk hapF
 have HLN := Aside0.mk hln
 have HLF := Aside0.mk hlF
 have HLNF := Aside0.mk hlnF
 clear hO hrows hF hap hapF hln hlF hlnF
 go_enter Tryz.func52, Tryz.ntmps52
 go_wp2
 go_loopw [3, 4] (fun fv kv wr => ∃ (k : Nat) (fV : Value), fV = fv ∧ kv = .int .i64 (k : Nat) ∧ k ≤ vs.length ∧ Aside0 (wr.ownsRow w0.heap.size 43 1 fV (rowsK X k).length (rowsK X k)) ∧ Aside0 (Below w0.heap.size w0 wr)) (fun _ kv _ => vs.length - (RowKit.intOf kv).toNat)
 case atStart => exact ⟨0, _, rfl, rfl, Nat.zero_le _, ⟨World.ownsRow_nil _ _ _ _⟩, ⟨Below.refl _ _⟩⟩
 case round =>
  obtain ⟨k, fV, rfl, rfl, hk, HFV, HB⟩ := hrel
  by_cases hlt : k < vs.length
  ·have hov := own_below HO.out HB.out
   have hvk : vs[k]? = some vs[k] := List.getElem?_eq_getElem hlt
   obtain ⟨v, hv⟩ : ∃ v, vs[k] = v := ⟨_, rfl⟩
   rw [hv] at hvk
   obtain ⟨GO, capO, eO, _, _⟩ := hov.form (by omega)
   have eA : AO = some ⟨GO, 0, none⟩ := by injection eO
   have hx0 := HRW.out k v hvk
   obtain ⟨Av, cv, ev⟩ := own_slice hx0
   obtain ⟨n, hn⟩ : ∃ n, lenV v = n := ⟨_, rfl⟩
   have hnl : n ≤ 1000000000 := by rw [← hn]; exact HLN.out v (by rw [← hv]; exact List.getElem_mem hlt)
   have hXl : (X k).length = n := by
    have := own_len hx0
    rw [hn] at this
    omega
   rw [hn] at ev hx0
   subst ev
   have HX0 := Aside0.mk (own_below hx0 HB.out)
   have HXL := Aside0.mk hXl
   have hle := rowsK_le X vs.length k hlt
   rw [hXl] at hle
   have hlF := HLF.out
   have HOC := Aside0.mk (show ∀ u ∈ X k, u.oneCell' = true from fun u hu => by
    obtain ⟨j, hj⟩ := List.mem_iff_getElem?.1 (rowsK_mem X vs.length k hlt u hu)
    obtain ⟨xs, h⟩ := HF.out j u hj
    obtain ⟨A, c, e⟩ := own_slice h
    rw [e]
    rfl)
   have xk : wr.cell? ⟨GO, k, none⟩ = some (.slice Av n cv) := by
    rw [eA] at hov
    exact (own_cell hov (by omega)).trans hvk
   have EA := Aside0.mk eA
   clear hx0 hv hov eO hn hvk eA hXl
   rw [EA.out]
   go_wp2_with (first | (at_builtin; refine wpList_append_row (e := 43) (bytes := 24) rfl (.tmp 12) (.tmp 16) 22 rfl Tryz.underlying22 info43I rfl (gsV := fV) rfl rfl HX0.out HOC.out HFV.out HB.out.size (by unfold maxLen; omega) (by omega) ?_))
   intro fV2 w2 hf2 hg2
   have HB3 := Aside0.mk (show Below w0.heap.size w0 w2 from ⟨hg2.os.trans HB.out.os, hg2.tape.trans HB.out.tape, hg2.output.trans HB.out.output, Nat.le_trans HB.out.size hg2.size, fun b hb => (hg2.block b (Nat.lt_of_lt_of_le hb HB.out.size) (fun e => by
    have := (own_lt HFV.out b e.symm).1
    omega)).trans (HB.out.block b hb)⟩)
   have HF3 := Aside0.mk hf2
   clear hf2 hg2 xk hle
   go_wp2_with fail
   go_roundw
   case rel => exact ⟨k + 1, fV2, rfl, by simp, by omega, ⟨by rw [rowsK, List.length_append, HXL.out]; exact HF3.out⟩, HB3⟩
   case measure => simp [RowKit.intOf]; omega
  ·have hke : k = vs.length := by omega
   subst hke
   have hcF := apartInts_calls fV (rowsK X vs.length) w0.heap.size wr HFV.out (fun j u hu => by obtain ⟨xs, h⟩ := HF.out j u hu; exact ⟨xs, own_below h HB.out⟩) HAPF.out HLF.out HLNF.out
   have HCF := Aside0.mk hcF
   clear hcF
   go_wp2_with fail
   refine HCF.out.mono ?_
   rintro e w2 ⟨rfl, hR⟩
   have hkeep : ∀ {v : Value} {base e2 sz n : Nat} {xs : List Value}, e2 ≠ 3 → wr.ownsRow base e2 sz v n xs → w2.ownsRow base e2 sz v n xs := fun {v base e2 sz n xs} hne h => own_keep h fun b hb => hR.same b (own_lt h b hb).2 (fun u hu he => by
    obtain ⟨j, hj⟩ := List.mem_iff_getElem?.1 hu
    obtain ⟨ys, hy⟩ := HF.out j u hj
    obtain ⟨c1, h1⟩ := own_typed h b hb
    obtain ⟨c2, h2⟩ := own_typed (own_below hy HB.out) b he
    exact blk_ne h1 h2 hne rfl)
   have HCS := Aside0.mk (apartRows_calls (.slice AO vs.length cO) vs bO w2 (hkeep (by decide) (own_below HO.out HB.out)) (fun j v hv => ⟨X j, hkeep (by decide) (own_below (HRW.out j v hv) HB.out)⟩) HAP.out hlen HLN.out)
   have HR := Aside0.mk hR
   clear hkeep hR
   go_wp2_with fail
   refine HCS.out.mono ?_
   rintro e w3 ⟨rfl, hS⟩
   have HRS := Aside0.mk (show Rest (rowsK X vs.length ++ vs) w0 w3 from ⟨hS.os.trans (HR.out.os.trans HB.out.os), hS.tape.trans (HR.out.tape.trans HB.out.tape), hS.output.trans (HR.out.output.trans HB.out.output),
    Nat.le_trans HB.out.size (Nat.le_trans HR.out.size hS.size), fun b hb hn => ((hS.same b (Nat.lt_of_lt_of_le hb (Nat.le_trans HB.out.size HR.out.size)) fun v hv => hn v (List.mem_append_right _ hv)).trans (HR.out.same b (Nat.lt_of_lt_of_le hb HB.out.size) fun v hv => hn v (List.mem_append_left _ hv))).trans (HB.out.block b hb)⟩)
   clear hS
   go_wp2
   go_ret
   exact ⟨rfl, HRS.out⟩
set_option maxHeartbeats 16000000 in
set_option maxRecDepth 100000 in
theorem apartFormulas_calls (V : Value) (cs vs : List Value) (X : Nat → List Value) (bO : Nat) (w0 : World) (hO : w0.ownsRow bO 24 2 V vs.length cs) (hcs : ∀ (j : Nat) (v : Value), vs[j]? = some v → cs[j * 2 + 1]? = some v) (hrows : ∀ (j : Nat) (v : Value), vs[j]? = some v → w0.ownsRow 0 43 1 v (lenV v) (X j))
  (hF : ∀ (j : Nat) (u : Value), (rowsK X vs.length)[j]? = some u → ∃ xs, w0.ownsRow 0 3 1 u (lenV u) xs) (hap : apart vs) (hapF : apart (rowsK X vs.length)) (hlen : vs.length ≤ 1000000000) (hln : ∀ v ∈ vs, lenV v ≤ 1000000000) (hlF : (rowsK X vs.length).length ≤ 1000000000) (hlnF : ∀ u ∈ rowsK X vs.length, lenV u ≤ 1000000000) :
  Calls Tryz.prog 31 #[V] w0 fun e w' => e = .returned (.bool true) ∧ Rest (rowsK X vs.length ++ vs) w0 w' := by
 obtain ⟨AO, cO, rfl⟩ := own_slice hO
 have HO := Aside0.mk hO
 have HCS := Aside0.mk hcs
 have HRW := Aside0.mk hrows
 have HF := Aside0.mk hF
 have HAP := Aside0.mk hap
 have HAPF := Aside0.mk hapF
 have HLN := Aside0.mk hln
 have HLF := Aside0.mk hlF
 have HLNF := Aside0.mk hlnF
 clear hO hcs hrows hF hap hapF hln hlF hlnF
 go_enter Tryz.func31, Tryz.ntmps31
 go_wp2
 go_loopw [3, 4] (fun fv kv wr => ∃ (k : Nat) (fV : Value), fV = fv ∧ kv = .int .i64 (k : Nat) ∧ k ≤ vs.length ∧ Aside0 (wr.ownsRow w0.heap.size 22 1 fV k (vs.take k)) ∧ Aside0 (Below w0.heap.size w0 wr)) (fun _ kv _ => vs.length - (RowKit.intOf kv).toNat)
 case atStart => exact ⟨0, _, rfl, rfl, Nat.zero_le _, ⟨World.ownsRow_nil _ _ _ _⟩, ⟨Below.refl _ _⟩⟩
 case round =>
  obtain ⟨k, fV, rfl, rfl, hk, HFV, HB⟩ := hrel
  by_cases hlt : k < vs.length
  ·have hov := own_below HO.out HB.out
   have hvk : vs[k]? = some vs[k] := List.getElem?_eq_getElem hlt
   obtain ⟨v, hv⟩ : ∃ v, vs[k] = v := ⟨_, rfl⟩
   rw [hv] at hvk
   obtain ⟨GO, capO, eO, _, _⟩ := hov.form (by omega)
   have eA : AO = some ⟨GO, 0, none⟩ := by injection eO
   obtain ⟨Av, cv, ev⟩ := own_slice (HRW.out k v hvk)
   obtain ⟨n, hn⟩ : ∃ n, lenV v = n := ⟨_, rfl⟩
   rw [hn] at ev
   subst ev
   have hck := HCS.out k _ hvk
   have xk : wr.cell? ⟨GO, k * 2 + 1, none⟩ = some (.slice Av n cv) := by
    rw [eA] at hov
    exact (own_cell hov (by omega)).trans hck
   have EA := Aside0.mk eA
   have HTK := Aside0.mk (show vs.take (k + 1) = vs.take k ++ [.slice Av n cv] by rw [List.take_succ_eq_append_getElem hlt, hv])
   clear hv hov eO hn hvk hck eA
   rw [EA.out]
   go_wp2_with (first | (at_builtin; refine wpList_append_val (e := 22) (bytes := 24) rfl (.tmp 11) (.tmp 17) 87 rfl Tryz.underlying87 info22R rfl (gsV := fV) rfl rfl rfl HFV.out HB.out.size (by unfold maxLen; omega) (by omega) ?_))
   intro fV2 w2 hf2 hg2
   have HB3 := Aside0.mk (show Below w0.heap.size w0 w2 from ⟨hg2.os.trans HB.out.os, hg2.tape.trans HB.out.tape, hg2.output.trans HB.out.output, Nat.le_trans HB.out.size hg2.size, fun b hb => (hg2.block b (Nat.lt_of_lt_of_le hb HB.out.size) (fun e => by
    have := (own_lt HFV.out b e.symm).1
    omega)).trans (HB.out.block b hb)⟩)
   have HF3 := Aside0.mk hf2
   clear hf2 hg2 xk
   go_wp2_with fail
   go_roundw
   case rel => exact ⟨k + 1, fV2, rfl, by simp, by omega, ⟨by rw [HTK.out]; exact HF3.out⟩, HB3⟩
   case measure => simp [RowKit.intOf]; omega
  ·have hke : k = vs.length := by omega
   subst hke
   have hcF := apartClauses_calls fV vs X w0.heap.size wr (by have h := HFV.out; rwa [List.take_length] at h) (fun j v hv => own_below (HRW.out j v hv) HB.out) (fun j u hu => by obtain ⟨xs, h⟩ := HF.out j u hu; exact ⟨xs, own_below h HB.out⟩) HAP.out HAPF.out hlen HLN.out HLF.out HLNF.out
   have HCF := Aside0.mk hcF
   clear hcF
   go_wp2_with fail
   refine HCF.out.mono ?_
   rintro e w3 ⟨rfl, hS⟩
   have HRS := Aside0.mk (show Rest (rowsK X vs.length ++ vs) w0 w3 from ⟨hS.os.trans HB.out.os, hS.tape.trans HB.out.tape, hS.output.trans HB.out.output,
    Nat.le_trans HB.out.size hS.size, fun b hb hn => (hS.same b (Nat.lt_of_lt_of_le hb HB.out.size) hn).trans (HB.out.block b hb)⟩)
   clear hS
   go_wp2
   go_ret
   exact ⟨rfl, HRS.out⟩
end Go.Proofs.YtlhajfepcggjaaaGreatDoor.KP
