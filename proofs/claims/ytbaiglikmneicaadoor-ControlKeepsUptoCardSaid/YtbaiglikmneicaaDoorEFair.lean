/- control.fair: what it comes to: only fair bytes, and letters. No conditions. -/
import Derived.Test.YtbaiglikmneicaaDoorELibC
import Derived.Laws.RangeAny
set_option linter.unusedVariables false
set_option linter.unusedSimpArgs false
namespace Go.Proofs.YtbaiglikmneicaaDoor.P
open Go.RowKit Go.Lib Go.Proofs.YtbaiglikmneicaaDoorW.PrintWords Go.Proofs.YtbaiglikmneicaaDoorW.PrintLast Go.Proofs.YtbaiglikmneicaaDoorW.PrintMore
open Go.Proofs.YtbaiglikmneicaaDoor.R (mkB mkB_size by_ by_at decode_parts)
open Go.Proofs.YtbaiglikmneicaaDoor.C (okC fairL)

def okN (f : Bool) (b : Nat) : Bool := (decide (32 ≤ b) || b == 9 || (f && b == 10)) && b != 127
def okFrom (f : Bool) (s : ByteArray) : Nat → Nat → Bool
  | 0, _ => true
  | d + 1, pos => okN f (by_ s pos) && okFrom f s d (pos + 1)
theorem okN_C (f : Bool) (c : UInt8) : okN f c.toNat = okC f c := by
  have e : ∀ k : UInt8, (c.toNat == k.toNat) = (c == k) := fun k => by
    by_cases h : c = k
    · subst h; simp
    · rw [beq_eq_false_iff_ne.2 h, beq_eq_false_iff_ne.2 (fun h' => h (UInt8.toNat_inj.1 h'))]
  have e9 := e 9
  have e10 := e 10
  have e127 := e 127
  unfold okN okC
  simp only [bne]
  rw [← e9, ← e10, ← e127]
  rfl
theorem okFrom_drop (f : Bool) (s : ByteArray) : ∀ (d pos : Nat), s.size - pos = d → okFrom f s d pos = (s.data.toList.drop pos).all (okC f)
  | 0, pos, h => by rw [List.drop_of_length_le (by rw [← size_eq]; omega)]; rfl
  | d + 1, pos, h => by
    have hp : pos < s.size := by omega
    have hl : pos < s.data.toList.length := by rw [← size_eq]; exact hp
    have hb := by_at s pos hp
    rw [List.getElem?_eq_getElem hl] at hb
    have hb2 := Option.some.inj hb
    have hlt : by_ s pos < 256 := (s.get! pos).toNat_lt
    have e : okC f (s.data.toList[pos]) = okN f (by_ s pos) := by
      rw [hb2, ← okN_C, UInt8.toNat_ofNat_of_lt' hlt]
    rw [okFrom, List.drop_eq_getElem_cons hl, List.all_cons, e, okFrom_drop f s d (pos + 1) (by omega)]
theorem okFrom_is (f : Bool) (s : ByteArray) : okFrom f s s.size 0 = s.data.toList.all (okC f) := by
  rw [okFrom_drop f s s.size 0 (by omega), List.drop_zero]
/-- Bytes from 128 on are fair. -/
theorem okFrom_high (f : Bool) (s : ByteArray) : ∀ (n pos d : Nat), s.size - pos = d → n ≤ d → (∀ k, k < n → 128 ≤ by_ s (pos + k)) → okFrom f s d pos = okFrom f s (d - n) (pos + n)
  | 0, pos, d, _, _, _ => by simp
  | n + 1, pos, d, hd, hn, h => by
    obtain ⟨d, rfl⟩ : ∃ d', d = d' + 1 := ⟨d - 1, by omega⟩
    have h0 := h 0 (by omega)
    rw [Nat.add_zero] at h0
    have e : okN f (by_ s pos) = true := by
      unfold okN
      rw [decide_eq_true (by omega)]
      simp
      omega
    rw [okFrom, e, Bool.true_and, okFrom_high f s n (pos + 1) d (by omega) (by omega) (fun k hk => by have := h (k + 1) (by omega); rwa [show pos + 1 + k = pos + (k + 1) by omega]), show d + 1 - (n + 1) = d - n by omega, show pos + 1 + n = pos + (n + 1) by omega]

def control_fair.f (a0 : ByteArray) (a1 : Bool) : Option Bool := if a0.size ≤ 4398046511104 then some (fairL a1 a0.data.toList) else none
set_option maxHeartbeats 4000000 in
set_option maxRecDepth 100000 in
theorem fair_walk (s : ByteArray) (f : Bool) (w : World) (hE : Env w) (hs : s.size ≤ 4398046511104) :
    Calls Tryd.prog 28 #[.string s, .bool f] w fun e w' => e = .returned (.bool (fairL f s.data.toList)) ∧ Below w.heap.size w w' := by
  have HE := Aside0.mk hE
  have HA := Aside0.mk (okFrom_is f s)
  clear hE
  go_enter Tryd.func28, Tryd.ntmps28
  go_wp2
  go_loopw [] (fun w' => ∃ (pos : Nat), w' = w.iter s pos ∧ pos ≤ s.size ∧ Aside0 (okFrom f s (s.size - pos) pos = okFrom f s s.size 0)) (fun w' => s.size - w'.iterPos w.heap.size)
  case atStart => exact ⟨0, rfl, by omega, ⟨rfl⟩⟩
  case round =>
    obtain ⟨pos, rfl, hle, hR⟩ := hrel
    have hbel : Below w.heap.size w (w.iter s pos) := (Below.refl w.heap.size w).alloc (Nat.le_refl _) _
    by_cases hp : pos < s.size
    · rcases decode_parts s pos hp with ⟨h0, h1⟩ | ⟨h0, h1, n, h2, h3, h4⟩
      · obtain ⟨d, hd⟩ : ∃ d, s.size - pos = d + 1 := ⟨s.size - pos - 1, by omega⟩
        have hr := hR.out
        rw [hd, okFrom] at hr
        have hnx : ∀ ty, (Instr.next (.pointer (some ⟨w.heap.size, 0, none⟩)) true ty).run Tryd.prog (w.iter s pos) = .ok (.tuple #[.bool true, .int .i64 pos, .int .i32 (by_ s pos)]) (w.iter s (pos + 1)) := fun ty => by
          have := run_next_any (P := Tryd.prog) w s pos ty hp
          rw [h1] at this
          exact this
        have HB := Aside0.mk hbel
        have HR := Aside0.mk hr
        clear hbel hr h1
        generalize hb : by_ s pos = b at *
        clear hb
        have HBN := Aside0.mk (show Below w.heap.size w (w.iter s (pos + 1)) from (Below.refl w.heap.size w).alloc (Nat.le_refl _) _)
        have bad : okN f b = false → fairL f s.data.toList = false := fun h => by
          have := HR.out
          rw [h, Bool.false_and, HA.out] at this
          unfold fairL
          rw [← this]
          rfl
        have good : okN f b = true → okFrom f s (s.size - (pos + 1)) (pos + 1) = okFrom f s s.size 0 := fun h => by
          have := HR.out
          rw [h, Bool.true_and] at this
          rw [show s.size - (pos + 1) = d by omega]
          exact this
        have BAD := Aside0.mk bad
        have GOOD := Aside0.mk good
        clear bad good
        by_cases c127 : b = 127
        · have ok : okN f b = false := by subst c127; unfold okN; simp
          have e := Aside0.mk (BAD.out ok)
          subst c127
          clear ok
          go_wp2
          go_ret
          rw [e.out]
          exact ⟨rfl, HBN.out⟩
        · have n127 : ((b : Int) == 127) = false := beq_eq_false_iff_ne.2 (by omega)
          by_cases c32 : 32 ≤ b
          · have ok : okN f b = true := by unfold okN; rw [decide_eq_true c32]; simp; exact c127
            have g := Aside0.mk (GOOD.out ok)
            clear ok
            have d1 : decide ((b : Int) < 32) = false := decide_eq_false (by omega)
            clear c127 c32
            go_wp2
            go_roundw
            case rel => exact ⟨pos + 1, rfl, by omega, g⟩
            case measure => simp; omega
          · have d1 : decide ((b : Int) < 32) = true := decide_eq_true (by omega)
            by_cases c9 : b = 9
            · have ok : okN f b = true := by subst c9; unfold okN; simp
              have g := Aside0.mk (GOOD.out ok)
              subst c9
              clear ok c127 c32
              go_wp2
              go_roundw
              case rel => exact ⟨pos + 1, rfl, by omega, g⟩
              case measure => simp; omega
            · have n9 : ((b : Int) != 9) = true := bne_iff_ne.2 (by omega)
              by_cases c10 : b = 10
              · subst c10
                clear c127 c32 c9
                cases f with
                | true =>
                  have g := Aside0.mk (GOOD.out (by unfold okN; simp))
                  go_wp2
                  go_roundw
                  case rel => exact ⟨pos + 1, rfl, by omega, g⟩
                  case measure => simp; omega
                | false =>
                  have e := Aside0.mk (BAD.out (by unfold okN; simp))
                  go_wp2
                  go_ret
                  rw [e.out]
                  exact ⟨rfl, HBN.out⟩
              · have n10 : ((b : Int) != 10) = true := bne_iff_ne.2 (by omega)
                have ok : okN f b = false := by
                  unfold okN
                  rw [decide_eq_false c32, beq_eq_false_iff_ne.2 c9, beq_eq_false_iff_ne.2 c10]
                  simp
                have e := Aside0.mk (BAD.out ok)
                clear ok c127 c32 c9 c10
                go_wp2
                go_ret
                rw [e.out]
                exact ⟨rfl, HBN.out⟩
      · have hg := okFrom_high f s (n + 1) pos (s.size - pos) rfl (by omega) (fun k hk => h4 k (by omega))
        have hr := hR.out
        rw [hg, show s.size - pos - (n + 1) = s.size - (pos + (n + 1)) by omega] at hr
        have HR := Aside0.mk hr
        clear hg hr
        obtain ⟨q, hq⟩ : ∃ q, (Utf8.decode s pos).1 = q := ⟨_, rfl⟩
        rw [hq] at h1
        have hnx : ∀ ty, (Instr.next (.pointer (some ⟨w.heap.size, 0, none⟩)) true ty).run Tryd.prog (w.iter s pos) = .ok (.tuple #[.bool true, .int .i64 pos, .int .i32 q]) (w.iter s (pos + (n + 1))) := fun ty => by
          have := run_next_any (P := Tryd.prog) w s pos ty hp
          rw [hq, h2] at this
          exact this
        have HB2 := Aside0.mk (show Below w.heap.size w (w.iter s (pos + (n + 1))) from (Below.refl w.heap.size w).alloc (Nat.le_refl _) _)
        have d1 : decide ((q : Int) < 32) = false := decide_eq_false (by omega)
        have d2 : ((q : Int) == 127) = false := beq_eq_false_iff_ne.2 (by omega)
        have hm : pos + (n + 1) ≤ s.size := by omega
        clear hq h2 h3 h4 h1 h0
        go_wp2
        go_roundw
        case rel => exact ⟨pos + (n + 1), rfl, hm, HR⟩
        case measure => simp; omega
    · have hnx : ∀ ty, (Instr.next (.pointer (some ⟨w.heap.size, 0, none⟩)) true ty).run Tryd.prog (w.iter s pos) = _ := fun ty => run_next_end w s pos ty hp
      have hr := hR.out
      rw [show s.size - pos = 0 by omega, okFrom, HA.out] at hr
      have HR := Aside0.mk hr
      have HB := Aside0.mk hbel
      clear hbel hr
      go_wp2_with fail
      refine (Tryd.utf8_ValidString s _ (by omega) (HE.out.below HB.out).u8).mono ?_
      rintro e w1 ⟨rfl, hb1⟩
      have HB1 := Aside0.mk (HB.out.trans (hb1.mono HB.out.size))
      clear hb1
      go_wp2_with fail
      go_ret
      have e : fairL f s.data.toList = validD s.data.toList := by unfold fairL; rw [← HR.out, Bool.true_and]
      rw [e]
      exact ⟨rfl, HB1.out⟩
theorem control_fair.calls (a0 : ByteArray) (a1 : Bool) (r : Bool) (w : World) (hE : Env w) (h : control_fair.f a0 a1 = some r) :
    Calls Tryd.prog 28 #[.string a0, .bool a1] w fun e w' => e = .returned (.bool r) ∧ Below w.heap.size w w' := by
  unfold control_fair.f at h
  by_cases hs : a0.size ≤ 4398046511104
  · rw [if_pos hs] at h
    obtain rfl := Option.some.inj h
    exact fair_walk a0 a1 w hE hs
  · rw [if_neg hs] at h
    cases h
end Go.Proofs.YtbaiglikmneicaaDoor.P
