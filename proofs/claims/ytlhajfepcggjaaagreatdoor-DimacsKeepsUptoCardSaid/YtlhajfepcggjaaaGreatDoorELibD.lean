/- dimacs.number: the walk. No conditions. strings.Split, strings.HasPrefix, dimacs.words and dimacs.number: what they come to, as the print asks it. No conditions. -/
import Derived.Test.YtlhajfepcggjaaaGreatDoorEnvR
import Derived.Test.YtlhajfepcggjaaaGreatDoorShelfR
import Derived.Test.YtlhajfepcggjaaaGreatDoorPureL
import Derived.Test.YtlhajfepcggjaaaGreatDoorWK
import Derived.WalkKit
import Derived.WalkMore
import Derived.Deep.LoopGhost
import Derived.Deep.QuietTactic
import Derived.BigQuiet
import Derived.Shelf.GgClosure.Gives
set_option linter.unusedVariables false
set_option linter.unusedSimpArgs false
namespace Go.Proofs.YtlhajfepcggjaaaGreatDoor.R
open Go.RowKit Go.Lib Go.Proofs.YtlhajfepcggjaaaGreatDoorW.PrintWords Go.Proofs.YtlhajfepcggjaaaGreatDoorW.PrintLast Go.Proofs.YtlhajfepcggjaaaGreatDoorW.PrintMore

def digB (c : Nat) : Bool := decide (48 ≤ c ∧ c ≤ 57)
def stepN (n : Int) (c : Nat) : Int := if n < 2147483648 then min (10 * n + ((c : Int) - 48)) 2147483648 else n
def numFrom (s : ByteArray) : Nat → Nat → Int → Int × Bool
 | 0, _, n => (n, true)
 | d + 1, pos, n => if digB (by_ s pos) then numFrom s d (pos + 1) (stepN n (by_ s pos)) else (n, false)
/-- What a word says as a number, from the place at_ on, times sg. -/
def numAt (s : ByteArray) (at_ : Nat) (sg : Int) : Int × Bool :=
 if at_ = s.size ∨ (by_ s at_ = 48 ∧ 1 < s.size) then (0, false) else (sg * (numFrom s (s.size - at_) at_ 0).1, (numFrom s (s.size - at_) at_ 0).2)
def numR (s : ByteArray) : Int × Bool := if hasPrefix s.data.toList [45] then numAt s 1 (-1) else numAt s 0 1
theorem by_get (s : ByteArray) (i : Nat) (h : i < s.size) : ((s[i]'h).toNat : Int) = (by_ s i : Int) := by
 unfold by_
 simp [ByteArray.get!, h]
 rfl
theorem stepN_le (n : Int) (c : Nat) (h0 : 0 ≤ n) (h1 : n ≤ 2147483648) (hc : 48 ≤ c) : 0 ≤ stepN n c ∧ stepN n c ≤ 2147483648 := by
 unfold stepN
 split <;> omega
theorem by_lt' (s : ByteArray) (i : Nat) : by_ s i < 256 := by unfold by_; exact UInt8.toNat_lt _

set_option maxHeartbeats 4000000 in
set_option maxRecDepth 100000 in
theorem number_neg (s : ByteArray) (hs : s.size ≤ 4398046511104) (w : World) (hp : hasPrefix s.data.toList [45] = true) (hat : 1 ≤ s.size) :
  Calls Tryz.prog 63 #[.string s] w fun e w' => e = .returned (.tuple #[.int .i64 (numAt s 1 (-1)).1, .bool (numAt s 1 (-1)).2]) ∧ ∃ q, w' = w.drewN q := by
 have hpf : Lib.hasPrefix s.data.toList (⟨#[45]⟩ : ByteArray).data.toList = true := hp
 by_cases h1 : 1 = s.size
 ·have hn : numAt s 1 (-1) = (0, false) := by unfold numAt; rw [if_pos (Or.inl h1)]
  have c1 : ((1 : Int) == (s.size : Int)) = true := beq_iff_eq.2 (by omega)
  rw [hn]
  clear h1 hn hp
  go_enter Tryz.func63, Tryz.ntmps63
  go_wp2_with fail
  go_step3
  go_wp2_with fail
  refine (Tryz.strings_HasPrefix s ⟨#[45]⟩ _).mono ?_
  rintro e w1 ⟨rfl, rfl⟩
  rw [hpf]
  go_wp2_with fail
  try rw [Exit.noGoto_ret]
  go_ret2
  exact ⟨rfl, 0, rfl⟩
 ·have hlt : 1 < s.size := by omega
  have c1 : ((1 : Int) == (s.size : Int)) = false := beq_eq_false_iff_ne.2 (by omega)
  have hx : ∀ h : 1 < s.size, ((s[1]'h).toNat : Int) = (by_ s 1 : Int) := fun h => by_get s 1 h
  by_cases h2 : by_ s 1 = 48 ∧ 1 < s.size
  ·have hn : numAt s 1 (-1) = (0, false) := by unfold numAt; rw [if_pos (Or.inr h2)]
   have hb : (by_ s 1 : Int) = 48 := by omega
   have hsz : 1 < s.size := h2.2
   rw [hb] at hx
   rw [hn]
   clear h1 hn hp h2 hb
   go_enter Tryz.func63, Tryz.ntmps63
   go_wp2_with fail
   go_step3
   go_wp2_with fail
   refine (Tryz.strings_HasPrefix s ⟨#[45]⟩ _).mono ?_
   rintro e w1 ⟨rfl, rfl⟩
   rw [hpf]
   go_wp2_with fail
   try rw [Exit.noGoto_ret]
   go_ret2
   exact ⟨rfl, 0, rfl⟩
  ·have hn : numAt s 1 (-1) = ((-1) * (numFrom s (s.size - 1) 1 0).1, (numFrom s (s.size - 1) 1 0).2) := by unfold numAt; rw [if_neg (by omega)]
   obtain ⟨R, hR⟩ : ∃ R, numFrom s (s.size - 1) 1 0 = R := ⟨_, rfl⟩
   rw [hn, hR]
   have HR := Aside0.mk hR
   clear hn hR hp
   have head : ∀ (Q : Prop), Q → Q := fun _ h => h
   clear head
   by_cases h48 : by_ s 1 = 48
   ·have hsz : ¬ 1 < s.size := fun h => h2 ⟨h48, h⟩
    exact absurd hlt hsz
   ·have c48 : ((by_ s 1 : Int) == 48) = false := beq_eq_false_iff_ne.2 (by omega)
    clear h1 h2 h48
    go_enter Tryz.func63, Tryz.ntmps63
    go_wp2_with fail
    go_step3
    go_wp2_with fail
    refine (Tryz.strings_HasPrefix s ⟨#[45]⟩ _).mono ?_
    rintro e w1 ⟨rfl, rfl⟩
    rw [hpf]
    go_wp2_with fail
    go_step3
    go_wp2_with fail
    go_loop [2, 4] (fun nv av => ∃ (pos : Nat) (n : Int), nv = .int .i64 n ∧ av = .int .i64 pos ∧ pos ≤ s.size ∧ 0 ≤ n ∧ n ≤ 2147483648 ∧ Aside0 (numFrom s (s.size - pos) pos n = R)) (fun _ av => s.size - (intOf av).toNat)
    case atStart => exact ⟨1, 0, rfl, rfl, by omega, by omega, by omega, HR⟩
    case round =>
     obtain ⟨pos, n, rfl, rfl, hle, hn0, hn1, hF⟩ := hrel
     clear hx
     by_cases hp2 : pos < s.size
     ·have hx : ∀ h : pos < s.size, ((s[pos]'h).toNat : Int) = (by_ s pos : Int) := fun h => by_get s pos h
      obtain ⟨d, hd⟩ : ∃ d, s.size - pos = d + 1 := ⟨s.size - pos - 1, by omega⟩
      have hf := hF.out
      rw [hd, numFrom] at hf
      have hby := by_lt' s pos
      have ceq : ((pos : Int) == (s.size : Int)) = false := beq_eq_false_iff_ne.2 (by omega)
      cases hdg : digB (by_ s pos) with
      | true =>
       have h57 : 48 ≤ by_ s pos ∧ by_ s pos ≤ 57 := by unfold digB at hdg; exact of_decide_eq_true hdg
       rw [hdg, if_pos rfl] at hf
       have hst := stepN_le n (by_ s pos) hn0 hn1 h57.1
       have g1 : (48 : Int) ≤ (by_ s pos : Int) := by omega
       have g2 : (by_ s pos : Int) ≤ 57 := by omega
       by_cases hlt2 : n < 2147483648
       ·have hse : stepN n (by_ s pos) = min (10 * n + ((by_ s pos : Int) - 48)) 2147483648 := by unfold stepN; rw [if_pos hlt2]
        rw [hse] at hf hst
        have HF := Aside0.mk (show numFrom s (s.size - (pos + 1)) (pos + 1) (min (10 * n + ((by_ s pos : Int) - 48)) 2147483648) = R by rw [show s.size - (pos + 1) = d by omega]; exact hf)
        have HST := Aside0.mk hst
        clear hf hse hst hdg h57
        go_wp2_with fail
        go_round
        case rel => exact ⟨pos + 1, _, rfl, by go_num, by omega, HST.out.1, HST.out.2, HF⟩
        case measure => simp [intOf]; omega
       ·have hse : stepN n (by_ s pos) = n := by unfold stepN; rw [if_neg hlt2]
        rw [hse] at hf
        have HF := Aside0.mk (show numFrom s (s.size - (pos + 1)) (pos + 1) n = R by rw [show s.size - (pos + 1) = d by omega]; exact hf)
        clear hf hse hst hdg h57
        go_wp2_with fail
        go_round
        case rel => exact ⟨pos + 1, _, rfl, by go_num, by omega, hn0, hn1, HF⟩
        case measure => simp [intOf]; omega
      | false =>
       rw [hdg, if_neg (by decide)] at hf
       have h57 : by_ s pos < 48 ∨ 57 < by_ s pos := by unfold digB at hdg; have := of_decide_eq_false hdg; omega
       have HFF := Aside0.mk hf
       clear hf hdg
       rcases h57 with h57 | h57
       ·have g1 : (by_ s pos : Int) < 48 := by omega
        clear h57
        go_wp2_with fail
        try rw [Exit.noGoto_ret]
        go_ret2
        rw [← HFF.out]
        exact ⟨by first | rfl | simp, 0, rfl⟩
       ·have g1 : ¬ (by_ s pos : Int) < 48 := by omega
        have g2 : (57 : Int) < (by_ s pos : Int) := by omega
        clear h57
        go_wp2_with fail
        try rw [Exit.noGoto_ret]
        go_ret2
        rw [← HFF.out]
        exact ⟨by first | rfl | simp, 0, rfl⟩
     ·have hf := hF.out
      obtain rfl : pos = s.size := by omega
      rw [Nat.sub_self, numFrom] at hf
      have HFF := Aside0.mk hf
      clear hf
      go_wp2_with fail
      try rw [Exit.noGoto_ret]
      go_ret2
      rw [← HFF.out]
      exact ⟨by first | rfl | simp, 0, rfl⟩
set_option maxHeartbeats 4000000 in
set_option maxRecDepth 100000 in
theorem number_pos (s : ByteArray) (hs : s.size ≤ 4398046511104) (w : World) (hp : hasPrefix s.data.toList [45] = false) (hat : 0 ≤ s.size) :
  Calls Tryz.prog 63 #[.string s] w fun e w' => e = .returned (.tuple #[.int .i64 (numAt s 0 (1)).1, .bool (numAt s 0 (1)).2]) ∧ ∃ q, w' = w.drewN q := by
 have hpf : Lib.hasPrefix s.data.toList (⟨#[45]⟩ : ByteArray).data.toList = false := hp
 by_cases h1 : 0 = s.size
 ·have hn : numAt s 0 (1) = (0, false) := by unfold numAt; rw [if_pos (Or.inl h1)]
  have c1 : ((0 : Int) == (s.size : Int)) = true := beq_iff_eq.2 (by omega)
  rw [hn]
  clear h1 hn hp
  go_enter Tryz.func63, Tryz.ntmps63
  go_wp2_with fail
  go_step3
  go_wp2_with fail
  refine (Tryz.strings_HasPrefix s ⟨#[45]⟩ _).mono ?_
  rintro e w1 ⟨rfl, rfl⟩
  rw [hpf]
  go_wp2_with fail
  try rw [Exit.noGoto_ret]
  go_ret2
  exact ⟨rfl, 0, rfl⟩
 ·have hlt : 0 < s.size := by omega
  have c1 : ((0 : Int) == (s.size : Int)) = false := beq_eq_false_iff_ne.2 (by omega)
  have hx : ∀ h : 0 < s.size, ((s[0]'h).toNat : Int) = (by_ s 0 : Int) := fun h => by_get s 0 h
  by_cases h2 : by_ s 0 = 48 ∧ 1 < s.size
  ·have hn : numAt s 0 (1) = (0, false) := by unfold numAt; rw [if_pos (Or.inr h2)]
   have hb : (by_ s 0 : Int) = 48 := by omega
   have hsz : 1 < s.size := h2.2
   rw [hb] at hx
   rw [hn]
   clear h1 hn hp h2 hb
   go_enter Tryz.func63, Tryz.ntmps63
   go_wp2_with fail
   go_step3
   go_wp2_with fail
   refine (Tryz.strings_HasPrefix s ⟨#[45]⟩ _).mono ?_
   rintro e w1 ⟨rfl, rfl⟩
   rw [hpf]
   go_wp2_with fail
   try rw [Exit.noGoto_ret]
   go_ret2
   exact ⟨rfl, 0, rfl⟩
  ·have hn : numAt s 0 (1) = ((1) * (numFrom s (s.size - 0) 0 0).1, (numFrom s (s.size - 0) 0 0).2) := by unfold numAt; rw [if_neg (by omega)]
   obtain ⟨R, hR⟩ : ∃ R, numFrom s (s.size - 0) 0 0 = R := ⟨_, rfl⟩
   rw [hn, hR]
   have HR := Aside0.mk hR
   clear hn hR hp
   have head : ∀ (Q : Prop), Q → Q := fun _ h => h
   clear head
   by_cases h48 : by_ s 0 = 48
   ·have hsz : ¬ 1 < s.size := fun h => h2 ⟨h48, h⟩
    have hb : (by_ s 0 : Int) = 48 := by omega
    rw [hb] at hx
    clear h1 h2 hb h48
    go_enter Tryz.func63, Tryz.ntmps63
    go_wp2_with fail
    go_step3
    go_wp2_with fail
    refine (Tryz.strings_HasPrefix s ⟨#[45]⟩ _).mono ?_
    rintro e w1 ⟨rfl, rfl⟩
    rw [hpf]
    go_wp2_with fail
    go_step3
    go_wp2_with fail
    go_loop [2, 4] (fun nv av => ∃ (pos : Nat) (n : Int), nv = .int .i64 n ∧ av = .int .i64 pos ∧ pos ≤ s.size ∧ 0 ≤ n ∧ n ≤ 2147483648 ∧ Aside0 (numFrom s (s.size - pos) pos n = R)) (fun _ av => s.size - (intOf av).toNat)
    case atStart => exact ⟨0, 0, rfl, rfl, by omega, by omega, by omega, HR⟩
    case round =>
     obtain ⟨pos, n, rfl, rfl, hle, hn0, hn1, hF⟩ := hrel
     clear hx
     by_cases hp2 : pos < s.size
     ·have hx : ∀ h : pos < s.size, ((s[pos]'h).toNat : Int) = (by_ s pos : Int) := fun h => by_get s pos h
      obtain ⟨d, hd⟩ : ∃ d, s.size - pos = d + 1 := ⟨s.size - pos - 1, by omega⟩
      have hf := hF.out
      rw [hd, numFrom] at hf
      have hby := by_lt' s pos
      have ceq : ((pos : Int) == (s.size : Int)) = false := beq_eq_false_iff_ne.2 (by omega)
      cases hdg : digB (by_ s pos) with
      | true =>
       have h57 : 48 ≤ by_ s pos ∧ by_ s pos ≤ 57 := by unfold digB at hdg; exact of_decide_eq_true hdg
       rw [hdg, if_pos rfl] at hf
       have hst := stepN_le n (by_ s pos) hn0 hn1 h57.1
       have g1 : (48 : Int) ≤ (by_ s pos : Int) := by omega
       have g2 : (by_ s pos : Int) ≤ 57 := by omega
       by_cases hlt2 : n < 2147483648
       ·have hse : stepN n (by_ s pos) = min (10 * n + ((by_ s pos : Int) - 48)) 2147483648 := by unfold stepN; rw [if_pos hlt2]
        rw [hse] at hf hst
        have HF := Aside0.mk (show numFrom s (s.size - (pos + 1)) (pos + 1) (min (10 * n + ((by_ s pos : Int) - 48)) 2147483648) = R by rw [show s.size - (pos + 1) = d by omega]; exact hf)
        have HST := Aside0.mk hst
        clear hf hse hst hdg h57
        go_wp2_with fail
        go_round
        case rel => exact ⟨pos + 1, _, rfl, by go_num, by omega, HST.out.1, HST.out.2, HF⟩
        case measure => simp [intOf]; omega
       ·have hse : stepN n (by_ s pos) = n := by unfold stepN; rw [if_neg hlt2]
        rw [hse] at hf
        have HF := Aside0.mk (show numFrom s (s.size - (pos + 1)) (pos + 1) n = R by rw [show s.size - (pos + 1) = d by omega]; exact hf)
        clear hf hse hst hdg h57
        go_wp2_with fail
        go_round
        case rel => exact ⟨pos + 1, _, rfl, by go_num, by omega, hn0, hn1, HF⟩
        case measure => simp [intOf]; omega
      | false =>
       rw [hdg, if_neg (by decide)] at hf
       have h57 : by_ s pos < 48 ∨ 57 < by_ s pos := by unfold digB at hdg; have := of_decide_eq_false hdg; omega
       have HFF := Aside0.mk hf
       clear hf hdg
       rcases h57 with h57 | h57
       ·have g1 : (by_ s pos : Int) < 48 := by omega
        clear h57
        go_wp2_with fail
        try rw [Exit.noGoto_ret]
        go_ret2
        rw [← HFF.out]
        exact ⟨by first | rfl | simp, 0, rfl⟩
       ·have g1 : ¬ (by_ s pos : Int) < 48 := by omega
        have g2 : (57 : Int) < (by_ s pos : Int) := by omega
        clear h57
        go_wp2_with fail
        try rw [Exit.noGoto_ret]
        go_ret2
        rw [← HFF.out]
        exact ⟨by first | rfl | simp, 0, rfl⟩
     ·have hf := hF.out
      obtain rfl : pos = s.size := by omega
      rw [Nat.sub_self, numFrom] at hf
      have HFF := Aside0.mk hf
      clear hf
      go_wp2_with fail
      try rw [Exit.noGoto_ret]
      go_ret2
      rw [← HFF.out]
      exact ⟨by first | rfl | simp, 0, rfl⟩
   ·have c48 : ((by_ s 0 : Int) == 48) = false := beq_eq_false_iff_ne.2 (by omega)
    clear h1 h2 h48
    go_enter Tryz.func63, Tryz.ntmps63
    go_wp2_with fail
    go_step3
    go_wp2_with fail
    refine (Tryz.strings_HasPrefix s ⟨#[45]⟩ _).mono ?_
    rintro e w1 ⟨rfl, rfl⟩
    rw [hpf]
    go_wp2_with fail
    go_step3
    go_wp2_with fail
    go_loop [2, 4] (fun nv av => ∃ (pos : Nat) (n : Int), nv = .int .i64 n ∧ av = .int .i64 pos ∧ pos ≤ s.size ∧ 0 ≤ n ∧ n ≤ 2147483648 ∧ Aside0 (numFrom s (s.size - pos) pos n = R)) (fun _ av => s.size - (intOf av).toNat)
    case atStart => exact ⟨0, 0, rfl, rfl, by omega, by omega, by omega, HR⟩
    case round =>
     obtain ⟨pos, n, rfl, rfl, hle, hn0, hn1, hF⟩ := hrel
     clear hx
     by_cases hp2 : pos < s.size
     ·have hx : ∀ h : pos < s.size, ((s[pos]'h).toNat : Int) = (by_ s pos : Int) := fun h => by_get s pos h
      obtain ⟨d, hd⟩ : ∃ d, s.size - pos = d + 1 := ⟨s.size - pos - 1, by omega⟩
      have hf := hF.out
      rw [hd, numFrom] at hf
      have hby := by_lt' s pos
      have ceq : ((pos : Int) == (s.size : Int)) = false := beq_eq_false_iff_ne.2 (by omega)
      cases hdg : digB (by_ s pos) with
      | true =>
       have h57 : 48 ≤ by_ s pos ∧ by_ s pos ≤ 57 := by unfold digB at hdg; exact of_decide_eq_true hdg
       rw [hdg, if_pos rfl] at hf
       have hst := stepN_le n (by_ s pos) hn0 hn1 h57.1
       have g1 : (48 : Int) ≤ (by_ s pos : Int) := by omega
       have g2 : (by_ s pos : Int) ≤ 57 := by omega
       by_cases hlt2 : n < 2147483648
       ·have hse : stepN n (by_ s pos) = min (10 * n + ((by_ s pos : Int) - 48)) 2147483648 := by unfold stepN; rw [if_pos hlt2]
        rw [hse] at hf hst
        have HF := Aside0.mk (show numFrom s (s.size - (pos + 1)) (pos + 1) (min (10 * n + ((by_ s pos : Int) - 48)) 2147483648) = R by rw [show s.size - (pos + 1) = d by omega]; exact hf)
        have HST := Aside0.mk hst
        clear hf hse hst hdg h57
        go_wp2_with fail
        go_round
        case rel => exact ⟨pos + 1, _, rfl, by go_num, by omega, HST.out.1, HST.out.2, HF⟩
        case measure => simp [intOf]; omega
       ·have hse : stepN n (by_ s pos) = n := by unfold stepN; rw [if_neg hlt2]
        rw [hse] at hf
        have HF := Aside0.mk (show numFrom s (s.size - (pos + 1)) (pos + 1) n = R by rw [show s.size - (pos + 1) = d by omega]; exact hf)
        clear hf hse hst hdg h57
        go_wp2_with fail
        go_round
        case rel => exact ⟨pos + 1, _, rfl, by go_num, by omega, hn0, hn1, HF⟩
        case measure => simp [intOf]; omega
      | false =>
       rw [hdg, if_neg (by decide)] at hf
       have h57 : by_ s pos < 48 ∨ 57 < by_ s pos := by unfold digB at hdg; have := of_decide_eq_false hdg; omega
       have HFF := Aside0.mk hf
       clear hf hdg
       rcases h57 with h57 | h57
       ·have g1 : (by_ s pos : Int) < 48 := by omega
        clear h57
        go_wp2_with fail
        try rw [Exit.noGoto_ret]
        go_ret2
        rw [← HFF.out]
        exact ⟨by first | rfl | simp, 0, rfl⟩
       ·have g1 : ¬ (by_ s pos : Int) < 48 := by omega
        have g2 : (57 : Int) < (by_ s pos : Int) := by omega
        clear h57
        go_wp2_with fail
        try rw [Exit.noGoto_ret]
        go_ret2
        rw [← HFF.out]
        exact ⟨by first | rfl | simp, 0, rfl⟩
     ·have hf := hF.out
      obtain rfl : pos = s.size := by omega
      rw [Nat.sub_self, numFrom] at hf
      have HFF := Aside0.mk hf
      clear hf
      go_wp2_with fail
      try rw [Exit.noGoto_ret]
      go_ret2
      rw [← HFF.out]
      exact ⟨by first | rfl | simp, 0, rfl⟩
theorem number_walk (s : ByteArray) (hs : s.size ≤ 4398046511104) (w : World) :
  Calls Tryz.prog 63 #[.string s] w fun e w' => e = .returned (.tuple #[.int .i64 (numR s).1, .bool (numR s).2]) ∧ ∃ q, w' = w.drewN q := by
 unfold numR
 cases hp : hasPrefix s.data.toList [45] with
 | true =>
  rw [if_pos rfl]
  refine number_neg s hs w hp ?_
  have hsz : s.data.toList.length = s.size := by simp
  cases hl : s.data.toList with
  | nil => rw [hl] at hp; exact absurd hp (by decide)
  | cons c r => rw [hl] at hsz; simp only [List.length_cons] at hsz; omega
 | false =>
  rw [if_neg (by decide)]
  exact number_pos s hs w hp (Nat.zero_le _)
end Go.Proofs.YtlhajfepcggjaaaGreatDoor.R

set_option linter.unusedVariables false
set_option linter.unusedSimpArgs false
namespace Go.Proofs.YtlhajfepcggjaaaGreatDoor.R
open Go.RowKit Go.Lib Go.Proofs.YtlhajfepcggjaaaGreatDoorW.PrintWords Go.Proofs.YtlhajfepcggjaaaGreatDoorW.PrintLast Go.Proofs.YtlhajfepcggjaaaGreatDoorW.PrintMore

/-- What strings.HasPrefix comes to. -/
def strings_HasPrefix.f (a0 a1 : ByteArray) : Option Bool := some (hasPrefix a0.data.toList a1.data.toList)
theorem strings_HasPrefix.calls (a0 a1 : ByteArray) (r : Bool) (w : World) (h : strings_HasPrefix.f a0 a1 = some r) :
  Calls Tryz.prog 61 #[.string a0, .string a1] w fun e w' => e = .returned (.bool r) ∧ ∃ n, w' = w.drewN n := by
 obtain rfl := Option.some.inj h
 refine (Tryz.strings_HasPrefix a0 a1 w).mono ?_
 rintro e w' ⟨rfl, rfl⟩
 exact ⟨rfl, 0, rfl⟩
/-- What dimacs.number comes to. -/
def dimacs_number.f (a0 : ByteArray) : Option (Int × Bool) := if a0.size ≤ 4398046511104 then some (numR a0) else none
theorem dimacs_number.calls (a0 : ByteArray) (r1 : Int) (r2 : Bool) (w : World) (h : dimacs_number.f a0 = some (r1, r2)) :
  Calls Tryz.prog 63 #[.string a0] w fun e w' => e = .returned (.tuple #[.int .i64 r1, .bool r2]) ∧ ∃ n, w' = w.drewN n := by
 unfold dimacs_number.f at h
 by_cases hs : a0.size ≤ 4398046511104
 ·rw [if_pos hs] at h
  have := number_walk a0 hs w
  rw [Option.some.inj h] at this
  exact this
 ·rw [if_neg hs] at h
  cases h
/-- What strings.Split comes to, at a line feed. -/
def strings_Split.f (a0 a1 : ByteArray) : Option (List ByteArray) := if a0.size < 4294967281 ∧ a1 = mkB [10] then some ((pieces a0.data.toList).map mkB) else none
theorem strings_Split.calls (a0 a1 : ByteArray) (r : List ByteArray) (w : World) (hE : Env w) (h : strings_Split.f a0 a1 = some r) :
  Calls Tryz.prog 60 #[.string a0, .string a1] w fun e w' => ∃ v0_ : Value, e = .returned v0_ ∧ Kd.R Kd.string 9 w' w.heap.size (fun _ => True) v0_ r ∧ Below w.heap.size w w' := by
 unfold strings_Split.f at h
 by_cases hs : a0.size < 4294967281 ∧ a1 = mkB [10]
 ·rw [if_pos hs] at h
  obtain ⟨hs, rfl⟩ := hs
  obtain rfl := Option.some.inj h
  obtain ⟨m, hm⟩ := hE.max
  have hlen := Lib.splitB_all (mkB [10]) (by decide) 0 (Lib.countB a0 (mkB [10])) a0 rfl
  have hcl := Lib.countB_le (mkB [10]) (by decide) a0.size a0 (Nat.le_refl _)
  rw [split_pieces] at hlen
  refine (Tryz.strings_Split a0 (mkB [10]) m w hs hm (by decide)).mono ?_
  rintro e w' ⟨rfl, rfl⟩
  rw [split_pieces, ← hlen]
  refine ⟨_, rfl, ?_, (Below.refl _ w).alloc (Nat.le_refl _) _⟩
  refine Kd.R_of_own ?_ (fun _ _ => trivial)
  have := World.ownsRow_lit (base := w.heap.size) (e := 9) (size := 1) w ((((pieces a0.data.toList).map mkB).map Value.string).toArray) ((pieces a0.data.toList).map mkB).length (Nat.le_refl _) (by unfold maxLen; omega) (by simp)
  simpa [encs] using this
 ·rw [if_neg hs] at h
  cases h
/-- The literal function of words. -/
theorem blank_walk (r : Nat) (w : World) : Calls Tryz.prog 66 #[.int .i32 r] w fun e w' => e = .returned (.bool (blankR r)) ∧ ∃ q, w' = w.drewN q := by
 by_cases h32 : (r : Int) = 32
 ·have e : blankR r = true := by unfold blankR; rw [Bool.or_eq_true]; exact Or.inl (beq_iff_eq.2 (by omega))
  rw [h32, e]
  go_enter Tryz.func66, Tryz.ntmps66
  go_wp2
  go_ret
  exact ⟨rfl, 0, rfl⟩
 ·have c1 : ((r : Int) == 32) = false := beq_eq_false_iff_ne.2 h32
  by_cases h9 : (r : Int) = 9
  ·have e : blankR r = true := by unfold blankR; rw [Bool.or_eq_true]; exact Or.inr (beq_iff_eq.2 (by omega))
   rw [h9, e]
   go_enter Tryz.func66, Tryz.ntmps66
   go_wp2
   go_ret
   exact ⟨rfl, 0, rfl⟩
  ·have c2 : ((r : Int) == 9) = false := beq_eq_false_iff_ne.2 h9
   have e : blankR r = false := by unfold blankR; rw [Bool.or_eq_false_iff]; exact ⟨beq_eq_false_iff_ne.2 (by omega), beq_eq_false_iff_ne.2 (by omega)⟩
   rw [e]
   clear h32 h9
   go_enter Tryz.func66, Tryz.ntmps66
   go_wp2
   go_ret
   exact ⟨by first | rfl | simp [*], 0, rfl⟩
theorem blank_pays (w : World) : PredAt Tryz.prog 66 #[] (fun r : Nat => Value.int .i32 (r : Int)) blankR w := fun W x _ => blank_walk x W
/-- What dimacs.words comes to. -/
def dimacs_words.f (a0 : ByteArray) : Option (List ByteArray) := if a0.size ≤ 4294967296 then some (wordsB a0) else none
set_option maxRecDepth 100000 in
theorem dimacs_words.calls (a0 : ByteArray) (r : List ByteArray) (w : World) (h : dimacs_words.f a0 = some r) :
  Calls Tryz.prog 44 #[.string a0] w fun e w' => ∃ v0_ : Value, e = .returned v0_ ∧ Kd.R Kd.string 9 w' w.heap.size (fun _ => True) v0_ r ∧ Below w.heap.size w w' := by
 unfold dimacs_words.f at h
 by_cases hs : a0.size ≤ 4294967296
 ·rw [if_pos hs] at h
  obtain rfl := Option.some.inj h
  have FLD := Tryz.strings_FieldsFunc 66 #[] (fun args w => rfl) blankR a0 w hs (blank_pays _)
  rw [goFields_eq] at FLD
  go_enter Tryz.func44, Tryz.ntmps44
  go_wp2_with fail
  refine FLD.mono ?_
  rintro e w5 ⟨A, rfl, hA, hrow, hb5⟩
  have HROW := Aside0.mk hrow
  have HB := Aside0.mk hb5
  clear hrow hb5
  go_wp2_with fail
  go_ret
  exact ⟨_, rfl, Kd.R_of_own HROW.out (fun _ _ => trivial), HB.out⟩
 ·rw [if_neg hs] at h
  cases h
end Go.Proofs.YtlhajfepcggjaaaGreatDoor.R
