/- drat's remark and its blanks, and the reference's remark: what they come to. No conditions. -/
import Derived.Test.YtooojhlndlebdaaRRRDoorRRRRLiteral
import Derived.Laws.RangeAny
import Derived.Shelf.GgClosure.Gives
set_option linter.unusedVariables false
set_option linter.unusedSimpArgs false
namespace Go.Proofs.YtooojhlndlebdaaRRRDoorRRRR.R
open Go.RowKit Go.Lib Go.Proofs.YtooojhlndlebdaaRRRDoorRRRRW.PrintWords Go.Proofs.YtooojhlndlebdaaRRRDoorRRRRW.PrintLast Go.Proofs.YtooojhlndlebdaaRRRDoorRRRRW.PrintMore

def okB (b : Nat) : Bool := b == 9 || decide (32 ≤ b ∧ b ≤ 126)
def remFrom (s : ByteArray) : Nat → Nat → Bool
  | 0, _ => true
  | d + 1, pos => okB (by_ s pos) && remFrom s d (pos + 1)
def remF (s : ByteArray) : Bool := remFrom s s.size 0
theorem refRemark_l0 (s : ByteArray) (hs : s.size ≤ 4398046511104) (d : Nat) : ∀ (k i : Nat), i ≤ s.size → s.size - i = d → d < k → depotref09_remark.l0 k s (i : Int) = some (remFrom s d i) := by
  induction d with
  | zero =>
    intro k i h0 hd hk
    obtain ⟨k, rfl⟩ := succ_ofr hk
    rw [depotref09_remark.l0, if_neg (by omega)]
    rfl
  | succ d ih =>
    intro k i h0 hd hk
    obtain ⟨k, rfl⟩ := succ_ofr hk
    have hi : i < s.size := by omega
    have hn := ih k (i + 1) (by omega) (by omega) (by omega)
    have e1 : wrap64 ((i : Int) + 1) = ((i + 1 : Nat) : Int) := by rw [w64r (by omega) (by omega)]; omega
    rw [depotref09_remark.l0, if_pos (by omega), if_pos (by omega), bt_nat s i hi, e1, hn, remFrom]
    by_cases h9 : (by_ s i : Int) = 9
    · rw [if_pos h9]
      have : okB (by_ s i) = true := by unfold okB; rw [Bool.or_eq_true]; exact Or.inl (beq_iff_eq.2 (by omega))
      rw [this]; rfl
    · rw [if_neg h9]
      have h9' : (by_ s i == 9) = false := beq_eq_false_iff_ne.2 (by omega)
      unfold okB
      rw [h9', Bool.false_or]
      by_cases h1 : (by_ s i : Int) < 32
      · rw [if_pos h1, decide_eq_false (by omega)]; rfl
      · rw [if_neg h1]
        by_cases h2 : (by_ s i : Int) > 126
        · rw [if_pos h2, decide_eq_false (by omega)]; rfl
        · rw [if_neg h2, decide_eq_true (by omega)]; rfl
theorem refRemark_is (s : ByteArray) (hs : s.size ≤ 4398046511104) (k : Nat) (hk : s.size < k) : depotref09_remark.f k s = some (remF s) := by
  unfold depotref09_remark.f remF
  exact refRemark_l0 s hs s.size k 0 (by omega) (by omega) hk

set_option maxHeartbeats 4000000 in
set_option maxRecDepth 100000 in
theorem remark_walk (s : ByteArray) (w : World) (hs : s.size ≤ 4398046511104) :
    Calls Tryd.prog 40 #[.string s] w fun e w' => e = .returned (.bool (remF s)) ∧ Below w.heap.size w w' := by
  go_enter Tryd.func40, Tryd.ntmps40
  go_wp2
  go_loopw [] (fun w' => ∃ (pos : Nat), w' = w.iter s pos ∧ pos ≤ s.size ∧ Aside0 (remFrom s (s.size - pos) pos = remF s)) (fun w' => s.size - w'.iterPos w.heap.size)
  case atStart => exact ⟨0, rfl, by omega, ⟨rfl⟩⟩
  case round =>
    obtain ⟨pos, rfl, hle, hR⟩ := hrel
    have hbel : Below w.heap.size w (w.iter s pos) := (Below.refl w.heap.size w).alloc (Nat.le_refl _) _
    by_cases hp : pos < s.size
    · obtain ⟨d, hd⟩ : ∃ d, s.size - pos = d + 1 := ⟨s.size - pos - 1, by omega⟩
      have hr := hR.out
      rw [hd, remFrom] at hr
      rcases decode_parts s pos hp with ⟨h0, h1⟩ | ⟨h0, h1, n, h2, h3, h4⟩
      · have hnx : ∀ ty, (Instr.next (.pointer (some ⟨w.heap.size, 0, none⟩)) true ty).run Tryd.prog (w.iter s pos) = .ok (.tuple #[.bool true, .int .i64 pos, .int .i32 (by_ s pos)]) (w.iter s (pos + 1)) := fun ty => by
          have := run_next_any (P := Tryd.prog) w s pos ty hp
          rw [h1] at this
          exact this
        have HB := Aside0.mk hbel
        clear hbel
        by_cases h9 : (by_ s pos : Int) = 9
        · have ok : okB (by_ s pos) = true := by unfold okB; rw [Bool.or_eq_true]; exact Or.inl (beq_iff_eq.2 (by omega))
          rw [h9] at hnx
          go_wp2
          go_roundw
          case rel => exact ⟨pos + 1, rfl, by omega, ⟨by rw [show s.size - (pos + 1) = d by omega]; rw [ok, Bool.true_and] at hr; exact hr⟩⟩
          case measure => simp; omega
        · have n9 : ((by_ s pos : Int) == 9) = false := beq_eq_false_iff_ne.2 h9
          have n9' : ((by_ s pos : Int) != 9) = true := bne_iff_ne.2 h9
          have n9n : (by_ s pos == 9) = false := beq_eq_false_iff_ne.2 (by omega)
          by_cases h1 : (by_ s pos : Int) < 32
          · have ok : okB (by_ s pos) = false := by unfold okB; rw [n9n, Bool.false_or]; exact decide_eq_false (by omega)
            have d1 : decide ((by_ s pos : Int) < 32) = true := decide_eq_true h1
            clear h1 h9 n9n
            go_wp2
            go_ret
            rw [ok, Bool.false_and] at hr
            rw [← hr]
            exact ⟨rfl, (Below.refl w.heap.size w).alloc (Nat.le_refl _) _⟩
          · have d1 : decide ((by_ s pos : Int) < 32) = false := decide_eq_false h1
            by_cases h2 : (126 : Int) < (by_ s pos : Int)
            · have ok : okB (by_ s pos) = false := by unfold okB; rw [n9n, Bool.false_or]; exact decide_eq_false (by omega)
              have d2 : decide ((126 : Int) < (by_ s pos : Int)) = true := decide_eq_true h2
              clear h1 h2 h9 n9n
              go_wp2
              go_ret
              rw [ok, Bool.false_and] at hr
              rw [← hr]
              exact ⟨rfl, (Below.refl w.heap.size w).alloc (Nat.le_refl _) _⟩
            · have ok : okB (by_ s pos) = true := by unfold okB; rw [n9n, Bool.false_or]; exact decide_eq_true (by omega)
              have d2 : decide ((126 : Int) < (by_ s pos : Int)) = false := decide_eq_false h2
              clear h1 h2 h9 n9n
              go_wp2
              go_roundw
              case rel => exact ⟨pos + 1, rfl, by omega, ⟨by rw [show s.size - (pos + 1) = d by omega]; rw [ok, Bool.true_and] at hr; exact hr⟩⟩
              case measure => simp; omega
      · have ok : okB (by_ s pos) = false := by
          unfold okB
          rw [Bool.or_eq_false_iff]
          exact ⟨beq_eq_false_iff_ne.2 (by omega), decide_eq_false (by omega)⟩
        have HB := Aside0.mk hbel
        clear hbel
        obtain ⟨q, hq⟩ : ∃ q, (Utf8.decode s pos).1 = q := ⟨_, rfl⟩
        rw [hq] at h1
        have hnx : ∀ ty, (Instr.next (.pointer (some ⟨w.heap.size, 0, none⟩)) true ty).run Tryd.prog (w.iter s pos) = .ok (.tuple #[.bool true, .int .i64 pos, .int .i32 q]) (w.iter s (pos + (Utf8.decode s pos).2)) := fun ty => by
          have := run_next_any (P := Tryd.prog) w s pos ty hp
          rw [hq] at this
          exact this
        have HB2 := Aside0.mk (show Below w.heap.size w (w.iter s (pos + (Utf8.decode s pos).2)) from (Below.refl w.heap.size w).alloc (Nat.le_refl _) _)
        have n9 : ((q : Int) == 9) = false := beq_eq_false_iff_ne.2 (by omega)
        have n9' : ((q : Int) != 9) = true := bne_iff_ne.2 (by omega)
        have d1 : decide ((q : Int) < 32) = false := decide_eq_false (by omega)
        have d2 : decide ((126 : Int) < (q : Int)) = true := decide_eq_true (by omega)
        clear hq h2 h3 h4
        go_wp2
        go_ret
        rw [ok, Bool.false_and] at hr
        rw [← hr]
        exact ⟨rfl, HB2.out⟩
    · have hnx : ∀ ty, (Instr.next (.pointer (some ⟨w.heap.size, 0, none⟩)) true ty).run Tryd.prog (w.iter s pos) = _ := fun ty => run_next_end w s pos ty hp
      have HB := Aside0.mk hbel
      clear hbel
      go_wp2
      go_ret
      have hr := hR.out
      rw [show s.size - pos = 0 by omega, remFrom] at hr
      rw [← hr]
      exact ⟨rfl, HB.out⟩

/-- The literal function that Read hands to FieldsFunc. -/
theorem blank_walk (r : Nat) (w : World) : Calls Tryd.prog 42 #[.int .i32 r] w fun e w' => e = .returned (.bool (blankR r)) ∧ ∃ q, w' = w.drewN q := by
  by_cases h32 : (r : Int) = 32
  · have e : blankR r = true := by unfold blankR; rw [Bool.or_eq_true]; exact Or.inl (beq_iff_eq.2 (by omega))
    rw [h32, e]
    go_enter Tryd.func42, Tryd.ntmps42
    go_wp2
    go_ret
    exact ⟨rfl, 0, rfl⟩
  · have c1 : ((r : Int) == 32) = false := beq_eq_false_iff_ne.2 h32
    by_cases h9 : (r : Int) = 9
    · have e : blankR r = true := by unfold blankR; rw [Bool.or_eq_true]; exact Or.inr (beq_iff_eq.2 (by omega))
      rw [h9, e]
      go_enter Tryd.func42, Tryd.ntmps42
      go_wp2
      go_ret
      exact ⟨rfl, 0, rfl⟩
    · have c2 : ((r : Int) == 9) = false := beq_eq_false_iff_ne.2 h9
      have e : blankR r = false := by unfold blankR; rw [Bool.or_eq_false_iff]; exact ⟨beq_eq_false_iff_ne.2 (by omega), beq_eq_false_iff_ne.2 (by omega)⟩
      rw [e]
      clear h32 h9
      go_enter Tryd.func42, Tryd.ntmps42
      go_wp2
      go_ret
      exact ⟨by first | rfl | simp [*], 0, rfl⟩
end Go.Proofs.YtooojhlndlebdaaRRRDoorRRRR.R
