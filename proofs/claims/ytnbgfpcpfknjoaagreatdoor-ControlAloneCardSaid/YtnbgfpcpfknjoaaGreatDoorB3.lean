/- table.Check. -/
import Derived.Test.YtnbgfpcpfknjoaaGreatDoorB2
import Derived.Test.YtnbgfpcpfknjoaaGreatDoorPB
namespace Go.Proofs.YtnbgfpcpfknjoaaGreatDoor
set_option linter.all false
open Go.RowKit

set_option maxHeartbeats 1000000 in
theorem tableCheck_any (rules : List Rule) (f : ByteArray) (names : List ByteArray) (Sn : Nat → Prop) (An : Option Addr) (cn : Nat) (S : Nat → Prop) (Ar : Option Addr) (cr : Nat) (w : World) (hr : ruleR.sl w S (.slice Ar rules.length cr) rules) (hf : f.size ≤ maxLen) (HN : Hid (strR.sl w Sn (.slice An names.length cn) names)) (HNM : Hid (names.length ≤ maxLen)) :
    Calls Tryz.prog 43 #[.agg #[.slice Ar rules.length cr, .string f], .slice An names.length cn] w fun e w' => e = .returned (.int .i64 (cfgChk (fun r => ruleChk r names) rules f)) ∧ Below w.heap.size w w' := by
  have HR := Lib.hid hr
  have HF := Lib.hid hf
  have HM := (Rp.sl_len hr).2
  unfold maxLen at HM
  clear hr hf
  cases hp : formatOk f
  · go_enter Tryz.func43, Tryz.ntmps43
    go_wp2_with (go_at_call 65; refine (tprintable_any _ _ HF.out).mono ?_; rintro e w' ⟨rfl, rfl⟩)
    go_ret
    exact ⟨ret_int (by unfold cfgChk; rw [if_pos hp]), bel (Below.refl _ _) _⟩
  by_cases hl : 16 < rules.length
  · have hl' : decide (16 < (rules.length : Int)) = true := decide_eq_true (by omega)
    go_enter Tryz.func43, Tryz.ntmps43
    go_wp2_with (go_at_call 65; refine (tprintable_any _ _ HF.out).mono ?_; rintro e w' ⟨rfl, rfl⟩)
    go_ret
    exact ⟨ret_int (by unfold cfgChk; rw [if_neg (by rw [hp]; simp), if_pos hl]), bel (Below.refl _ _) _⟩
  have hl' : decide (16 < (rules.length : Int)) = false := decide_eq_false (by omega)
  have HE : Hid (cfgChk (fun r => ruleChk r names) rules f = firstErr (fun r => ruleChk r names) rules) := by unfold Hid cfgChk; rw [if_neg (by rw [hp]; simp), if_neg hl]
  go_enter Tryz.func43, Tryz.ntmps43
  go_wp2_with (go_at_call 65; refine (tprintable_any _ _ HF.out).mono ?_; rintro e w' ⟨rfl, rfl⟩)
  have HB0 := Bx.made (w := w) (Below.refl _ w) (k := 0) rfl [.slice Ar rules.length cr, .string f] 40
  go_loopw [21] (fun i wr => ∃ k : Nat, k ≤ rules.length ∧ i = .int .i64 k ∧ Hid (∀ j, j < k → ∀ hj : j < rules.length, (fun r => ruleChk r names) (rules[j]'hj) = 0) ∧ Bx w wr 0 [.slice Ar rules.length cr, .string f]) (fun i _ => rules.length - (intOf i).toNat)
  case atStart => exact ⟨0, Nat.zero_le _, rfl, by intro j hj; omega, HB0⟩
  case round =>
    obtain ⟨k, hk, rfl, HI, HB⟩ := hrel
    clear HB0
    by_cases hlt : k < rules.length
    · obtain ⟨b, o, Ap, cp, rfl, hb0, hcs, hps, hok⟩ := ruleR_at (Rp.sl_below HR.out HB.below) hlt
      have HPS := Lib.hid hps
      have HOK := Lib.hid hok
      have c0 := hcs 0 _ rfl
      have c1 := hcs 1 _ rfl
      have c2 := hcs 2 _ rfl
      have c3 := hcs 3 _ rfl
      have c4 := hcs 4 _ rfl
      have c5 := hcs 5 _ rfl
      have c6 := hcs 6 _ rfl
      have c7 := hcs 7 _ rfl
      have c8 := hcs 8 _ rfl
      have c9 := hcs 9 _ rfl
      rw [Nat.add_zero] at c0
      have HBl := HB.lt0
      clear hps hok hcs
      by_cases hq : (fun r => ruleChk r names) (rules[k]'hlt) = 0
      · have hq' : (ruleChk (rules[k]'hlt) names != 0) = false := by have : ruleChk (rules[k]'hlt) names = 0 := hq; rw [this]; rfl
        have HQ := Lib.hid hq
        clear hq
        go_wp2_with (go_at_call 66; refine (ruleCheck_any _ names _ _ _ _ _ _ _ (Rp.sl_alloc HPS.out _) (Rp.sl_below HN.out (belTrans HB.below (bel (Below.refl _ _) _))) HNM.out (Rp.sl_lenv HPS.out) HOK.out).mono ?_; rintro e w1 ⟨rfl, hb⟩)
        go_roundw
        case rel =>
          refine ⟨k + 1, by omega, by go_num, ?_, HB.next (belTrans (bel (Below.refl _ _) _) hb)⟩
          intro j hj hl
          by_cases e : j = k
          · subst e; exact HQ.out
          · exact HI.out j (by omega) hl
        case measure => simp [intOf]; omega
      · have hq' : (ruleChk (rules[k]'hlt) names != 0) = true := bne_iff_ne.2 hq
        have HQ := Lib.hid (firstErr_hit (fun r => ruleChk r names) rules k hlt HI.out hq)
        clear hq
        go_wp2_with (go_at_call 66; refine (ruleCheck_any _ names _ _ _ _ _ _ _ (Rp.sl_alloc HPS.out _) (Rp.sl_below HN.out (belTrans HB.below (bel (Below.refl _ _) _))) HNM.out (Rp.sl_lenv HPS.out) HOK.out).mono ?_; rintro e w1 ⟨rfl, hb⟩)
        go_ret
        exact ⟨ret_int (by rw [HE.out, HQ.out]), belTrans HB.below (belTrans (bel (Below.refl _ _) _) hb)⟩
    · have HQ : Hid (firstErr (fun r => ruleChk r names) rules = 0) := firstErr_none _ _ fun j hj => HI.out j (by omega) hj
      go_wp2
      go_ret
      exact ⟨ret_int (by rw [HE.out, HQ.out]), HB.below⟩

set_option maxHeartbeats 400000 in
theorem version_any (n : Int) (w : World) :
    Calls Tryz.prog 44 #[.int .i64 n] w fun e w' => e = .returned (.bool (rangeB 1 1099511627776 n)) ∧ w = w' := by
  go_enter Tryz.func44, Tryz.ntmps44
  go_wp2
  all_goals
    go_ret
    exact ⟨ret_bool (by rw [Bool.eq_iff_iff]; simp [rangeB]; omega), rfl⟩
end Go.Proofs.YtnbgfpcpfknjoaaGreatDoor
