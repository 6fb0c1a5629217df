/- The references of layers 4, 5 and 13: names, values, methods, paths, formats. -/
import Derived.Test.YtnbgfpcpfknjoaaGreatDoorPB
namespace Go.Proofs.YtnbgfpcpfknjoaaGreatDoor
set_option linter.all false
open Go.RowKit

theorem all_val (s : ByteArray) : allB valueB (bs s) = allB (rangeB 32 126) (bs s) := rfl
set_option maxHeartbeats 1000000 in
theorem refName_any (s : ByteArray) (w : World) (hs : s.size ≤ maxLen) :
    Calls Tryz.prog 61 #[.string s] w fun e w' => e = .returned (.bool (nameOk s)) ∧ w = w' := by
  unfold maxLen at hs
  by_cases h1 : s.size < 1
  · have h1' : decide ((s.size : Int) < 1) = true := decide_eq_true (by omega)
    have HN : Hid (nameOk s = false) := by unfold Hid nameOk; rw [decide_eq_false (by omega)]; rfl
    have h1e : s.toList = [] := by rw [nil_toList]; omega
    go_enter Tryz.func61, Tryz.ntmps61
    go_wp2
    go_ret
    exact ⟨ret_bool HN.out.symm, rfl⟩
  have h1' : decide ((s.size : Int) < 1) = false := decide_eq_false (by omega)
  by_cases h2 : 32 < s.size
  · have h2' : decide ((32 : Int) < (s.size : Int)) = true := decide_eq_true (by omega)
    have HN : Hid (nameOk s = false) := by unfold Hid nameOk; rw [decide_eq_false (show ¬ s.size ≤ 32 by omega)]; simp
    go_enter Tryz.func61, Tryz.ntmps61
    go_wp2
    go_ret
    exact ⟨ret_bool HN.out.symm, rfl⟩
  have h2' : decide ((32 : Int) < (s.size : Int)) = false := decide_eq_false (by omega)
  have HN : Hid (nameOk s = allB nameB (bs s)) := by unfold Hid nameOk; rw [decide_eq_true (show 1 ≤ s.size by omega), decide_eq_true (show s.size ≤ 32 by omega)]; rfl
  go_enter Tryz.func61, Tryz.ntmps61
  go_wp2
  go_loop [3] (fun i => ∃ k : Nat, k ≤ s.size ∧ i = .int .i64 k ∧ Hid (allB nameB ((bs s).take k) = true)) (fun i => s.size - (intOf i).toNat)
  case atStart => exact ⟨0, Nat.zero_le _, rfl, by simp [Hid, allB]⟩
  case round =>
    obtain ⟨k, hk, rfl, HI⟩ := hrel
    by_cases hlt : k < s.size
    · have hsn := Lib.hid (allB_snoc nameB s k hlt)
      have hno := Lib.hid (allB_no nameB s k hlt)
      by_cases g0 : ((s[k]'hlt).toNat : Int) = 45
      · have HX : Hid (allB nameB ((bs s).take (k + 1)) = true) := by
          unfold Hid; rw [hsn.out, HI.out, Bool.true_and]
          simp only [nameB, Bool.or_eq_true, Bool.and_eq_true, decide_eq_true_eq, beq_iff_eq]; omega
        have g' : (((s[k]'hlt).toNat : Int) != 45) = false := by rw [bne_eq_false_iff_eq]; exact g0
        have G0 := Lib.hid g0
        clear hsn hno g0
        go_wp2
        go_round
        case rel => exact ⟨k + 1, by omega, by go_num, HX⟩
        case measure => simp [intOf]; omega
      by_cases g1 : ((s[k]'hlt).toNat : Int) < 48
      · have HF : Hid (allB nameB (bs s) = false) := hno.out (by simp only [nameB, Bool.or_eq_false_iff, Bool.and_eq_false_iff, decide_eq_false_iff_not, beq_eq_false_iff_ne]; omega)
        have g' : (((s[k]'hlt).toNat : Int) != 45) = true := by rw [bne_iff_ne]; omega
        clear hsn hno
        go_wp2
        go_ret
        exact ⟨ret_bool (by rw [HN.out, HF.out]), rfl⟩
      by_cases g2 : ((s[k]'hlt).toNat : Int) ≤ 57
      · have HX : Hid (allB nameB ((bs s).take (k + 1)) = true) := by
          unfold Hid; rw [hsn.out, HI.out, Bool.true_and]
          simp only [nameB, Bool.or_eq_true, Bool.and_eq_true, decide_eq_true_eq, beq_iff_eq]; omega
        have g' : (((s[k]'hlt).toNat : Int) != 45) = true := by rw [bne_iff_ne]; omega
        clear hsn hno
        go_wp2
        go_round
        case rel => exact ⟨k + 1, by omega, by go_num, HX⟩
        case measure => simp [intOf]; omega
      by_cases g3 : ((s[k]'hlt).toNat : Int) < 97
      · have HF : Hid (allB nameB (bs s) = false) := hno.out (by simp only [nameB, Bool.or_eq_false_iff, Bool.and_eq_false_iff, decide_eq_false_iff_not, beq_eq_false_iff_ne]; omega)
        have g' : (((s[k]'hlt).toNat : Int) != 45) = true := by rw [bne_iff_ne]; omega
        clear hsn hno
        go_wp2
        go_ret
        exact ⟨ret_bool (by rw [HN.out, HF.out]), rfl⟩
      by_cases g4 : ((s[k]'hlt).toNat : Int) ≤ 122
      · have HX : Hid (allB nameB ((bs s).take (k + 1)) = true) := by
          unfold Hid; rw [hsn.out, HI.out, Bool.true_and]
          simp only [nameB, Bool.or_eq_true, Bool.and_eq_true, decide_eq_true_eq, beq_iff_eq]; omega
        have g' : (((s[k]'hlt).toNat : Int) != 45) = true := by rw [bne_iff_ne]; omega
        clear hsn hno
        go_wp2
        go_round
        case rel => exact ⟨k + 1, by omega, by go_num, HX⟩
        case measure => simp [intOf]; omega
      · have HF : Hid (allB nameB (bs s) = false) := hno.out (by simp only [nameB, Bool.or_eq_false_iff, Bool.and_eq_false_iff, decide_eq_false_iff_not, beq_eq_false_iff_ne]; omega)
        have g' : (((s[k]'hlt).toNat : Int) != 45) = true := by rw [bne_iff_ne]; omega
        clear hsn hno
        go_wp2
        go_ret
        exact ⟨ret_bool (by rw [HN.out, HF.out]), rfl⟩
    · have HA := Lib.hid (allB_all nameB s k (by omega) HI.out)
      go_wp2
      go_ret
      exact ⟨ret_bool (by rw [HN.out, HA.out]), rfl⟩

def eachOk (s : ByteArray) (a b lo hi : Int) : Bool := decide (a ≤ s.size) && decide ((s.size : Int) ≤ b) && allB (rangeB lo hi) (bs s)
set_option maxHeartbeats 1000000 in
theorem refEach_any (s : ByteArray) (a b lo hi : Int) (w : World) (hs : s.size ≤ maxLen) :
    Calls Tryz.prog 106 #[.string s, .int .i64 a, .int .i64 b, .int .u8 lo, .int .u8 hi] w fun e w' => e = .returned (.bool (eachOk s a b lo hi)) ∧ w = w' := by
  unfold maxLen at hs
  by_cases h1 : (s.size : Int) < a
  · have HN : Hid (eachOk s a b lo hi = false) := by unfold Hid eachOk; rw [decide_eq_false (by omega)]; rfl
    go_enter Tryz.func106, Tryz.ntmps106
    go_wp2
    go_ret
    exact ⟨ret_bool HN.out.symm, rfl⟩
  by_cases h2 : b < (s.size : Int)
  · have HN : Hid (eachOk s a b lo hi = false) := by unfold Hid eachOk; rw [decide_eq_false (show ¬ (s.size : Int) ≤ b by omega)]; simp
    go_enter Tryz.func106, Tryz.ntmps106
    go_wp2
    go_ret
    exact ⟨ret_bool HN.out.symm, rfl⟩
  have HN : Hid (eachOk s a b lo hi = allB (rangeB lo hi) (bs s)) := by unfold Hid eachOk; rw [decide_eq_true (show a ≤ s.size by omega), decide_eq_true (show (s.size : Int) ≤ b by omega)]; rfl
  go_enter Tryz.func106, Tryz.ntmps106
  go_wp2
  go_loop [11] (fun i => ∃ k : Nat, k ≤ s.size ∧ i = .int .i64 k ∧ Hid (allB (rangeB lo hi) ((bs s).take k) = true)) (fun i => s.size - (intOf i).toNat)
  case atStart => exact ⟨0, Nat.zero_le _, rfl, by simp [Hid, allB]⟩
  case round =>
    obtain ⟨k, hk, rfl, HI⟩ := hrel
    by_cases hlt : k < s.size
    · have hsn := Lib.hid (allB_snoc (rangeB lo hi) s k hlt)
      have hno := Lib.hid (allB_no (rangeB lo hi) s k hlt)
      by_cases g1 : ((s[k]'hlt).toNat : Int) < lo
      · go_wp2
        go_ret
        exact ⟨ret_bool (by rw [HN.out, hno.out (by simp [rangeB]; omega)]), rfl⟩
      · by_cases g2 : hi < ((s[k]'hlt).toNat : Int)
        · go_wp2
          go_ret
          exact ⟨ret_bool (by rw [HN.out, hno.out (by simp [rangeB]; omega)]), rfl⟩
        · go_wp2
          go_round
          case rel => exact ⟨k + 1, by omega, by go_num, by unfold Hid; rw [hsn.out, HI.out]; simp [rangeB]; omega⟩
          case measure => simp [intOf]; omega
    · go_wp2
      go_ret
      exact ⟨ret_bool (by rw [HN.out, allB_all (rangeB lo hi) s k (by omega) HI.out]), rfl⟩
theorem each_method (s : ByteArray) : eachOk s 1 8 65 90 = methodOk s := by
  unfold eachOk methodOk
  congr 1
  congr 1
  · exact decide_eq_decide.2 (by omega)
  · exact decide_eq_decide.2 (by omega)
set_option maxHeartbeats 400000 in
theorem refMethod_any (s : ByteArray) (w : World) (hs : s.size ≤ maxLen) :
    Calls Tryz.prog 81 #[.string s] w fun e w' => e = .returned (.bool (methodOk s)) ∧ w = w' := by
  go_enter Tryz.func81, Tryz.ntmps81
  go_wp2_with fail
  refine (refEach_any s 1 8 65 90 w hs).mono ?_
  rintro e w' ⟨rfl, rfl⟩
  go_wp2
  go_ret
  exact ⟨ret_bool (each_method s), rfl⟩
set_option maxHeartbeats 400000 in
theorem refPath_any (s : ByteArray) (w : World) (hs : s.size ≤ maxLen) :
    Calls Tryz.prog 82 #[.string s] w fun e w' => e = .returned (.bool (pathOk s)) ∧ w = w' := by
  have hs' := hs
  unfold maxLen at hs'
  have HP : Hid (pathOk s = (eachOk s 1 64 33 126 && decide (bt s 0 = 47))) := by
    unfold Hid pathOk eachOk
    have e1 : decide ((1 : Int) ≤ (s.size : Int)) = decide (1 ≤ s.size) := decide_eq_decide.2 (by omega)
    have e2 : decide ((s.size : Int) ≤ 64) = decide (s.size ≤ 64) := decide_eq_decide.2 (by omega)
    rw [e1, e2]
    cases decide (1 ≤ s.size) <;> cases decide (s.size ≤ 64) <;> cases decide (bt s 0 = 47) <;> cases allB (rangeB 33 126) (bs s) <;> rfl
  cases he : eachOk s 1 64 33 126
  · have HE := Lib.hid he
    clear he
    go_enter Tryz.func82, Tryz.ntmps82
    go_wp2_with fail
    refine (refEach_any s 1 64 33 126 w hs).mono ?_
    rintro e w' ⟨rfl, rfl⟩
    rw [HE.out]
    go_wp2
    go_ret
    exact ⟨ret_bool (by rw [HP.out, HE.out]; rfl), rfl⟩
  · have hpos : 0 < s.size := by
      unfold eachOk at he
      simp only [Bool.and_eq_true, decide_eq_true_eq] at he
      omega
    have HE := Lib.hid he
    have HB := Lib.hid (bt_at s 0 hpos)
    clear he
    go_enter Tryz.func82, Tryz.ntmps82
    go_wp2_with fail
    refine (refEach_any s 1 64 33 126 w hs).mono ?_
    rintro e w' ⟨rfl, rfl⟩
    rw [HE.out]
    go_wp2
    go_ret
    exact ⟨ret_bool (by rw [HP.out, HE.out, ← HB.out, Bool.true_and]; rfl), rfl⟩

set_option maxHeartbeats 1000000 in
theorem refFormat_any (s : ByteArray) (w : World) (hs : s.size ≤ maxLen) :
    Calls Tryz.prog 39 #[.string s] w fun e w' => e = .returned (.bool (formatOk s)) ∧ w = w' := by
  unfold maxLen at hs
  by_cases h2 : 120 < s.size
  · have h2' : decide ((120 : Int) < (s.size : Int)) = true := decide_eq_true (by omega)
    have HN : Hid (formatOk s = false) := by unfold Hid formatOk; rw [decide_eq_false (show ¬ s.size ≤ 120 by omega)]; simp
    go_enter Tryz.func39, Tryz.ntmps39
    go_wp2
    go_ret
    exact ⟨ret_bool HN.out.symm, rfl⟩
  have h2' : decide ((120 : Int) < (s.size : Int)) = false := decide_eq_false (by omega)
  have HN : Hid (formatOk s = allB (rangeB 32 126) (bs s)) := by unfold Hid formatOk; rw [decide_eq_true (show s.size ≤ 120 by omega)]; simp
  go_enter Tryz.func39, Tryz.ntmps39
  go_wp2
  go_loop [3] (fun i => ∃ k : Nat, k ≤ s.size ∧ i = .int .i64 k ∧ Hid (allB (rangeB 32 126) ((bs s).take k) = true)) (fun i => s.size - (intOf i).toNat)
  case atStart => exact ⟨0, Nat.zero_le _, rfl, by simp [Hid, allB]⟩
  case round =>
    obtain ⟨k, hk, rfl, HI⟩ := hrel
    by_cases hlt : k < s.size
    · have hsn := Lib.hid (allB_snoc (rangeB 32 126) s k hlt)
      have hno := Lib.hid (allB_no (rangeB 32 126) s k hlt)
      by_cases g1 : ((s[k]'hlt).toNat : Int) < 32
      · go_wp2
        go_ret
        exact ⟨ret_bool (by rw [HN.out, hno.out (by simp [rangeB]; omega)]), rfl⟩
      · by_cases g2 : 126 < ((s[k]'hlt).toNat : Int)
        · go_wp2
          go_ret
          exact ⟨ret_bool (by rw [HN.out, hno.out (by simp [rangeB]; omega)]), rfl⟩
        · go_wp2
          go_round
          case rel => exact ⟨k + 1, by omega, by go_num, by unfold Hid; rw [hsn.out, HI.out]; simp [rangeB]; omega⟩
          case measure => simp [intOf]; omega
    · go_wp2
      go_ret
      exact ⟨ret_bool (by rw [HN.out, allB_all (rangeB 32 126) s k (by omega) HI.out]), rfl⟩

set_option maxHeartbeats 1000000 in
theorem refValue_any (s : ByteArray) (w : World) (hs : s.size ≤ maxLen) :
    Calls Tryz.prog 83 #[.string s] w fun e w' => e = .returned (.bool (valueOk s)) ∧ w = w' := by
  unfold maxLen at hs
  by_cases h2 : 64 < s.size
  · have h2' : decide ((64 : Int) < (s.size : Int)) = true := decide_eq_true (by omega)
    have HN : Hid (valueOk s = false) := by unfold Hid valueOk; rw [decide_eq_false (show ¬ s.size ≤ 64 by omega)]; simp
    go_enter Tryz.func83, Tryz.ntmps83
    go_wp2
    go_ret
    exact ⟨ret_bool HN.out.symm, rfl⟩
  have h2' : decide ((64 : Int) < (s.size : Int)) = false := decide_eq_false (by omega)
  have HN : Hid (valueOk s = (allB (rangeB 32 126) (bs s) && (decide (s.size = 0) || (decide (bt s 0 ≠ 32) && decide (bt s (s.size - 1) ≠ 32))))) := by unfold Hid valueOk; rw [decide_eq_true (show s.size ≤ 64 by omega), all_val]; simp
  go_enter Tryz.func83, Tryz.ntmps83
  go_wp2
  go_loop [3] (fun i => ∃ k : Nat, k ≤ s.size ∧ i = .int .i64 k ∧ Hid (allB (rangeB 32 126) ((bs s).take k) = true)) (fun i => s.size - (intOf i).toNat)
  case atStart => exact ⟨0, Nat.zero_le _, rfl, by simp [Hid, allB]⟩
  case round =>
    obtain ⟨k, hk, rfl, HI⟩ := hrel
    by_cases hlt : k < s.size
    · have hsn := Lib.hid (allB_snoc (rangeB 32 126) s k hlt)
      have hno := Lib.hid (allB_no (rangeB 32 126) s k hlt)
      by_cases g1 : ((s[k]'hlt).toNat : Int) < 32
      · go_wp2
        go_ret
        exact ⟨ret_bool (by rw [HN.out, hno.out (by simp [rangeB]; omega)]; rfl), rfl⟩
      · by_cases g2 : 126 < ((s[k]'hlt).toNat : Int)
        · go_wp2
          go_ret
          exact ⟨ret_bool (by rw [HN.out, hno.out (by simp [rangeB]; omega)]; rfl), rfl⟩
        · go_wp2
          go_round
          case rel => exact ⟨k + 1, by omega, by go_num, by unfold Hid; rw [hsn.out, HI.out]; simp [rangeB]; omega⟩
          case measure => simp [intOf]; omega
    · have HA := Lib.hid (allB_all (rangeB 32 126) s k (by omega) HI.out)
      by_cases h0 : s.size = 0
      · have h0' : ((s.size : Int) == 0) = true := by simp [h0]
        have h1e : s.toList = [] := by rw [nil_toList]; exact h0
        have H0 := Lib.hid h0
        clear h0
        go_wp2
        go_ret
        exact ⟨ret_bool (by rw [HN.out, HA.out, decide_eq_true H0.out]; rfl), rfl⟩
      · have h0' : ((s.size : Int) == 0) = false := by simp [h0]
        have h1e : s.toList.isEmpty = false := by rw [isEmpty_toList]; exact decide_eq_false h0
        have hp : 0 < s.size := by omega
        have hp1 : s.size - 1 < s.size := by omega
        have B0 := Lib.hid (bt_at s 0 hp)
        have B1 := Lib.hid (bt_at s (s.size - 1) hp1)
        have e1 : (s.size : Int) - 1 = ((s.size - 1 : Nat) : Int) := by omega
        by_cases q0 : bt s 0 = 32
        · have q0' : (((s[0]'hp).toNat : Int) != 32) = false := by rw [B0.out, q0]; rfl
          have Q0 := Lib.hid q0
          clear q0
          go_wp2
          go_ret
          exact ⟨ret_bool (by rw [HN.out, HA.out, decide_eq_false (by omega), decide_eq_false (by rw [Q0.out]; decide)]; rfl), rfl⟩
        · have q0' : (((s[0]'hp).toNat : Int) != 32) = true := by rw [B0.out]; simp [q0]
          have Q0 := Lib.hid q0
          clear q0
          go_wp2
          go_ret
          exact ⟨ret_bool (a := (((s[s.size - 1]'hp1).toNat : Int) != 32)) (by rw [HN.out, HA.out, decide_eq_false h0, decide_eq_true Q0.out, ← B1.out, Bool.eq_iff_iff]; simp), rfl⟩
end Go.Proofs.YtnbgfpcpfknjoaaGreatDoor
