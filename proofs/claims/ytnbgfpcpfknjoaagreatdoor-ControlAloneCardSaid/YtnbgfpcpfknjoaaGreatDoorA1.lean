/- head, msg: what a name, a value, a method, a path may be. -/
import Derived.Test.YtnbgfpcpfknjoaaGreatDoor0
namespace Go.Proofs.YtnbgfpcpfknjoaaGreatDoor
set_option linter.all false
open Go.RowKit

def nameB (b : Int) : Bool := (b == 45) || (decide (48 ≤ b) && decide (b ≤ 57)) || (decide (97 ≤ b) && decide (b ≤ 122))
def valueB (b : Int) : Bool := decide (32 ≤ b) && decide (b ≤ 126)
def rangeB (lo hi b : Int) : Bool := decide (lo ≤ b) && decide (b ≤ hi)

set_option maxHeartbeats 400000 in
theorem name1_any (b : Int) (w : World) :
    Calls Tryz.prog 105 #[.int .u8 b] w fun e w' => e = .returned (.bool (nameB b)) ∧ w = w' := by
  go_enter Tryz.func105, Tryz.ntmps105
  go_wp2
  all_goals
    go_ret
    exact ⟨ret_bool (by first | decide | (rw [Bool.eq_iff_iff]; simp [nameB]; omega)), rfl⟩

set_option maxHeartbeats 400000 in
theorem value1_any (b : Int) (w : World) :
    Calls Tryz.prog 155 #[.int .u8 b] w fun e w' => e = .returned (.bool (valueB b)) ∧ w = w' := by
  go_enter Tryz.func155, Tryz.ntmps155
  go_wp2
  all_goals
    go_ret
    exact ⟨ret_bool (by first | decide | (rw [Bool.eq_iff_iff]; simp [valueB]; omega)), rfl⟩

set_option maxHeartbeats 400000 in
theorem everyName_any (s : ByteArray) (w : World) (hs : s.size ≤ maxLen) :
    Calls Tryz.prog 104 #[.string s, .func (.func 105) #[] #[]] w fun e w' => e = .returned (.bool (allB nameB (bs s))) ∧ w = w' := by
  unfold maxLen at hs
  go_enter Tryz.func104, Tryz.ntmps104
  go_wp2
  go_loop [8] (fun i => ∃ k : Nat, k ≤ s.size ∧ i = .int .i64 k ∧ Hid (allB nameB ((bs s).take k) = true)) (fun i => s.size - (intOf i).toNat)
  case atStart => exact ⟨0, Nat.zero_le _, rfl, by simp [Hid, allB]⟩
  case round =>
    obtain ⟨k, hk, rfl, HI⟩ := hrel
    by_cases hlt : k < s.size
    · have hsn := Lib.hid (allB_snoc nameB s k hlt)
      have hno := Lib.hid (allB_no nameB s k hlt)
      by_cases hb : nameB ((s[k]'hlt).toNat) = true
      · have hb' : (!nameB ((s[k]'hlt).toNat)) = false := by rw [hb]; rfl
        have HB := Lib.hid hb
        clear hb
        go_wp2_with (go_at_call 105; refine (name1_any _ _).mono ?_; rintro e w' ⟨rfl, rfl⟩)
        go_round
        case rel => exact ⟨k + 1, by omega, by go_num, by unfold Hid; rw [hsn.out, HB.out, HI.out]; rfl⟩
        case measure => simp [intOf]; omega
      · have hb' : (!nameB ((s[k]'hlt).toNat)) = true := by simp [hb]
        have HB := Lib.hid hb
        clear hb
        go_wp2_with (go_at_call 105; refine (name1_any _ _).mono ?_; rintro e w' ⟨rfl, rfl⟩)
        go_ret
        exact ⟨ret_bool (hno.out (by have := HB.out; simpa using this)).symm, rfl⟩
    · go_wp2
      go_ret
      exact ⟨ret_bool (allB_all nameB s k (by omega) HI.out).symm, rfl⟩

set_option maxHeartbeats 400000 in
theorem everyValue_any (s : ByteArray) (w : World) (hs : s.size ≤ maxLen) :
    Calls Tryz.prog 104 #[.string s, .func (.func 155) #[] #[]] w fun e w' => e = .returned (.bool (allB valueB (bs s))) ∧ w = w' := by
  unfold maxLen at hs
  go_enter Tryz.func104, Tryz.ntmps104
  go_wp2
  go_loop [8] (fun i => ∃ k : Nat, k ≤ s.size ∧ i = .int .i64 k ∧ Hid (allB valueB ((bs s).take k) = true)) (fun i => s.size - (intOf i).toNat)
  case atStart => exact ⟨0, Nat.zero_le _, rfl, by simp [Hid, allB]⟩
  case round =>
    obtain ⟨k, hk, rfl, HI⟩ := hrel
    by_cases hlt : k < s.size
    · have hsn := Lib.hid (allB_snoc valueB s k hlt)
      have hno := Lib.hid (allB_no valueB s k hlt)
      by_cases hb : valueB ((s[k]'hlt).toNat) = true
      · have hb' : (!valueB ((s[k]'hlt).toNat)) = false := by rw [hb]; rfl
        have HB := Lib.hid hb
        clear hb
        go_wp2_with (go_at_call 155; refine (value1_any _ _).mono ?_; rintro e w' ⟨rfl, rfl⟩)
        go_round
        case rel => exact ⟨k + 1, by omega, by go_num, by unfold Hid; rw [hsn.out, HB.out, HI.out]; rfl⟩
        case measure => simp [intOf]; omega
      · have hb' : (!valueB ((s[k]'hlt).toNat)) = true := by simp [hb]
        have HB := Lib.hid hb
        clear hb
        go_wp2_with (go_at_call 155; refine (value1_any _ _).mono ?_; rintro e w' ⟨rfl, rfl⟩)
        go_ret
        exact ⟨ret_bool (hno.out (by have := HB.out; simpa using this)).symm, rfl⟩
    · go_wp2
      go_ret
      exact ⟨ret_bool (allB_all valueB s k (by omega) HI.out).symm, rfl⟩

/-- A header's name may be. -/
def nameOk (s : ByteArray) : Bool := decide (1 ≤ s.size) && decide (s.size ≤ 32) && allB nameB (bs s)
/-- A header's value may be. -/
def valueOk (s : ByteArray) : Bool := decide (s.size ≤ 64) && allB valueB (bs s) && (decide (s.size = 0) || (decide (bt s 0 ≠ 32) && decide (bt s (s.size - 1) ≠ 32)))

set_option maxHeartbeats 400000 in
theorem headName_any (s : ByteArray) (w : World) (hs : s.size ≤ maxLen) :
    Calls Tryz.prog 80 #[.string s] w fun e w' => e = .returned (.bool (nameOk s)) ∧ w = w' := by
  have hs' := hs
  unfold maxLen at hs
  go_enter Tryz.func80, Tryz.ntmps80
  go_wp2_with (go_at_call 104; refine (everyName_any _ _ hs').mono ?_; rintro e w' ⟨rfl, rfl⟩)
  all_goals
    go_ret
    refine ⟨ret_bool ?_, rfl⟩
    simp only [nil_toList, isEmpty_toList] at *
    rw [Bool.eq_iff_iff]
    cases hA : allB nameB (bs s) <;> simp [nameOk, hA, -ByteArray.size_eq_zero_iff] <;> omega

set_option maxHeartbeats 400000 in
theorem headValue_any (s : ByteArray) (w : World) (hs : s.size ≤ maxLen) :
    Calls Tryz.prog 135 #[.string s] w fun e w' => e = .returned (.bool (valueOk s)) ∧ w = w' := by
  have hs' := hs
  unfold maxLen at hs
  by_cases h64 : 64 < s.size
  · go_enter Tryz.func135, Tryz.ntmps135
    go_wp2_with (go_at_call 104; refine (everyValue_any _ _ hs').mono ?_; rintro e w' ⟨rfl, rfl⟩)
    go_ret
    exact ⟨ret_bool (by simp [valueOk]; omega), rfl⟩
  cases hA : allB valueB (bs s)
  · go_enter Tryz.func135, Tryz.ntmps135
    go_wp2_with (go_at_call 104; refine (everyValue_any _ _ hs').mono ?_; rintro e w' ⟨rfl, rfl⟩)
    go_ret
    exact ⟨ret_bool (by simp [valueOk, hA]), rfl⟩
  rcases Nat.eq_zero_or_pos s.size with h0 | h0
  · have he : s.toList = [] := by rw [nil_toList]; exact h0
    have hi : s.toList.isEmpty = true := by rw [isEmpty_toList]; simp [h0]
    have HV : Hid (valueOk s = true) := by unfold Hid; simp [valueOk, hA, h0, -ByteArray.size_eq_zero_iff]
    clear h0
    go_enter Tryz.func135, Tryz.ntmps135
    go_wp2_with (go_at_call 104; refine (everyValue_any _ _ hs').mono ?_; rintro e w' ⟨rfl, rfl⟩)
    go_ret
    exact ⟨ret_bool HV.out.symm, rfl⟩
  · have he : ¬ s.toList = [] := by rw [nil_toList]; omega
    have b0 := Lib.hid (bt_at s 0 h0)
    have b1 := Lib.hid (bt_at s (s.size - 1) (by omega))
    have hi : s.toList.isEmpty = false := by rw [isEmpty_toList]; exact decide_eq_false (by omega)
    have HV : Hid (valueOk s = ((((s[0]'h0).toNat : Int) != 32) && (((s[s.size - 1]'(by omega)).toNat : Int) != 32))) := by
      unfold Hid
      rw [b0.out, b1.out, Bool.eq_iff_iff]
      simp [valueOk, hA, -ByteArray.size_eq_zero_iff]
      try omega
    go_enter Tryz.func135, Tryz.ntmps135
    go_wp2_with (go_at_call 104; refine (everyValue_any _ _ hs').mono ?_; rintro e w' ⟨rfl, rfl⟩)
    all_goals
      go_ret
      exact ⟨ret_bool (by rw [HV.out] <;> simp_all), rfl⟩

set_option maxHeartbeats 400000 in
theorem msgEach_any (s : ByteArray) (lo hi : Int) (w : World) (hs : s.size ≤ maxLen) :
    Calls Tryz.prog 164 #[.string s, .int .u8 lo, .int .u8 hi] w fun e w' => e = .returned (.bool (allB (rangeB lo hi) (bs s))) ∧ w = w' := by
  unfold maxLen at hs
  go_enter Tryz.func164, Tryz.ntmps164
  go_wp2
  go_loop [10] (fun i => ∃ k : Nat, k ≤ s.size ∧ i = .int .i64 k ∧ Hid (allB (rangeB lo hi) ((bs s).take k) = true)) (fun i => s.size - (intOf i).toNat)
  case atStart => exact ⟨0, Nat.zero_le _, rfl, by simp [Hid, allB]⟩
  case round =>
    obtain ⟨k, hk, rfl, HI⟩ := hrel
    by_cases hlt : k < s.size
    · have hsn := Lib.hid (allB_snoc (rangeB lo hi) s k hlt)
      have hno := Lib.hid (allB_no (rangeB lo hi) s k hlt)
      by_cases h1 : ((s[k]'hlt).toNat : Int) < lo
      · go_wp2
        go_ret
        exact ⟨ret_bool (hno.out (by simp [rangeB]; omega)).symm, rfl⟩
      · by_cases h2 : hi < ((s[k]'hlt).toNat : Int)
        · go_wp2
          go_ret
          exact ⟨ret_bool (hno.out (by simp [rangeB]; omega)).symm, rfl⟩
        · go_wp2
          go_round
          case rel => exact ⟨k + 1, by omega, by go_num, by unfold Hid; rw [hsn.out, HI.out]; simp [rangeB]; omega⟩
          case measure => simp [intOf]; omega
    · go_wp2
      go_ret
      exact ⟨ret_bool (allB_all (rangeB lo hi) s k (by omega) HI.out).symm, rfl⟩

def methodOk (s : ByteArray) : Bool := decide (1 ≤ s.size) && decide (s.size ≤ 8) && allB (rangeB 65 90) (bs s)
set_option maxHeartbeats 400000 in
theorem msgMethod_any (s : ByteArray) (w : World) (hs : s.size ≤ maxLen) :
    Calls Tryz.prog 161 #[.string s] w fun e w' => e = .returned (.bool (methodOk s)) ∧ w = w' := by
  have hs' := hs
  unfold maxLen at hs
  go_enter Tryz.func161, Tryz.ntmps161
  go_wp2_with (go_at_call 164; refine (msgEach_any _ _ _ _ hs').mono ?_; rintro e w' ⟨rfl, rfl⟩)
  all_goals
    go_ret
    refine ⟨ret_bool ?_, rfl⟩
    simp only [nil_toList, isEmpty_toList] at *
    rw [Bool.eq_iff_iff]
    cases hA : allB (rangeB 65 90) (bs s) <;> simp [methodOk, hA, -ByteArray.size_eq_zero_iff] <;> omega

def pathOk (s : ByteArray) : Bool := decide (1 ≤ s.size) && decide (bt s 0 = 47) && decide (s.size ≤ 64) && allB (rangeB 33 126) (bs s)
set_option maxHeartbeats 400000 in
theorem hasSlash_any (s : ByteArray) (w : World) (hs : s.size ≤ maxLen) :
    Calls Tryz.prog 134 #[.string s, .string ⟨#[47]⟩] w fun e w' => e = .returned (.bool (decide (1 ≤ s.size) && decide (bt s 0 = 47))) ∧ w = w' := by
  unfold maxLen at hs
  rcases Nat.eq_zero_or_pos s.size with h0 | h0
  · have hd : decide ((1 : Int) ≤ (s.size : Int)) = false := decide_eq_false (by omega)
    have HG : Hid (decide (1 ≤ s.size) = false) := decide_eq_false (by omega)
    clear h0
    go_enter Tryz.func134, Tryz.ntmps134
    go_wp2
    go_ret
    exact ⟨ret_bool (by rw [HG.out]; rfl), rfl⟩
  · have hd : decide ((1 : Int) ≤ (s.size : Int)) = true := decide_eq_true (by omega)
    go_enter Tryz.func134, Tryz.ntmps134
    have HX := Lib.hid (extract_one s h0 47)
    go_wp2
    go_ret
    exact ⟨ret_bool (by rw [HX.out, decide_eq_true (show 1 ≤ s.size from h0)]; rfl), rfl⟩

set_option maxHeartbeats 400000 in
theorem msgPath_any (s : ByteArray) (w : World) (hs : s.size ≤ maxLen) :
    Calls Tryz.prog 162 #[.string s] w fun e w' => e = .returned (.bool (pathOk s)) ∧ w = w' := by
  have hs' := hs
  unfold maxLen at hs
  cases h0 : (decide (1 ≤ s.size) && decide (bt s 0 = 47))
  · go_enter Tryz.func162, Tryz.ntmps162
    go_wp2_with (first | (go_at_call 134; refine (hasSlash_any _ _ hs').mono ?_; rintro e w' ⟨rfl, rfl⟩) | (go_at_call 164; refine (msgEach_any _ _ _ _ hs').mono ?_; rintro e w' ⟨rfl, rfl⟩))
    go_ret
    exact ⟨ret_bool (by unfold pathOk; rw [h0]; rfl), rfl⟩
  · go_enter Tryz.func162, Tryz.ntmps162
    go_wp2_with (first | (go_at_call 134; refine (hasSlash_any _ _ hs').mono ?_; rintro e w' ⟨rfl, rfl⟩) | (go_at_call 164; refine (msgEach_any _ _ _ _ hs').mono ?_; rintro e w' ⟨rfl, rfl⟩))
    all_goals
      go_ret
      exact ⟨ret_bool (by unfold pathOk; rw [h0]; cases hA : allB (rangeB 33 126) (bs s) <;> simp <;> omega), rfl⟩

set_option maxHeartbeats 400000 in
theorem headCheck_nil (w : World) :
    Calls Tryz.prog 165 #[.slice none 0 0] w fun e w' => e = .returned (.int .i64 0) ∧ w = w' := by
  go_enter Tryz.func165, Tryz.ntmps165
  go_wp2
  refine wp_loop_rounds 1 ?_
  rw [rounds_succ]
  go_wp2
  go_ret
  exact ⟨rfl, rfl⟩

set_option maxHeartbeats 400000 in
theorem msgTail_nil (w : World) :
    Calls Tryz.prog 163 #[.slice none 0 0, .string ⟨#[]⟩] w fun e w' => e = .returned (.int .i64 0) ∧ w = w' := by
  go_enter Tryz.func163, Tryz.ntmps163
  go_wp2_with (go_at_call 165; refine (headCheck_nil _).mono ?_; rintro e w' ⟨rfl, rfl⟩)
  go_ret
  exact ⟨rfl, rfl⟩

theorem size_one (a : UInt8) : (⟨#[a]⟩ : ByteArray).size ≤ maxLen := by
  have : (⟨#[a]⟩ : ByteArray).size = 1 := rfl
  rw [this]; unfold maxLen; omega
theorem nameOk_a : nameOk ⟨#[97]⟩ = true := by decide +kernel
theorem methodOk_A : methodOk ⟨#[65]⟩ = true := by decide +kernel
theorem pathOk_sl : pathOk ⟨#[47]⟩ = true := by decide +kernel

set_option maxHeartbeats 400000 in
theorem kindMethod_any (s : ByteArray) (w : World) (hs : s.size ≤ maxLen) :
    Calls Tryz.prog 126 #[.string s] w fun e w' => e = .returned (.int .i64 (if methodOk s = true then 0 else 3)) ∧ Below w.heap.size w w' := by
  have hs' := hs
  unfold maxLen at hs
  have ha := nameOk_a
  have hp := pathOk_sl
  cases h0 : methodOk s
  all_goals
    go_enter Tryz.func126, Tryz.ntmps126
    go_wp2_with (first | (go_at_call 161; refine (msgMethod_any _ _ hs').mono ?_; rintro e w' ⟨rfl, rfl⟩) | (go_at_call 80; refine (headName_any _ _ (size_one _)).mono ?_; rintro e w' ⟨rfl, rfl⟩) | (go_at_call 162; refine (msgPath_any _ _ (size_one _)).mono ?_; rintro e w' ⟨rfl, rfl⟩) | (go_at_call 163; refine (msgTail_nil _).mono ?_; rintro e w' ⟨rfl, rfl⟩) | go_in)
    go_ret
    exact ⟨rfl, ((Below.refl _ _).alloc (by simp) _).alloc (by simp) _⟩
end Go.Proofs.YtnbgfpcpfknjoaaGreatDoor
