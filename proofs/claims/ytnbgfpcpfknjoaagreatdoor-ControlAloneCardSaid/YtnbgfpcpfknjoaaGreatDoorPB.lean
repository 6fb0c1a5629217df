/- What a format may be; the first error of a config. -/
import Derived.Test.YtnbgfpcpfknjoaaGreatDoorRB
namespace Go.Proofs.YtnbgfpcpfknjoaaGreatDoor
set_option linter.all false
open Go.RowKit

def formatOk (s : ByteArray) : Bool := allB (rangeB 32 126) (bs s) && decide (s.size ≤ 120)
def cfgChk (err : Rule → Int) (rules : List Rule) (f : ByteArray) : Int :=
  if formatOk f = false then 15 else if 16 < rules.length then 8 else firstErr err rules

set_option maxHeartbeats 400000 in
theorem tprintable_any (s : ByteArray) (w : World) (hs : s.size ≤ maxLen) :
    Calls Tryz.prog 65 #[.string s] w fun e w' => e = .returned (.bool (formatOk s)) ∧ w = w' := by
  unfold maxLen at hs
  go_enter Tryz.func65, Tryz.ntmps65
  go_wp2
  go_loop [6] (fun i => ∃ k : Nat, k ≤ s.size ∧ i = .int .i64 k ∧ Hid (allB (rangeB 32 126) ((bs s).take k) = true)) (fun i => s.size - (intOf i).toNat)
  case atStart => exact ⟨0, Nat.zero_le _, rfl, by simp [Hid, allB]⟩
  case round =>
    obtain ⟨k, hk, rfl, HI⟩ := hrel
    by_cases hlt : k < s.size
    · have hsn := Lib.hid (allB_snoc (rangeB 32 126) s k hlt)
      have hno := Lib.hid (allB_no (rangeB 32 126) s k hlt)
      by_cases h1 : ((s[k]'hlt).toNat : Int) < 32
      · go_wp2
        go_ret
        exact ⟨ret_bool (by unfold formatOk; rw [hno.out (by simp [rangeB]; omega)]; simp), rfl⟩
      · by_cases h2 : 126 < ((s[k]'hlt).toNat : Int)
        · go_wp2
          go_ret
          exact ⟨ret_bool (by unfold formatOk; rw [hno.out (by simp [rangeB]; omega)]; simp), rfl⟩
        · go_wp2
          go_round
          case rel => exact ⟨k + 1, by omega, by go_num, by unfold Hid; rw [hsn.out, HI.out]; simp [rangeB]; omega⟩
          case measure => simp [intOf]; omega
    · have HA := Lib.hid (allB_all (rangeB 32 126) s k (by omega) HI.out)
      go_wp2
      all_goals
        go_ret
        exact ⟨ret_bool (by unfold formatOk; rw [HA.out, Bool.eq_iff_iff]; simp; omega), rfl⟩

set_option maxHeartbeats 400000 in
theorem cprintable_any (s : ByteArray) (w : World) (hs : s.size ≤ maxLen) :
    Calls Tryz.prog 37 #[.string s] w fun e w' => e = .returned (.bool (formatOk s)) ∧ w = w' := by
  unfold maxLen at hs
  go_enter Tryz.func37, Tryz.ntmps37
  go_wp2
  go_loop [6] (fun i => ∃ k : Nat, k ≤ s.size ∧ i = .int .i64 k ∧ Hid (allB (rangeB 32 126) ((bs s).take k) = true)) (fun i => s.size - (intOf i).toNat)
  case atStart => exact ⟨0, Nat.zero_le _, rfl, by simp [Hid, allB]⟩
  case round =>
    obtain ⟨k, hk, rfl, HI⟩ := hrel
    by_cases hlt : k < s.size
    · have hsn := Lib.hid (allB_snoc (rangeB 32 126) s k hlt)
      have hno := Lib.hid (allB_no (rangeB 32 126) s k hlt)
      by_cases h1 : ((s[k]'hlt).toNat : Int) < 32
      · go_wp2
        go_ret
        exact ⟨ret_bool (by unfold formatOk; rw [hno.out (by simp [rangeB]; omega)]; simp), rfl⟩
      · by_cases h2 : 126 < ((s[k]'hlt).toNat : Int)
        · go_wp2
          go_ret
          exact ⟨ret_bool (by unfold formatOk; rw [hno.out (by simp [rangeB]; omega)]; simp), rfl⟩
        · go_wp2
          go_round
          case rel => exact ⟨k + 1, by omega, by go_num, by unfold Hid; rw [hsn.out, HI.out]; simp [rangeB]; omega⟩
          case measure => simp [intOf]; omega
    · have HA := Lib.hid (allB_all (rangeB 32 126) s k (by omega) HI.out)
      go_wp2
      all_goals
        go_ret
        exact ⟨ret_bool (by unfold formatOk; rw [HA.out, Bool.eq_iff_iff]; simp; omega), rfl⟩
end Go.Proofs.YtnbgfpcpfknjoaaGreatDoor
