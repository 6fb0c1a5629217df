/- conf.Check. -/
import Derived.Test.YtnbgfpcpfknjoaaGreatDoorPB
namespace Go.Proofs.YtnbgfpcpfknjoaaGreatDoor
set_option linter.all false
open Go.RowKit

def confNames (r : Rule) : Bool := if r.mirror.toList.isEmpty = true then nameOk r.target && (r.mirrorPct == 0) else nameOk r.target && nameOk r.mirror
def confNums (r : Rule) : List Int := [r.rank, r.abortPct, r.abortStatus, r.delayPct, r.delayTicks, r.mirrorPct, r.sample]
def numBad (n : Int) : Int := if n < 0 ∨ 999999 < n then 12 else 0
def confOne (r : Rule) : Int :=
  if 4 < r.preds.length then 8
  else if firstErr predErr r.preds ≠ 0 then firstErr predErr r.preds
  else if confNames r = false then 7
  else firstErr numBad (confNums r)

set_option maxHeartbeats 400000 in
theorem confNames_any (r : Rule) (v : Value) (w : World) (ht : r.target.size ≤ maxLen) (hm : r.mirror.size ≤ maxLen) :
    Calls Tryz.prog 59 #[.agg #[.int .i64 r.rank, v, .string r.target, .int .i64 r.abortPct, .int .i64 r.abortStatus, .int .i64 r.delayPct, .int .i64 r.delayTicks, .int .i64 r.mirrorPct, .string r.mirror, .int .i64 r.sample]] w fun e w' => e = .returned (.bool (confNames r)) ∧ Below w.heap.size w w' := by
  have HT := Lib.hid ht
  have HM := Lib.hid hm
  clear ht hm
  cases h1 : nameOk r.target
  · cases h2 : r.mirror.toList.isEmpty
    · have h2' : ¬ r.mirror.toList = [] := by intro e; rw [e] at h2; simp at h2
      have HF : Hid (confNames r = false) := by unfold Hid confNames; simp [h1, h2]
      go_enter Tryz.func59, Tryz.ntmps59
      go_wp2_with (go_at_call 80; refine (headName_any _ _ HT.out).mono ?_; rintro e w' ⟨rfl, rfl⟩)
      go_ret
      exact ⟨ret_bool HF.out.symm, bel (Below.refl _ _) _⟩
    · have h2' : r.mirror.toList = [] := by simpa using h2
      have HF : Hid (confNames r = false) := by unfold Hid confNames; simp [h1, h2]
      go_enter Tryz.func59, Tryz.ntmps59
      go_wp2_with (go_at_call 80; refine (headName_any _ _ HT.out).mono ?_; rintro e w' ⟨rfl, rfl⟩)
      go_ret
      exact ⟨ret_bool HF.out.symm, bel (Below.refl _ _) _⟩
  · cases h2 : r.mirror.toList.isEmpty
    · have h2' : ¬ r.mirror.toList = [] := by intro e; rw [e] at h2; simp at h2
      have HF : Hid (confNames r = nameOk r.mirror) := by unfold Hid confNames; simp [h1, h2]
      go_enter Tryz.func59, Tryz.ntmps59
      go_wp2_with fail
      refine (headName_any _ _ HT.out).mono ?_
      rintro e w' ⟨rfl, rfl⟩
      go_wp2_with fail
      refine (headName_any _ _ HM.out).mono ?_
      rintro e w' ⟨rfl, rfl⟩
      go_wp2
      go_ret
      exact ⟨ret_bool HF.out.symm, bel (Below.refl _ _) _⟩
    · have h2' : r.mirror.toList = [] := by simpa using h2
      have HF : Hid (confNames r = (r.mirrorPct == 0)) := by unfold Hid confNames; simp [h1, h2]
      go_enter Tryz.func59, Tryz.ntmps59
      go_wp2_with (go_at_call 80; refine (headName_any _ _ HT.out).mono ?_; rintro e w' ⟨rfl, rfl⟩)
      all_goals
        go_ret
        exact ⟨ret_bool (by rw [HF.out] <;> simp_all), bel (Below.refl _ _) _⟩
end Go.Proofs.YtnbgfpcpfknjoaaGreatDoor
