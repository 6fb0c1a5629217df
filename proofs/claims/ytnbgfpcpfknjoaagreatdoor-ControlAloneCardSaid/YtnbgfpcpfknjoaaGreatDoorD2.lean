/- conf's reader: words, pairs. -/
import Derived.Test.YtnbgfpcpfknjoaaGreatDoorD1
import Derived.Deep.RegionHeld3
namespace Go.Proofs.YtnbgfpcpfknjoaaGreatDoor
set_option linter.all false
open Go.RowKit

def twoF (r : ByteArray) : Int × ByteArray × Bool := ((numF (cutS r).1).1, (cutS r).2.1, (cutS r).2.2 && (numF (cutS r).1).2 && !hasBl (cutS r).2.1)
theorem small_max {n : Nat} (h : n < 4294967281) : n ≤ maxLen := by unfold maxLen; omega
theorem MaxCell.drewN {w : World} (h : MaxCell w) (n : Nat) : MaxCell (w.drewN n) := h.below (belDrewN (Below.refl _ _) n)

set_option maxHeartbeats 1000000 in
theorem two_any (r : ByteArray) (w : World) (hs : r.size < 4294967281) (hm : MaxCell w) :
    Calls Tryz.prog 114 #[.string r] w fun e w' => e = .returned (.tuple #[.int .i64 (twoF r).1, .string (twoF r).2.1, .bool (twoF r).2.2]) ∧ ∃ n, w' = w.drewN n := by
  have HM := Lib.hid hm
  have HS := Lib.hid hs
  have HC1 := Lib.hid (small_max (Nat.lt_of_le_of_lt (cutS_len r).1 hs))
  clear hm hs
  cases h1 : (cutS r).2.2
  · have HF : Hid (twoF r = ((numF (cutS r).1).1, (cutS r).2.1, false)) := by unfold Hid twoF; simp [h1]
    go_enter Tryz.func114, Tryz.ntmps114
    go_wp2_with fail
    refine (cut_any r w HS.out HM.out).mono ?_
    rintro e w1 ⟨rfl, n, rfl⟩
    go_wp2_with fail
    refine (number_any _ _ HC1.out).mono ?_
    rintro e w1 ⟨rfl, rfl⟩
    go_wp2
    go_ret3
    exact ⟨by rw [HF.out]; rfl, _, rfl⟩
  cases h2 : (numF (cutS r).1).2
  · have HF : Hid (twoF r = ((numF (cutS r).1).1, (cutS r).2.1, false)) := by unfold Hid twoF; simp [h1, h2]
    go_enter Tryz.func114, Tryz.ntmps114
    go_wp2_with fail
    refine (cut_any r w HS.out HM.out).mono ?_
    rintro e w1 ⟨rfl, n, rfl⟩
    go_wp2_with fail
    refine (number_any _ _ HC1.out).mono ?_
    rintro e w1 ⟨rfl, rfl⟩
    go_wp2
    go_ret3
    exact ⟨by rw [HF.out]; rfl, _, rfl⟩
  · have HF : Hid (twoF r = ((numF (cutS r).1).1, (cutS r).2.1, !hasBl (cutS r).2.1)) := by unfold Hid twoF; simp [h1, h2]
    go_enter Tryz.func114, Tryz.ntmps114
    go_wp2_with fail
    refine (cut_any r w HS.out HM.out).mono ?_
    rintro e w1 ⟨rfl, n, rfl⟩
    go_wp2_with fail
    refine (number_any _ _ HC1.out).mono ?_
    rintro e w1 ⟨rfl, rfl⟩
    go_wp2_with fail
    refine (contains_bl _ _).mono ?_
    rintro e w1 ⟨rfl, rfl⟩
    go_wp2
    go_ret3
    exact ⟨by rw [HF.out]; rfl, _, rfl⟩

def pairF (r : ByteArray) : Option (Int × Int) := if (twoF r).2.2 && (numF (twoF r).2.1).2 then some ((twoF r).1, (numF (twoF r).2.1).1) else none
theorem twoF_len (r : ByteArray) : (twoF r).2.1.size ≤ r.size := (cutS_len r).2

set_option maxHeartbeats 1000000 in
theorem pair_no (r : ByteArray) (p q : Value) (w : World) (hs : r.size < 4294967281) (hm : MaxCell w) (h : pairF r = none) :
    Calls Tryz.prog 113 #[.string r, p, q] w fun e w' => e = .returned (.bool false) ∧ ∃ n, w' = w.drewN n := by
  have HM := Lib.hid hm
  have HS := Lib.hid hs
  have HC1 := Lib.hid (small_max (Nat.lt_of_le_of_lt (twoF_len r) hs))
  clear hm hs
  cases h1 : (twoF r).2.2
  · clear h
    go_enter Tryz.func113, Tryz.ntmps113
    go_wp2_with fail
    refine (two_any r w HS.out HM.out).mono ?_
    rintro e w1 ⟨rfl, n, rfl⟩
    go_wp2_with fail
    refine (number_any _ _ HC1.out).mono ?_
    rintro e w1 ⟨rfl, rfl⟩
    go_wp2
    go_ret
    exact ⟨rfl, _, rfl⟩
  · have h2 : (numF (twoF r).2.1).2 = false := by
      cases h2 : (numF (twoF r).2.1).2
      · rfl
      · simp [pairF, h1, h2] at h
    clear h
    go_enter Tryz.func113, Tryz.ntmps113
    go_wp2_with fail
    refine (two_any r w HS.out HM.out).mono ?_
    rintro e w1 ⟨rfl, n, rfl⟩
    go_wp2_with fail
    refine (number_any _ _ HC1.out).mono ?_
    rintro e w1 ⟨rfl, rfl⟩
    go_wp2
    go_ret
    exact ⟨rfl, _, rfl⟩
set_option maxHeartbeats 1000000 in
theorem pair_yes (r : ByteArray) (b i j : Nat) (x y n m : Int) (w : World) (hs : r.size < 4294967281) (hm : MaxCell w) (h : pairF r = some (n, m)) (hij : i ≠ j) (hi : w.cell? ⟨b, i, none⟩ = some (.int .i64 x)) (hj : w.cell? ⟨b, j, none⟩ = some (.int .i64 y)) (fi : w.frozen? ⟨b, i, none⟩ = false) (fj : w.frozen? ⟨b, j, none⟩ = false) :
    Calls Tryz.prog 113 #[.string r, .pointer (some ⟨b, i, none⟩), .pointer (some ⟨b, j, none⟩)] w fun e w' => e = .returned (.bool true) ∧ ∃ k, w' = ((w.setCell ⟨b, i, none⟩ (.int .i64 n)).setCell ⟨b, j, none⟩ (.int .i64 m)).drewN k := by
  have HM := Lib.hid hm
  have HS := Lib.hid hs
  have HC1 := Lib.hid (small_max (Nat.lt_of_le_of_lt (twoF_len r) hs))
  clear hm hs
  have h1 : (twoF r).2.2 = true := by cases h1 : (twoF r).2.2 <;> simp [pairF, h1] at h ⊢
  have h2 : (numF (twoF r).2.1).2 = true := by cases h2 : (numF (twoF r).2.1).2 <;> simp [pairF, h1, h2] at h ⊢
  have h3 : Hid ((twoF r).1 = n ∧ (numF (twoF r).2.1).1 = m) := by unfold Hid; simpa [pairF, h1, h2] using h
  clear h
  go_enter Tryz.func113, Tryz.ntmps113
  go_wp2_with fail
  refine (two_any r w HS.out HM.out).mono ?_
  rintro e w1 ⟨rfl, k, rfl⟩
  go_wp2_with fail
  refine (number_any _ _ HC1.out).mono ?_
  rintro e w1 ⟨rfl, rfl⟩
  rw [h3.out.1, h3.out.2]
  go_wp2
  go_ret
  exact ⟨rfl, k, rfl⟩
end Go.Proofs.YtnbgfpcpfknjoaaGreatDoor
