/- conf's reader: words of a line, numbers. -/
import Derived.Test.YtnbgfpcpfknjoaaGreatDoorRB
import Derived.Test.YtnbgfpcpfknjoaaGreatDoorShelf
namespace Go.Proofs.YtnbgfpcpfknjoaaGreatDoor
set_option linter.all false
open Go.RowKit

/-- The cell in which internal/bytealg keeps a bound. -/
def MaxCell (w : World) : Prop := ∃ m : Int, w.cell? ⟨0, 0, none⟩ = some (.int .i64 m)
theorem MaxCell.below {w w' : World} (h : MaxCell w) (hb : Below w.heap.size w w') : MaxCell w' := by
  obtain ⟨m, hm⟩ := h
  exact ⟨m, (hb.cell (World.block_lt_of_cell? w _ hm)).trans hm⟩
def bl : ByteArray := ⟨#[32]⟩
/-- A text at its first blank. -/
def cutS (s : ByteArray) : ByteArray × ByteArray × Bool :=
  (⟨(Lib.cut s.data.toList [32]).1.toArray⟩, ⟨(Lib.cut s.data.toList [32]).2.1.toArray⟩, (Lib.cut s.data.toList [32]).2.2)
theorem cut_any (s : ByteArray) (w : World) (hs : s.size < 4294967281) (hm : MaxCell w) :
    Calls Tryz.prog 87 #[.string s, .string ⟨#[32]⟩] w fun e w' => e = .returned (.tuple #[.string (cutS s).1, .string (cutS s).2.1, .bool (cutS s).2.2]) ∧ ∃ n, w' = w.drewN n := by
  obtain ⟨m, hm⟩ := hm
  exact Tryz.strings_Cut s ⟨#[32]⟩ m w hs hm
def hasBl (s : ByteArray) : Bool := decide (0 ≤ Lib.indexByte s.data.toList 32)
def countBl (s : ByteArray) : Nat := Lib.countByte s.data.toList 32
theorem contains_bl (s : ByteArray) (w : World) :
    Calls Tryz.prog 112 #[.string s, .string ⟨#[32]⟩] w fun e w' => e = .returned (.bool (hasBl s)) ∧ w = w' :=
  (Tryz.strings_Contains_one s 32 w).mono fun _ _ h => ⟨h.1, h.2.symm⟩
theorem count_bl (s : ByteArray) (w : World) :
    Calls Tryz.prog 85 #[.string s, .string ⟨#[32]⟩] w fun e w' => e = .returned (.int .i64 (countBl s)) ∧ w = w' :=
  (Tryz.strings_Count_one s 32 w).mono fun _ _ h => ⟨h.1, h.2.symm⟩

theorem cutS_len (s : ByteArray) : (cutS s).1.size ≤ s.size ∧ (cutS s).2.1.size ≤ s.size := by
  have h0 : ∀ l : List UInt8, (⟨l.toArray⟩ : ByteArray).size = l.length := fun l => by show l.toArray.size = _; simp
  have h1 : s.data.toList.length = s.size := by rw [Array.length_toList]; rfl
  simp only [cutS, h0, Lib.cut]
  split
  · simp only [List.length_take, List.length_drop, h1]; omega
  · simp only [List.length_nil, h1]; omega

/-- A word as a number, and whether it is one. -/
def numFrom : List UInt8 → Int → Int × Bool
  | [], n => (n, true)
  | b :: l, n => if (b.toNat : Int) < 48 ∨ 57 < (b.toNat : Int) then (0, false) else numFrom l (10 * n + ((b.toNat : Int) - 48))
def numF (s : ByteArray) : Int × Bool :=
  if s.size = 0 ∨ 6 < s.size ∨ (1 < s.size ∧ bt s 0 = 48) then (0, false) else numFrom (bs s) 0
theorem numFrom_bound : ∀ (l : List UInt8) (n : Int), 0 ≤ n → ∀ k : Nat, n < 10 ^ k → (numFrom l n).1 < 10 ^ (k + l.length) ∧ 0 ≤ (numFrom l n).1
  | [], n, h0, k, h => ⟨by simpa [numFrom] using h, by simpa [numFrom] using h0⟩
  | b :: l, n, h0, k, h => by
    have hp : (0 : Int) < 10 ^ (k + (b :: l).length) := Int.pow_pos (by decide)
    unfold numFrom
    split
    · exact ⟨by simpa using hp, by simp⟩
    · have := numFrom_bound l (10 * n + ((b.toNat : Int) - 48)) (by omega) (k + 1) (by rw [Int.pow_succ]; omega)
      rw [List.length_cons, show k + (l.length + 1) = k + 1 + l.length by omega]
      exact this

theorem pow10_le (k : Nat) (h : k ≤ 6) : (10 : Int) ^ k ≤ 1000000 := by
  rcases k with _ | _ | _ | _ | _ | _ | _ | k <;> first | decide | omega
theorem ret_ib {p : Int × Bool} {a : Int} {b : Bool} (h : p = (a, b)) : Ending.returned (.tuple #[.int .i64 a, .bool b]) = .returned (.tuple #[.int .i64 p.1, .bool p.2]) := by rw [h]
set_option maxHeartbeats 1000000 in
theorem number_any (s : ByteArray) (w : World) (hs : s.size ≤ maxLen) :
    Calls Tryz.prog 88 #[.string s] w fun e w' => e = .returned (.tuple #[.int .i64 (numF s).1, .bool (numF s).2]) ∧ w = w' := by
  unfold maxLen at hs
  by_cases h0 : s.size = 0
  · have h1 : s.toList = [] := by rw [nil_toList]; exact h0
    have HF : Hid (numF s = (0, false)) := by unfold Hid numF; rw [if_pos (.inl h0)]
    clear h0
    go_enter Tryz.func88, Tryz.ntmps88
    go_wp2
    go_ret2
    exact ⟨ret_ib HF.out, rfl⟩
  have h1 : ¬ s.toList = [] := by rw [nil_toList]; exact h0
  have h1e : s.toList.isEmpty = false := by rw [isEmpty_toList]; exact decide_eq_false h0
  by_cases h6 : 6 < s.size
  · have h6' : decide (6 < (s.size : Int)) = true := decide_eq_true (by omega)
    have HF : Hid (numF s = (0, false)) := by unfold Hid numF; rw [if_pos (.inr (.inl h6))]
    go_enter Tryz.func88, Tryz.ntmps88
    go_wp2
    go_ret2
    exact ⟨ret_ib HF.out, rfl⟩
  have h6' : decide (6 < (s.size : Int)) = false := decide_eq_false (by omega)
  have hpos : 0 < s.size := by omega
  have b0 := Lib.hid (bt_at s 0 hpos)
  by_cases hz : 1 < s.size ∧ bt s 0 = 48
  · have h2' : decide (1 < (s.size : Int)) = true := decide_eq_true (by omega)
    have hb : (((s[0]'hpos).toNat : Int) == 48) = true := beq_iff_eq.2 (by rw [b0.out]; exact hz.2)
    have HF : Hid (numF s = (0, false)) := by unfold Hid numF; rw [if_pos (.inr (.inr hz))]
    have h2 := hz.1
    clear hz
    go_enter Tryz.func88, Tryz.ntmps88
    go_wp2
    go_ret2
    exact ⟨ret_ib HF.out, rfl⟩
  have HF : Hid (numF s = numFrom (bs s) 0) := by unfold Hid numF; rw [if_neg (by omega)]
  have ht : Hid (decide (1 < (s.size : Int)) = false ∨ (decide (1 < (s.size : Int)) = true ∧ (((s[0]'hpos).toNat : Int) == 48) = false)) := by
    by_cases h : 1 < s.size
    · exact .inr ⟨decide_eq_true (by omega), beq_eq_false_iff_ne.2 (by rw [b0.out]; intro e; exact hz ⟨h, e⟩)⟩
    · exact .inl (decide_eq_false (by omega))
  clear hz
  rcases ht.out with h2 | ⟨h2, hb⟩
  all_goals
    clear ht b0
    go_enter Tryz.func88, Tryz.ntmps88
    go_wp2
    go_loop [4, 26] (fun n i => ∃ (k : Nat) (m : Int), k ≤ s.size ∧ i = .int .i64 k ∧ n = .int .i64 m ∧ 0 ≤ m ∧ Hid (m < 10 ^ k) ∧ Hid (numFrom ((bs s).drop k) m = numFrom (bs s) 0)) (fun _ i => s.size - (intOf i).toNat)
    case atStart => exact ⟨0, 0, by omega, rfl, rfl, by omega, by unfold Hid; decide, by unfold Hid; rw [List.drop_zero]⟩
    case round =>
      obtain ⟨k, m, hk, rfl, rfl, hm0, HM, HI⟩ := hrel
      by_cases hlt : k < s.size
      · have hmb : m < 1000000 := by
          have h1 := HM.out
          have h2 := pow10_le k (by omega)
          omega
        have hd : Hid ((bs s).drop k = s[k]'hlt :: (bs s).drop (k + 1)) := by
          unfold Hid
          rw [List.drop_eq_getElem_cons (by rw [bs_length]; exact hlt), bs_get s k hlt]
        have hc := (s[k]'hlt).toNat_lt
        have hc0 : (0 : Int) ≤ ((s[k]'hlt).toNat : Int) := by omega
        have hc1 : ((s[k]'hlt).toNat : Int) < 256 := by omega
        clear hc
        by_cases g1 : ((s[k]'hlt).toNat : Int) < 48
        · have HX : Hid (numFrom (bs s) 0 = (0, false)) := by unfold Hid; rw [← HI.out, hd.out, numFrom, if_pos (.inl g1)]
          have g1' : ((s[k]'hlt).toNat : Int) - 48 < 0 := by omega
          go_wp2
          go_ret2
          exact ⟨ret_ib (HF.out.trans HX.out), rfl⟩
        · by_cases g2 : 57 < ((s[k]'hlt).toNat : Int)
          · have HX : Hid (numFrom (bs s) 0 = (0, false)) := by unfold Hid; rw [← HI.out, hd.out, numFrom, if_pos (.inr g2)]
            have g1' : ¬ ((s[k]'hlt).toNat : Int) - 48 < 0 := by omega
            have g2' : 9 < ((s[k]'hlt).toNat : Int) - 48 := by omega
            go_wp2
            go_ret2
            exact ⟨ret_ib (HF.out.trans HX.out), rfl⟩
          · have HX : Hid (numFrom ((bs s).drop (k + 1)) (10 * m + (((s[k]'hlt).toNat : Int) - 48)) = numFrom (bs s) 0) := by unfold Hid; rw [← HI.out, hd.out, numFrom, if_neg (by omega)]
            have g1' : ¬ ((s[k]'hlt).toNat : Int) - 48 < 0 := by omega
            have g2' : ¬ 9 < ((s[k]'hlt).toNat : Int) - 48 := by omega
            have HM' : Hid (10 * m + (((s[k]'hlt).toNat : Int) - 48) < 10 ^ (k + 1)) := by
              unfold Hid; rw [Int.pow_succ]; have := HM.out; omega
            have hnn : 0 ≤ 10 * m + (((s[k]'hlt).toNat : Int) - 48) := by omega
            go_wp2
            go_round
            case rel => exact ⟨k + 1, _, by omega, by go_num, rfl, hnn, HM', HX.out⟩
            case measure => simp [intOf]; omega
      · have HX : Hid (numFrom (bs s) 0 = (m, true)) := by unfold Hid; rw [← HI.out, List.drop_of_length_le (by rw [bs_length]; omega), numFrom]
        go_wp2
        go_ret2
        exact ⟨ret_ib (HF.out.trans HX.out), rfl⟩
end Go.Proofs.YtnbgfpcpfknjoaaGreatDoor
