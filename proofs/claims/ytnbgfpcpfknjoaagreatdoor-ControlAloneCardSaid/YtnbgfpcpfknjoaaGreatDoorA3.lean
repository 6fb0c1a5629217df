/- pred.Check: why a predicate may not be. -/
import Derived.Test.YtnbgfpcpfknjoaaGreatDoorA2
namespace Go.Proofs.YtnbgfpcpfknjoaaGreatDoor
set_option linter.all false
open Go.RowKit

set_option maxHeartbeats 1000000 in
theorem pred_out (k : Int) (n v : ByteArray) (w : World) (hk : k < 1 ∨ 6 < k) :
    Calls Tryz.prog 58 #[.agg #[.int .i64 k, .string n, .string v]] w fun e w' => e = .returned (.int .i64 2) ∧ Below w.heap.size w w' := by
  go_enter Tryz.func58, Tryz.ntmps58
  go_wp2_with (go_at_call 79; refine (of_no _ _ hk).mono ?_; rintro e w1 ⟨rfl, hb⟩; obtain ⟨hc, hf, hlt⟩ := bal hb)
  all_goals
    go_ret
    exact ⟨rfl, bel (belTrans (bel (Below.refl _ _) _) hb) _⟩

set_option maxHeartbeats 1000000 in
theorem pred_named1 (n v : ByteArray) (w : World) (hn : n.size ≤ maxLen) (hv : v.size ≤ maxLen) (hn0 : n.size ≠ 0) :
    Calls Tryz.prog 58 #[.agg #[.int .i64 1, .string n, .string v]] w fun e w' => e = .returned (.int .i64 2) ∧ Below w.heap.size w w' := by
  have h0' : n.toList.isEmpty = false := by rw [isEmpty_toList]; exact decide_eq_false hn0
  go_enter Tryz.func58, Tryz.ntmps58
  go_wp2_with ((go_at_call 79; refine (of_1 _).mono ?_; rintro e w1 ⟨rfl, hb⟩; obtain ⟨hc, hf, hlt⟩ := bal hb))
  all_goals
    go_ret
    exact ⟨rfl, bel (belTrans (bel (Below.refl _ _) _) hb) _⟩

set_option maxHeartbeats 1000000 in
theorem pred_named2 (n v : ByteArray) (w : World) (hn : n.size ≤ maxLen) (hv : v.size ≤ maxLen) (hn0 : n.size ≠ 0) :
    Calls Tryz.prog 58 #[.agg #[.int .i64 2, .string n, .string v]] w fun e w' => e = .returned (.int .i64 2) ∧ Below w.heap.size w w' := by
  have h0' : n.toList.isEmpty = false := by rw [isEmpty_toList]; exact decide_eq_false hn0
  go_enter Tryz.func58, Tryz.ntmps58
  go_wp2_with ((go_at_call 79; refine (of_2 _).mono ?_; rintro e w1 ⟨rfl, hb, c1, c2⟩; obtain ⟨hc, hf, hlt⟩ := bal hb; simp only [World.size_alloc] at c1 c2; have l1 := World.block_lt_of_cell? w1 _ c1; have l2 := World.block_lt_of_cell? w1 _ c2))
  all_goals
    go_ret
    exact ⟨rfl, bel (belTrans (bel (Below.refl _ _) _) hb) _⟩

set_option maxHeartbeats 1000000 in
theorem pred_named3 (n v : ByteArray) (w : World) (hn : n.size ≤ maxLen) (hv : v.size ≤ maxLen) (hn0 : n.size ≠ 0) :
    Calls Tryz.prog 58 #[.agg #[.int .i64 3, .string n, .string v]] w fun e w' => e = .returned (.int .i64 2) ∧ Below w.heap.size w w' := by
  have h0' : n.toList.isEmpty = false := by rw [isEmpty_toList]; exact decide_eq_false hn0
  go_enter Tryz.func58, Tryz.ntmps58
  go_wp2_with ((go_at_call 79; refine (of_3 _).mono ?_; rintro e w1 ⟨rfl, hb⟩; obtain ⟨hc, hf, hlt⟩ := bal hb))
  all_goals
    go_ret
    exact ⟨rfl, bel (belTrans (bel (Below.refl _ _) _) hb) _⟩

set_option maxHeartbeats 1000000 in
theorem pred_named4 (n v : ByteArray) (w : World) (hn : n.size ≤ maxLen) (hv : v.size ≤ maxLen) (hn0 : n.size ≠ 0) :
    Calls Tryz.prog 58 #[.agg #[.int .i64 4, .string n, .string v]] w fun e w' => e = .returned (.int .i64 2) ∧ Below w.heap.size w w' := by
  have h0' : n.toList.isEmpty = false := by rw [isEmpty_toList]; exact decide_eq_false hn0
  go_enter Tryz.func58, Tryz.ntmps58
  go_wp2_with ((go_at_call 79; refine (of_4 _).mono ?_; rintro e w1 ⟨rfl, hb⟩; obtain ⟨hc, hf, hlt⟩ := bal hb))
  all_goals
    go_ret
    exact ⟨rfl, bel (belTrans (bel (Below.refl _ _) _) hb) _⟩

set_option maxHeartbeats 1000000 in
theorem pred_valued6 (n v : ByteArray) (w : World) (hn : n.size ≤ maxLen) (hv : v.size ≤ maxLen) (hv0 : v.size ≠ 0) :
    Calls Tryz.prog 58 #[.agg #[.int .i64 6, .string n, .string v]] w fun e w' => e = .returned (.int .i64 2) ∧ Below w.heap.size w w' := by
  have h0' : v.toList.isEmpty = false := by rw [isEmpty_toList]; exact decide_eq_false hv0
  go_enter Tryz.func58, Tryz.ntmps58
  go_wp2_with ((go_at_call 79; refine (of_6 _).mono ?_; rintro e w1 ⟨rfl, hb⟩; obtain ⟨hc, hf, hlt⟩ := bal hb))
  all_goals
    go_ret
    exact ⟨rfl, bel (belTrans (bel (Below.refl _ _) _) hb) _⟩

set_option maxHeartbeats 1000000 in
theorem pred_name6 (n v : ByteArray) (w : World) (hn : n.size ≤ maxLen) (hv : v.size ≤ maxLen) (hv0 : v.size = 0) (h : nameOk n = false) :
    Calls Tryz.prog 58 #[.agg #[.int .i64 6, .string n, .string v]] w fun e w' => e = .returned (.int .i64 7) ∧ Below w.heap.size w w' := by
  have h0' : v.toList.isEmpty = true := by rw [isEmpty_toList]; exact decide_eq_true hv0
  clear hv0
  go_enter Tryz.func58, Tryz.ntmps58
  go_wp2_with (first | (go_at_call 79; refine (of_6 _).mono ?_; rintro e w1 ⟨rfl, hb⟩; obtain ⟨hc, hf, hlt⟩ := bal hb) | (go_at_call 80; refine (headName_any _ _ hn).mono ?_; rintro e w' ⟨rfl, rfl⟩))
  all_goals
    go_ret
    exact ⟨rfl, bel (belTrans (bel (Below.refl _ _) _) hb) _⟩

set_option maxHeartbeats 1000000 in
theorem pred_ok6 (n v : ByteArray) (w : World) (hn : n.size ≤ maxLen) (hv : v.size ≤ maxLen) (hv0 : v.size = 0) (h : nameOk n = true) :
    Calls Tryz.prog 58 #[.agg #[.int .i64 6, .string n, .string v]] w fun e w' => e = .returned (.int .i64 0) ∧ Below w.heap.size w w' := by
  have h0' : v.toList.isEmpty = true := by rw [isEmpty_toList]; exact decide_eq_true hv0
  clear hv0
  go_enter Tryz.func58, Tryz.ntmps58
  go_wp2_with (first | (go_at_call 79; refine (of_6 _).mono ?_; rintro e w1 ⟨rfl, hb⟩; obtain ⟨hc, hf, hlt⟩ := bal hb) | (go_at_call 80; refine (headName_any _ _ hn).mono ?_; rintro e w' ⟨rfl, rfl⟩) | go_in)
  all_goals
    go_ret
    exact ⟨rfl, bel (belTrans (bel (Below.refl _ _) _) hb) _⟩

set_option maxHeartbeats 1000000 in
theorem pred_name5 (n v : ByteArray) (w : World) (hn : n.size ≤ maxLen) (hv : v.size ≤ maxLen) (h : nameOk n = false) :
    Calls Tryz.prog 58 #[.agg #[.int .i64 5, .string n, .string v]] w fun e w' => e = .returned (.int .i64 7) ∧ Below w.heap.size w w' := by
  go_enter Tryz.func58, Tryz.ntmps58
  go_wp2_with (first | (go_at_call 79; refine (of_5 _).mono ?_; rintro e w1 ⟨rfl, hb, c1, c2⟩; obtain ⟨hc, hf, hlt⟩ := bal hb; simp only [World.size_alloc] at c1 c2; have l1 := World.block_lt_of_cell? w1 _ c1; have l2 := World.block_lt_of_cell? w1 _ c2) | (go_at_call 80; refine (headName_any _ _ hn).mono ?_; rintro e w' ⟨rfl, rfl⟩))
  all_goals
    go_ret
    exact ⟨rfl, bel (belTrans (bel (Below.refl _ _) _) hb) _⟩

set_option maxHeartbeats 1000000 in
theorem pred_1 (n v : ByteArray) (w : World) (hn : n.size ≤ maxLen) (hv : v.size ≤ maxLen) (hn0 : n.size = 0) :
    Calls Tryz.prog 58 #[.agg #[.int .i64 1, .string n, .string v]] w fun e w' => e = .returned (.int .i64 (if methodOk v = true then 0 else 3)) ∧ Below w.heap.size w w' := by
  have h0' : n.toList.isEmpty = true := by rw [isEmpty_toList]; exact decide_eq_true hn0
  clear hn0
  go_enter Tryz.func58, Tryz.ntmps58
  go_wp2_with (first | (go_at_call 79; refine (of_1 _).mono ?_; rintro e w1 ⟨rfl, hb⟩; obtain ⟨hc, hf, hlt⟩ := bal hb) | (go_at_call 126; refine (kindMethod_any _ _ hv).mono ?_; rintro e w2 ⟨rfl, hb2⟩))
  all_goals
    go_ret
    exact ⟨rfl, belTrans (bel (belTrans (bel (Below.refl _ _) _) hb) _) hb2⟩

set_option maxHeartbeats 1000000 in
theorem pred_3 (n v : ByteArray) (w : World) (hn : n.size ≤ maxLen) (hv : v.size ≤ maxLen) (hn0 : n.size = 0) :
    Calls Tryz.prog 58 #[.agg #[.int .i64 3, .string n, .string v]] w fun e w' => e = .returned (.int .i64 (if pathOk v = true then 0 else 12)) ∧ Below w.heap.size w w' := by
  have h0' : n.toList.isEmpty = true := by rw [isEmpty_toList]; exact decide_eq_true hn0
  clear hn0
  go_enter Tryz.func58, Tryz.ntmps58
  go_wp2_with (first | (go_at_call 79; refine (of_3 _).mono ?_; rintro e w1 ⟨rfl, hb⟩; obtain ⟨hc, hf, hlt⟩ := bal hb) | (go_at_call 128; refine (kindPath_any _ _ hv).mono ?_; rintro e w2 ⟨rfl, hb2⟩))
  all_goals
    go_ret
    exact ⟨rfl, belTrans (bel (belTrans (bel (Below.refl _ _) _) hb) _) hb2⟩

set_option maxHeartbeats 1000000 in
theorem pred_4 (n v : ByteArray) (w : World) (hn : n.size ≤ maxLen) (hv : v.size ≤ maxLen) (hn0 : n.size = 0) :
    Calls Tryz.prog 58 #[.agg #[.int .i64 4, .string n, .string v]] w fun e w' => e = .returned (.int .i64 (if pathOk v = true then 0 else 12)) ∧ Below w.heap.size w w' := by
  have h0' : n.toList.isEmpty = true := by rw [isEmpty_toList]; exact decide_eq_true hn0
  clear hn0
  go_enter Tryz.func58, Tryz.ntmps58
  go_wp2_with (first | (go_at_call 79; refine (of_4 _).mono ?_; rintro e w1 ⟨rfl, hb⟩; obtain ⟨hc, hf, hlt⟩ := bal hb) | (go_at_call 128; refine (kindPath_any _ _ hv).mono ?_; rintro e w2 ⟨rfl, hb2⟩))
  all_goals
    go_ret
    exact ⟨rfl, belTrans (bel (belTrans (bel (Below.refl _ _) _) hb) _) hb2⟩

set_option maxHeartbeats 1000000 in
theorem pred_2y (n v : ByteArray) (w : World) (hn : n.size ≤ maxLen) (hv : v.size ≤ maxLen) (hn0 : n.size = 0) (h : nameOk v = true) :
    Calls Tryz.prog 58 #[.agg #[.int .i64 2, .string n, .string v]] w fun e w' => e = .returned (.int .i64 0) ∧ Below w.heap.size w w' := by
  have h0' : n.toList.isEmpty = true := by rw [isEmpty_toList]; exact decide_eq_true hn0
  clear hn0
  go_enter Tryz.func58, Tryz.ntmps58
  go_wp2_with (first | (go_at_call 79; refine (of_2 _).mono ?_; rintro e w1 ⟨rfl, hb, c1, c2⟩; obtain ⟨hc, hf, hlt⟩ := bal hb; simp only [World.size_alloc] at c1 c2; have l1 := World.block_lt_of_cell? w1 _ c1; have l2 := World.block_lt_of_cell? w1 _ c2) | (go_at_call 80; refine (headName_any _ _ hv).mono ?_; rintro e w' ⟨rfl, rfl⟩) | go_in)
  all_goals
    go_ret
    exact ⟨rfl, bel (belTrans (bel (Below.refl _ _) _) hb) _⟩

set_option maxHeartbeats 1000000 in
theorem pred_2n (n v : ByteArray) (w : World) (hn : n.size ≤ maxLen) (hv : v.size ≤ maxLen) (hn0 : n.size = 0) (h : nameOk v = false) :
    Calls Tryz.prog 58 #[.agg #[.int .i64 2, .string n, .string v]] w fun e w' => e = .returned (.int .i64 7) ∧ Below w.heap.size w w' := by
  have h0' : n.toList.isEmpty = true := by rw [isEmpty_toList]; exact decide_eq_true hn0
  clear hn0
  go_enter Tryz.func58, Tryz.ntmps58
  go_wp2_with (first | (go_at_call 79; refine (of_2 _).mono ?_; rintro e w1 ⟨rfl, hb, c1, c2⟩; obtain ⟨hc, hf, hlt⟩ := bal hb; simp only [World.size_alloc] at c1 c2; have l1 := World.block_lt_of_cell? w1 _ c1; have l2 := World.block_lt_of_cell? w1 _ c2) | (go_at_call 80; refine (headName_any _ _ hv).mono ?_; rintro e w' ⟨rfl, rfl⟩) | go_in)
  all_goals
    go_ret
    exact ⟨rfl, bel (belTrans (bel (Below.refl _ _) _) hb) _⟩

set_option maxHeartbeats 1000000 in
theorem pred_5y (n v : ByteArray) (w : World) (hn : n.size ≤ maxLen) (hv : v.size ≤ maxLen) (h : nameOk n = true) (h' : valueOk v = true) :
    Calls Tryz.prog 58 #[.agg #[.int .i64 5, .string n, .string v]] w fun e w' => e = .returned (.int .i64 0) ∧ Below w.heap.size w w' := by
  go_enter Tryz.func58, Tryz.ntmps58
  go_wp2_with (first | (go_at_call 79; refine (of_5 _).mono ?_; rintro e w1 ⟨rfl, hb, c1, c2⟩; obtain ⟨hc, hf, hlt⟩ := bal hb; simp only [World.size_alloc] at c1 c2; have l1 := World.block_lt_of_cell? w1 _ c1; have l2 := World.block_lt_of_cell? w1 _ c2) | (go_at_call 80; refine (headName_any _ _ hn).mono ?_; rintro e w' ⟨rfl, rfl⟩) | (go_at_call 135; refine (headValue_any _ _ hv).mono ?_; rintro e w' ⟨rfl, rfl⟩) | go_in)
  all_goals
    go_ret
    exact ⟨rfl, bel (belTrans (bel (Below.refl _ _) _) hb) _⟩

set_option maxHeartbeats 1000000 in
theorem pred_5n (n v : ByteArray) (w : World) (hn : n.size ≤ maxLen) (hv : v.size ≤ maxLen) (h : nameOk n = true) (h' : valueOk v = false) :
    Calls Tryz.prog 58 #[.agg #[.int .i64 5, .string n, .string v]] w fun e w' => e = .returned (.int .i64 15) ∧ Below w.heap.size w w' := by
  go_enter Tryz.func58, Tryz.ntmps58
  go_wp2_with (first | (go_at_call 79; refine (of_5 _).mono ?_; rintro e w1 ⟨rfl, hb, c1, c2⟩; obtain ⟨hc, hf, hlt⟩ := bal hb; simp only [World.size_alloc] at c1 c2; have l1 := World.block_lt_of_cell? w1 _ c1; have l2 := World.block_lt_of_cell? w1 _ c2) | (go_at_call 80; refine (headName_any _ _ hn).mono ?_; rintro e w' ⟨rfl, rfl⟩) | (go_at_call 135; refine (headValue_any _ _ hv).mono ?_; rintro e w' ⟨rfl, rfl⟩) | go_in)
  all_goals
    go_ret
    exact ⟨rfl, bel (belTrans (bel (Below.refl _ _) _) hb) _⟩

theorem predCheck_any (k : Int) (n v : ByteArray) (w : World) (hn : n.size ≤ maxLen) (hv : v.size ≤ maxLen) :
    Calls Tryz.prog 58 #[.agg #[.int .i64 k, .string n, .string v]] w fun e w' => e = .returned (.int .i64 (predChk k n v)) ∧ Below w.heap.size w w' := by
  by_cases ho : k < 1 ∨ 6 < k
  · rw [show predChk k n v = 2 by unfold predChk; rw [if_pos ho]]; exact pred_out k n v w ho
  have hk : k = 1 ∨ k = 2 ∨ k = 3 ∨ k = 4 ∨ k = 5 ∨ k = 6 := by omega
  rcases hk with rfl | rfl | rfl | rfl | rfl | rfl
  · by_cases h0 : n.size = 0
    · rw [show predChk 1 n v = (if methodOk v = true then 0 else 3) by simp [predChk, h0, -ByteArray.size_eq_zero_iff]]; exact pred_1 n v w hn hv h0
    · rw [show predChk 1 n v = 2 by simp [predChk, h0, -ByteArray.size_eq_zero_iff]]; exact pred_named1 n v w hn hv h0
  · by_cases h0 : n.size = 0
    · cases h1 : nameOk v
      · rw [show predChk 2 n v = 7 by simp [predChk, h0, h1, -ByteArray.size_eq_zero_iff]]; exact pred_2n n v w hn hv h0 h1
      · rw [show predChk 2 n v = 0 by simp [predChk, h0, h1, -ByteArray.size_eq_zero_iff]]; exact pred_2y n v w hn hv h0 h1
    · rw [show predChk 2 n v = 2 by simp [predChk, h0, -ByteArray.size_eq_zero_iff]]; exact pred_named2 n v w hn hv h0
  · by_cases h0 : n.size = 0
    · rw [show predChk 3 n v = (if pathOk v = true then 0 else 12) by simp [predChk, h0, -ByteArray.size_eq_zero_iff]]; exact pred_3 n v w hn hv h0
    · rw [show predChk 3 n v = 2 by simp [predChk, h0, -ByteArray.size_eq_zero_iff]]; exact pred_named3 n v w hn hv h0
  · by_cases h0 : n.size = 0
    · rw [show predChk 4 n v = (if pathOk v = true then 0 else 12) by simp [predChk, h0, -ByteArray.size_eq_zero_iff]]; exact pred_4 n v w hn hv h0
    · rw [show predChk 4 n v = 2 by simp [predChk, h0, -ByteArray.size_eq_zero_iff]]; exact pred_named4 n v w hn hv h0
  · cases h1 : nameOk n
    · rw [show predChk 5 n v = 7 by simp [predChk, h1]]; exact pred_name5 n v w hn hv h1
    · cases h2 : valueOk v
      · rw [show predChk 5 n v = 15 by simp [predChk, h1, h2]]; exact pred_5n n v w hn hv h1 h2
      · rw [show predChk 5 n v = 0 by simp [predChk, h1, h2]]; exact pred_5y n v w hn hv h1 h2
  · by_cases h0 : v.size = 0
    · cases h1 : nameOk n
      · rw [show predChk 6 n v = 7 by simp [predChk, h0, h1, -ByteArray.size_eq_zero_iff]]; exact pred_name6 n v w hn hv h0 h1
      · rw [show predChk 6 n v = 0 by simp [predChk, h0, h1, -ByteArray.size_eq_zero_iff]]; exact pred_ok6 n v w hn hv h0 h1
    · rw [show predChk 6 n v = 2 by simp [predChk, h0, -ByteArray.size_eq_zero_iff]]; exact pred_valued6 n v w hn hv h0
end Go.Proofs.YtnbgfpcpfknjoaaGreatDoor
