/- pred.Check: why a predicate may not be. -/
import Derived.Test.YtnbgfpcpfknjoaaGreatDoorA1
namespace Go.Proofs.YtnbgfpcpfknjoaaGreatDoor
set_option linter.all false
open Go.RowKit

set_option maxHeartbeats 400000 in
theorem kindPath_any (s : ByteArray) (w : World) (hs : s.size ≤ maxLen) :
    Calls Tryz.prog 128 #[.string s] w fun e w' => e = .returned (.int .i64 (if pathOk s = true then 0 else 12)) ∧ Below w.heap.size w w' := by
  have hs' := hs
  unfold maxLen at hs
  have ha := nameOk_a
  have hp := methodOk_A
  cases h0 : pathOk s
  all_goals
    go_enter Tryz.func128, Tryz.ntmps128
    go_wp2_with (first | (go_at_call 162; refine (msgPath_any _ _ hs').mono ?_; rintro e w' ⟨rfl, rfl⟩) | (go_at_call 80; refine (headName_any _ _ (size_one _)).mono ?_; rintro e w' ⟨rfl, rfl⟩) | (go_at_call 161; refine (msgMethod_any _ _ (size_one _)).mono ?_; rintro e w' ⟨rfl, rfl⟩) | (go_at_call 163; refine (msgTail_nil _).mono ?_; rintro e w' ⟨rfl, rfl⟩) | go_in)
    go_ret
    exact ⟨rfl, ((Below.refl _ _).alloc (by simp) _).alloc (by simp) _⟩

/-- The error of a predicate: kind, name, value. -/
def predChk (k : Int) (n v : ByteArray) : Int :=
  if k < 1 ∨ 6 < k then 2
  else if k < 5 ∧ n.size ≠ 0 then 2
  else if k = 6 ∧ v.size ≠ 0 then 2
  else if 5 ≤ k ∧ nameOk n = false then 7
  else if k = 1 then (if methodOk v = true then 0 else 3)
  else if k = 2 then (if nameOk v = true then 0 else 7)
  else if k = 3 ∨ k = 4 then (if pathOk v = true then 0 else 12)
  else if k = 5 then (if valueOk v = true then 0 else 15)
  else 0

set_option maxHeartbeats 1000000 in
theorem of_1 (w : World) :
    Calls Tryz.prog 79 #[.int .i64 1] w fun e w' => e = .returned (.tuple #[.agg #[.bool false, .bool true, .func (.func 126) #[] #[], .func (.func 129) #[] #[]], .bool true]) ∧ Below w.heap.size w w' := by
  go_enter Tryz.func79, Tryz.ntmps79
  go_wp2
  exact bodyPost_ret (v := .tuple #[.agg #[.bool false, .bool true, .func (.func 126) #[] #[], .func (.func 129) #[] #[]], .bool true]) (by simp [results, Tryz.results79, go_sem]) rfl ⟨rfl, (bel (bel (bel (bel (bel (bel (Below.refl _ _) _) _) _) _) _) _)⟩
set_option maxHeartbeats 1000000 in
theorem of_2 (w : World) :
    Calls Tryz.prog 79 #[.int .i64 2] w fun e w' => e = .returned (.tuple #[.agg #[.bool false, .bool true, .func (.func 153) #[] #[.pointer (some ⟨w.heap.size + 1, 0, none⟩), .pointer (some ⟨w.heap.size + 1 + 1, 0, none⟩)], .func (.func 131) #[] #[]], .bool true]) ∧ Below w.heap.size w w' ∧ w'.cell? ⟨w.heap.size + 1, 0, none⟩ = some (.func (.func 80) #[] #[]) ∧ w'.cell? ⟨w.heap.size + 1 + 1, 0, none⟩ = some (.int .i64 7) := by
  go_enter Tryz.func79, Tryz.ntmps79
  go_wp2
  exact bodyPost_ret (v := .tuple #[.agg #[.bool false, .bool true, .func (.func 153) #[] #[.pointer (some ⟨w.heap.size + 1, 0, none⟩), .pointer (some ⟨w.heap.size + 1 + 1, 0, none⟩)], .func (.func 131) #[] #[]], .bool true]) (by simp [results, Tryz.results79, go_sem]) rfl ⟨rfl, (bel (bel (bel (bel (bel (bel (Below.refl _ _) _) _) _) _) _) _), by go_simp, by go_simp⟩
set_option maxHeartbeats 1000000 in
theorem of_3 (w : World) :
    Calls Tryz.prog 79 #[.int .i64 3] w fun e w' => e = .returned (.tuple #[.agg #[.bool false, .bool true, .func (.func 128) #[] #[], .func (.func 132) #[] #[]], .bool true]) ∧ Below w.heap.size w w' := by
  go_enter Tryz.func79, Tryz.ntmps79
  go_wp2
  exact bodyPost_ret (v := .tuple #[.agg #[.bool false, .bool true, .func (.func 128) #[] #[], .func (.func 132) #[] #[]], .bool true]) (by simp [results, Tryz.results79, go_sem]) rfl ⟨rfl, (bel (bel (bel (bel (bel (bel (Below.refl _ _) _) _) _) _) _) _)⟩
set_option maxHeartbeats 1000000 in
theorem of_4 (w : World) :
    Calls Tryz.prog 79 #[.int .i64 4] w fun e w' => e = .returned (.tuple #[.agg #[.bool false, .bool true, .func (.func 128) #[] #[], .func (.func 133) #[] #[]], .bool true]) ∧ Below w.heap.size w w' := by
  go_enter Tryz.func79, Tryz.ntmps79
  go_wp2
  exact bodyPost_ret (v := .tuple #[.agg #[.bool false, .bool true, .func (.func 128) #[] #[], .func (.func 133) #[] #[]], .bool true]) (by simp [results, Tryz.results79, go_sem]) rfl ⟨rfl, (bel (bel (bel (bel (bel (bel (Below.refl _ _) _) _) _) _) _) _)⟩
set_option maxHeartbeats 1000000 in
theorem of_5 (w : World) :
    Calls Tryz.prog 79 #[.int .i64 5] w fun e w' => e = .returned (.tuple #[.agg #[.bool true, .bool true, .func (.func 153) #[] #[.pointer (some ⟨w.heap.size + 1 + 1 + 1, 0, none⟩), .pointer (some ⟨w.heap.size + 1 + 1 + 1 + 1, 0, none⟩)], .func (.func 136) #[] #[]], .bool true]) ∧ Below w.heap.size w w' ∧ w'.cell? ⟨w.heap.size + 1 + 1 + 1, 0, none⟩ = some (.func (.func 135) #[] #[]) ∧ w'.cell? ⟨w.heap.size + 1 + 1 + 1 + 1, 0, none⟩ = some (.int .i64 15) := by
  go_enter Tryz.func79, Tryz.ntmps79
  go_wp2
  exact bodyPost_ret (v := .tuple #[.agg #[.bool true, .bool true, .func (.func 153) #[] #[.pointer (some ⟨w.heap.size + 1 + 1 + 1, 0, none⟩), .pointer (some ⟨w.heap.size + 1 + 1 + 1 + 1, 0, none⟩)], .func (.func 136) #[] #[]], .bool true]) (by simp [results, Tryz.results79, go_sem]) rfl ⟨rfl, (bel (bel (bel (bel (bel (bel (Below.refl _ _) _) _) _) _) _) _), by go_simp, by go_simp⟩
set_option maxHeartbeats 1000000 in
theorem of_6 (w : World) :
    Calls Tryz.prog 79 #[.int .i64 6] w fun e w' => e = .returned (.tuple #[.agg #[.bool true, .bool false, .func (.func 138) #[] #[], .func (.func 139) #[] #[]], .bool true]) ∧ Below w.heap.size w w' := by
  go_enter Tryz.func79, Tryz.ntmps79
  go_wp2
  exact bodyPost_ret (v := .tuple #[.agg #[.bool true, .bool false, .func (.func 138) #[] #[], .func (.func 139) #[] #[]], .bool true]) (by simp [results, Tryz.results79, go_sem]) rfl ⟨rfl, (bel (bel (bel (bel (bel (bel (Below.refl _ _) _) _) _) _) _) _)⟩
set_option maxHeartbeats 1000000 in
theorem of_no (k : Int) (w : World) (hk : k < 1 ∨ 6 < k) :
    Calls Tryz.prog 79 #[.int .i64 k] w fun e w' => e = .returned (.tuple #[.agg #[.bool false, .bool false, .nilFunc, .nilFunc], .bool false]) ∧ Below w.heap.size w w' := by
  rcases hk with hk | hk
  · have hk' : (decide (k < 1)) = true := decide_eq_true hk
    go_enter Tryz.func79, Tryz.ntmps79
    go_wp2
    exact bodyPost_ret (v := .tuple #[.agg #[.bool false, .bool false, .nilFunc, .nilFunc], .bool false]) (by simp [results, Tryz.results79, go_sem]) rfl ⟨rfl, (Below.refl _ _).alloc (by simp) _⟩
  · have hk' : (decide (k < 1)) = false := decide_eq_false (by omega)
    have hk'' : (decide (6 < k)) = true := decide_eq_true (by omega)
    go_enter Tryz.func79, Tryz.ntmps79
    go_wp2
    exact bodyPost_ret (v := .tuple #[.agg #[.bool false, .bool false, .nilFunc, .nilFunc], .bool false]) (by simp [results, Tryz.results79, go_sem]) rfl ⟨rfl, (Below.refl _ _).alloc (by simp) _⟩
end Go.Proofs.YtnbgfpcpfknjoaaGreatDoor
