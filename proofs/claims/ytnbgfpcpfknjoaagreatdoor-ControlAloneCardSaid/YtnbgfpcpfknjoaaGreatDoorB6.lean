/- rule.Order, table.Compile. -/
import Derived.Test.YtnbgfpcpfknjoaaGreatDoorB5
import Derived.Test.YtnbgfpcpfknjoaaGreatDoorB3
namespace Go.Proofs.YtnbgfpcpfknjoaaGreatDoor
set_option linter.all false
open Go.RowKit

set_option maxHeartbeats 1000000 in
theorem insertion_zero (A : Option Addr) (c : Nat) (f : Value) (w : World) :
    Calls Tryz.prog 118 #[.slice A 0 c, .int .i64 0, .int .i64 0, f] w fun e w' => e = .returned (.tuple #[]) ∧ w = w' := by
  go_enter Tryz.func118, Tryz.ntmps118
  go_wp2
  refine wp_loop_rounds 1 ?_
  rw [rounds_succ]
  go_wp2
  go_end0
  exact ⟨rfl, rfl⟩

set_option maxHeartbeats 1000000 in
theorem stable_any (xs : List Rule) (S : Nat → Prop) (base g c : Nat) (w : World) (h : ruleR.own w S base 65 (.slice (some ⟨g, 0, none⟩) xs.length c) xs) (hS : ¬ S g) (hm : xs.length ≤ 16) :
    Calls Tryz.prog 97 #[.slice (some ⟨g, 0, none⟩) xs.length c, .int .i64 xs.length, .func (.func 69) #[] #[]] w fun e w' => e = .returned (.tuple #[]) ∧ ruleR.own w' S base 65 (.slice (some ⟨g, 0, none⟩) xs.length c) (orderF xs) ∧ KeepBut w w' g := by
  have HH := Lib.hid h
  have hl : ¬ (20 : Int) ≤ (xs.length : Int) := by omega
  have hl2 : ¬ (20 : Int) < (xs.length : Int) := by omega
  clear h
  go_enter Tryz.func97, Tryz.ntmps97
  go_wp2
  refine wp_loop_rounds 1 ?_
  rw [rounds_succ]
  go_wp2_with fail
  refine (insertion_any xs S base g c w HH.out hS (by omega)).mono ?_
  rintro e w1 ⟨rfl, ho, hk⟩
  have HO := Lib.hid ho
  have HK := Lib.hid hk
  clear ho hk
  go_wp2
  refine wp_loop_rounds 1 ?_
  rw [rounds_succ]
  go_wp2
  go_end0
  exact ⟨rfl, HO.out, HK.out⟩
set_option maxHeartbeats 1000000 in
theorem stable_zero (A : Option Addr) (c : Nat) (w : World) :
    Calls Tryz.prog 97 #[.slice A 0 c, .int .i64 0, .func (.func 69) #[] #[]] w fun e w' => e = .returned (.tuple #[]) ∧ w = w' := by
  go_enter Tryz.func97, Tryz.ntmps97
  go_wp2
  refine wp_loop_rounds 1 ?_
  rw [rounds_succ]
  go_wp2_with fail
  refine (insertion_zero _ _ _ _).mono ?_
  rintro e w1 ⟨rfl, rfl⟩
  go_wp2
  refine wp_loop_rounds 1 ?_
  rw [rounds_succ]
  go_wp2
  go_end0
  exact ⟨rfl, rfl⟩
set_option maxHeartbeats 1000000 in
theorem sort_any (xs : List Rule) (S : Nat → Prop) (base g c : Nat) (w : World) (h : ruleR.own w S base 65 (.slice (some ⟨g, 0, none⟩) xs.length c) xs) (hS : ¬ S g) (hm : xs.length ≤ 16) :
    Calls Tryz.prog 68 #[.slice (some ⟨g, 0, none⟩) xs.length c, .func (.func 69) #[] #[]] w fun e w' => e = .returned (.tuple #[]) ∧ ruleR.own w' S base 65 (.slice (some ⟨g, 0, none⟩) xs.length c) (orderF xs) ∧ KeepBut w w' g := by
  have HH := Lib.hid h
  clear h
  go_enter Tryz.func68, Tryz.ntmps68
  go_wp2_with fail
  refine (stable_any xs S base g c w HH.out hS hm).mono ?_
  rintro e w1 ⟨rfl, ho, hk⟩
  have HO := Lib.hid ho
  have HK := Lib.hid hk
  clear ho hk
  go_wp2
  go_end0
  exact ⟨rfl, HO.out, HK.out⟩
set_option maxHeartbeats 1000000 in
theorem sort_zero (A : Option Addr) (c : Nat) (w : World) :
    Calls Tryz.prog 68 #[.slice A 0 c, .func (.func 69) #[] #[]] w fun e w' => e = .returned (.tuple #[]) ∧ w = w' := by
  go_enter Tryz.func68, Tryz.ntmps68
  go_wp2_with fail
  refine (stable_zero _ _ _).mono ?_
  rintro e w1 ⟨rfl, rfl⟩
  go_wp2
  go_end0
  exact ⟨rfl, rfl⟩

theorem orderF_length_aux : ∀ (f i : Nat) (xs : List Rule), (insFrom f i xs).length = xs.length
  | 0, _, _ => rfl
  | f + 1, i, xs => by rw [insFrom, orderF_length_aux f, bub_length]
theorem orderF_length (xs : List Rule) : (orderF xs).length = xs.length := orderF_length_aux _ _ _

/-- What rules take. -/
structure RulesCap (xs : List Rule) : Prop where
  few : xs.length ≤ 16
  cap : Cap (xs.length * 112)
  preds : ∀ i, ∀ hi : i < xs.length, Cap ((xs[i]'hi).preds.length * 40)

set_option maxHeartbeats 1000000 in
theorem order_any (xs : List Rule) (S : Nat → Prop) (A : Option Addr) (c : Nat) (w : World) (h : ruleR.sl w S (.slice A xs.length c) xs) (HC : RulesCap xs) :
    Calls Tryz.prog 45 #[.slice A xs.length c] w fun e w' => (∃ v, e = .returned v ∧ ruleR.own w' (cpS S w.heap.size v) w.heap.size 65 v (orderF xs)) ∧ Below w.heap.size w w' := by
  have HH := Lib.hid h
  clear h
  go_enter Tryz.func45, Tryz.ntmps45
  go_wp2_with fail
  refine (copied_any xs S A c w HH.out HC.cap HC.preds).mono ?_
  rintro e w1 ⟨⟨v, rfl, hown⟩, hb⟩
  by_cases hne : xs = []
  · subst hne
    obtain ⟨A1, c1, rfl, hc1, hc2⟩ := Rp.own_slice hown
    have HO := Lib.hid hown
    clear hown hc1 hc2
    go_wp2_with fail
    refine (sort_zero _ _ _).mono ?_
    rintro e w2 ⟨rfl, rfl⟩
    go_wp2
    go_ret
    exact ⟨⟨_, rfl, HO.out⟩, hb⟩
  · obtain ⟨g, cap, rfl, hbg, hgl, hnc, hcm⟩ := Rp.own_form hown hne
    have HO := Lib.hid hown
    clear hown hnc hcm
    go_wp2_with fail
    refine (sort_any xs _ _ g cap w1 HO.out (by intro hc; exact hc.2 rfl) HC.few).mono ?_
    rintro e w2 ⟨rfl, ho, hk⟩
    have HO2 := Lib.hid ho
    have HK := Lib.hid hk
    clear ho hk
    go_wp2
    go_ret
    refine ⟨⟨_, rfl, HO2.out⟩, ?_⟩
    have k := HK.out
    exact hb.trans ⟨k.os, k.tape, k.output, k.size, fun i hi => k.block i (by have := hb.size; omega) (by omega)⟩
end Go.Proofs.YtnbgfpcpfknjoaaGreatDoor
