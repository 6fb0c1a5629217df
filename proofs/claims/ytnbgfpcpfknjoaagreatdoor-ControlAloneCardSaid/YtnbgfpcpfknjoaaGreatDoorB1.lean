/- rule: names, parts, sizes; slices' Contains, ContainsFunc. -/
import Derived.Test.YtnbgfpcpfknjoaaGreatDoorR
import Derived.Test.YtnbgfpcpfknjoaaGreatDoorA3
namespace Go.Proofs.YtnbgfpcpfknjoaaGreatDoor
set_option linter.all false
open Go.RowKit

theorem strR_at {w : World} {S : Nat → Prop} {A : Option Addr} {n c : Nat} {xs : List ByteArray} (h : strR.sl w S (.slice A n c) xs) {i : Nat} (hi : i < xs.length) :
    ∃ b o, A = some ⟨b, o, none⟩ ∧ w.cell? ⟨b, o + i, none⟩ = some (.string (xs[i]'hi)) := by
  obtain ⟨b, o, cs, hA, _, ⟨rfl, _⟩, hc⟩ := Rp.sl_at h hi
  exact ⟨b, o, hA, by simpa [strR, Rp.flat] using hc 0 _ rfl⟩
theorem intR_at {w : World} {S : Nat → Prop} {A : Option Addr} {n c : Nat} {xs : List Int} (h : intR.sl w S (.slice A n c) xs) {i : Nat} (hi : i < xs.length) :
    ∃ b o, A = some ⟨b, o, none⟩ ∧ w.cell? ⟨b, o + i, none⟩ = some (.int .i64 (xs[i]'hi)) := by
  obtain ⟨b, o, cs, hA, _, ⟨rfl, _⟩, hc⟩ := Rp.sl_at h hi
  exact ⟨b, o, hA, by simpa [intR, Rp.flat] using hc 0 _ rfl⟩


set_option maxHeartbeats 400000 in
theorem index_any (xs : List ByteArray) (x : ByteArray) (S : Nat → Prop) (A : Option Addr) (c : Nat) (w : World) (h : strR.sl w S (.slice A xs.length c) xs) (hm : xs.length ≤ maxLen) :
    Calls Tryz.prog 115 #[.slice A xs.length c, .string x] w fun e w' => e = .returned (.int .i64 (firstIdx (fun y => x.toList == y.toList) xs)) ∧ w = w' := by
  unfold maxLen at hm
  go_enter Tryz.func115, Tryz.ntmps115
  go_wp2
  go_loop [8] (fun i => ∃ k : Nat, k ≤ xs.length ∧ i = .int .i64 k ∧ Hid (∀ j, j < k → ∀ hj : j < xs.length, (fun y => x.toList == y.toList) (xs[j]'hj) = false)) (fun i => xs.length - (intOf i).toNat)
  case atStart => exact ⟨0, Nat.zero_le _, rfl, by intro j hj; omega⟩
  case round =>
    obtain ⟨k, hk, rfl, HI⟩ := hrel
    by_cases hlt : k < xs.length
    · obtain ⟨b, o, rfl, hc⟩ := strR_at h hlt
      have HH := Lib.hid h
      clear h
      cases hq : (x.toList == (xs[k]'hlt).toList)
      · have HQ : Hid ((fun y => x.toList == y.toList) (xs[k]'hlt) = false) := by unfold Hid; exact hq
        go_wp2
        go_round
        case rel =>
          refine ⟨k + 1, by omega, by go_num, ?_⟩
          intro j hj hl
          by_cases e : j = k
          · subst e; exact HQ.out
          · exact HI.out j (by omega) hl
        case measure => simp [intOf]; omega
      · have HQ : Hid ((fun y => x.toList == y.toList) (xs[k]'hlt) = true) := by unfold Hid; exact hq
        go_wp2
        go_ret
        exact ⟨ret_int (firstIdx_hit _ xs k hlt HI.out HQ.out).symm, rfl⟩
    · go_wp2
      go_ret
      exact ⟨ret_int (firstIdx_none _ xs fun j hj => HI.out j (by omega) hj).symm, rfl⟩

/-- A name is one of some. -/
def inNames (xs : List ByteArray) (x : ByteArray) : Bool := xs.any fun y => x.toList == y.toList
set_option maxHeartbeats 400000 in
theorem contains_any (xs : List ByteArray) (x : ByteArray) (S : Nat → Prop) (A : Option Addr) (c : Nat) (w : World) (h : strR.sl w S (.slice A xs.length c) xs) (hm : xs.length ≤ maxLen) :
    Calls Tryz.prog 94 #[.slice A xs.length c, .string x] w fun e w' => e = .returned (.bool (inNames xs x)) ∧ w = w' := by
  have HH := Lib.hid h
  have hm' := Lib.hid hm
  have HA : Hid (inNames xs x = decide (0 ≤ firstIdx (fun y => x.toList == y.toList) xs)) := (firstIdx_any _ _).symm
  clear h hm
  go_enter Tryz.func94, Tryz.ntmps94
  go_wp2_with (go_at_call 115; refine (index_any _ _ _ _ _ _ HH.out hm'.out).mono ?_; rintro e w' ⟨rfl, rfl⟩)
  all_goals
    go_ret
    exact ⟨ret_bool (by rw [HA.out]), rfl⟩

def partB (n : Int) : Bool := decide (0 ≤ n) && decide (n ≤ 100)
set_option maxHeartbeats 400000 in
theorem within_any (n a b : Int) (w : World) :
    Calls Tryz.prog 92 #[.int .i64 n, .int .i64 a, .int .i64 b] w fun e w' => e = .returned (.bool (rangeB a b n)) ∧ w = w' := by
  go_enter Tryz.func92, Tryz.ntmps92
  go_wp2
  all_goals
    go_ret
    exact ⟨ret_bool (by rw [Bool.eq_iff_iff]; simp [rangeB]; omega), rfl⟩
def sizedB (n a b p : Int) : Bool := rangeB a b n || (n == 0 && p == 0)
def allParts (a b c d : Int) : Bool := partB a && partB b && partB c && partB d
set_option maxHeartbeats 400000 in
theorem sized_any (n a b p : Int) (w : World) :
    Calls Tryz.prog 96 #[.int .i64 n, .int .i64 a, .int .i64 b, .int .i64 p] w fun e w' => e = .returned (.bool (sizedB n a b p)) ∧ w = w' := by
  unfold sizedB
  cases hq : rangeB a b n
  all_goals
    go_enter Tryz.func96, Tryz.ntmps96
    go_wp2_with (go_at_call 92; refine (within_any _ _ _ _).mono ?_; rintro e w' ⟨rfl, rfl⟩)
    all_goals
      go_ret
      exact ⟨ret_bool (by simp_all), rfl⟩
set_option maxHeartbeats 400000 in
theorem parts1_any (n : Int) (w : World) :
    Calls Tryz.prog 117 #[.int .i64 n] w fun e w' => e = .returned (.bool (!partB n)) ∧ w = w' := by
  go_enter Tryz.func117, Tryz.ntmps117
  go_wp2_with (go_at_call 92; refine (within_any _ _ _ _).mono ?_; rintro e w' ⟨rfl, rfl⟩)
  go_ret
  exact ⟨rfl, rfl⟩

set_option maxHeartbeats 400000 in
theorem indexParts_any (xs : List Int) (S : Nat → Prop) (A : Option Addr) (c : Nat) (w : World) (h : intR.sl w S (.slice A xs.length c) xs) (hm : xs.length ≤ maxLen) :
    Calls Tryz.prog 145 #[.slice A xs.length c, .func (.func 117) #[] #[]] w fun e w' => e = .returned (.int .i64 (firstIdx (fun n => !partB n) xs)) ∧ w = w' := by
  unfold maxLen at hm
  go_enter Tryz.func145, Tryz.ntmps145
  go_wp2
  go_loop [8] (fun i => ∃ k : Nat, k ≤ xs.length ∧ i = .int .i64 k ∧ Hid (∀ j, j < k → ∀ hj : j < xs.length, (fun n => !partB n) (xs[j]'hj) = false)) (fun i => xs.length - (intOf i).toNat)
  case atStart => exact ⟨0, Nat.zero_le _, rfl, by intro j hj; omega⟩
  case round =>
    obtain ⟨k, hk, rfl, HI⟩ := hrel
    by_cases hlt : k < xs.length
    · obtain ⟨b, o, rfl, hc⟩ := intR_at h hlt
      have HH := Lib.hid h
      clear h
      cases hq : (!partB (xs[k]'hlt))
      · have HQ : Hid ((fun n => !partB n) (xs[k]'hlt) = false) := by unfold Hid; exact hq
        go_wp2_with (go_at_call 117; refine (parts1_any _ _).mono ?_; rintro e w' ⟨rfl, rfl⟩)
        go_round
        case rel =>
          refine ⟨k + 1, by omega, by go_num, ?_⟩
          intro j hj hl
          by_cases e : j = k
          · subst e; exact HQ.out
          · exact HI.out j (by omega) hl
        case measure => simp [intOf]; omega
      · have HQ : Hid ((fun n => !partB n) (xs[k]'hlt) = true) := by unfold Hid; exact hq
        go_wp2_with (go_at_call 117; refine (parts1_any _ _).mono ?_; rintro e w' ⟨rfl, rfl⟩)
        go_ret
        exact ⟨ret_int (firstIdx_hit _ xs k hlt HI.out HQ.out).symm, rfl⟩
    · go_wp2
      go_ret
      exact ⟨ret_int (firstIdx_none _ xs fun j hj => HI.out j (by omega) hj).symm, rfl⟩

set_option maxHeartbeats 400000 in
theorem containsParts_any (xs : List Int) (S : Nat → Prop) (A : Option Addr) (c : Nat) (w : World) (h : intR.sl w S (.slice A xs.length c) xs) (hm : xs.length ≤ maxLen) :
    Calls Tryz.prog 116 #[.slice A xs.length c, .func (.func 117) #[] #[]] w fun e w' => e = .returned (.bool (xs.any fun n => !partB n)) ∧ w = w' := by
  have HH := Lib.hid h
  have hm' := Lib.hid hm
  have HA : Hid ((xs.any fun n => !partB n) = decide (0 ≤ firstIdx (fun n => !partB n) xs)) := (firstIdx_any _ _).symm
  clear h hm
  go_enter Tryz.func116, Tryz.ntmps116
  go_wp2_with (go_at_call 145; refine (indexParts_any _ _ _ _ _ HH.out hm'.out).mono ?_; rintro e w' ⟨rfl, rfl⟩)
  all_goals
    go_ret
    exact ⟨ret_bool (by rw [HA.out]), rfl⟩
set_option maxHeartbeats 400000 in
theorem parts_any (a b c d : Int) (S : Nat → Prop) (A : Option Addr) (cp : Nat) (w : World) (h : intR.sl w S (.slice A 4 cp) [a, b, c, d]) :
    Calls Tryz.prog 95 #[.slice A 4 cp] w fun e w' => e = .returned (.bool (allParts a b c d)) ∧ w = w' := by
  have HH := Lib.hid h
  clear h
  go_enter Tryz.func95, Tryz.ntmps95
  go_wp2_with (go_at_call 116; refine (containsParts_any [a, b, c, d] _ _ _ _ HH.out (by simp [maxLen])).mono ?_; rintro e w' ⟨rfl, rfl⟩)
  all_goals
    go_ret
    exact ⟨ret_bool (by simp [allParts, Bool.and_assoc]), rfl⟩
theorem intR_four (w : World) (S : Nat → Prop) (t : Nat) (a b c d : Int) (hS : S w.heap.size) (ha : i64ok a) (hb : i64ok b) (hc : i64ok c) (hd : i64ok d) :
    intR.sl (w.alloc (.cells #[.int .i64 a, .int .i64 b, .int .i64 c, .int .i64 d] t)) S (.slice (some ⟨w.heap.size, 0, none⟩) 4 4) [a, b, c, d] := by
  refine ⟨_, 4, rfl, by simp, by simp [maxLen], fun _ => ⟨_, 0, rfl, hS, by simp, ?_⟩⟩
  intro i x hx
  refine ⟨[.int .i64 x], ⟨rfl, ?_⟩, ?_⟩
  · rcases i with _ | _ | _ | _ | i <;> simp at hx <;> subst hx <;> assumption
  · intro j u hu
    rcases j with _ | j <;> simp at hu
    subst hu
    rw [World.cell?_alloc_at _ _ _ _ rfl]
    rcases i with _ | _ | _ | _ | i <;> simp at hx <;> subst hx <;> rfl
end Go.Proofs.YtnbgfpcpfknjoaaGreatDoor
