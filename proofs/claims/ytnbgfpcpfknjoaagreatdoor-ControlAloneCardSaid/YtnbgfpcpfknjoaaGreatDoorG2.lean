/- The references of layers 11 and 12: whether a predicate, a rule may be. -/
import Derived.Test.YtnbgfpcpfknjoaaGreatDoorG1
import Derived.Test.YtnbgfpcpfknjoaaGreatDoorB2
namespace Go.Proofs.YtnbgfpcpfknjoaaGreatDoor
set_option linter.all false
open Go.RowKit

set_option maxHeartbeats 2000000 in
set_option maxRecDepth 100000 in
theorem refPred_any (k : Int) (n v : ByteArray) (w : World) (hn : n.size ≤ maxLen) (hv : v.size ≤ maxLen) :
    Calls Tryz.prog 60 #[.agg #[.int .i64 k, .string n, .string v]] w fun e w' => e = .returned (.int .i64 (predChk k n v)) ∧ Below w.heap.size w w' := by
  obtain ⟨R, hR⟩ : ∃ R, predChk k n v = R := ⟨_, rfl⟩
  rw [hR]
  have HR := Lib.hid hR
  clear hR
  by_cases h1 : k < 1
  · have HX : Hid (R = 2) := by have := HR.out; unfold predChk at this; rw [if_pos (.inl h1)] at this; exact this.symm
    go_enter Tryz.func60, Tryz.ntmps60
    go_wp2
    go_ret
    exact ⟨ret_int HX.out.symm, bel (Below.refl _ _) _⟩
  by_cases h6 : 6 < k
  · have HX : Hid (R = 2) := by have := HR.out; unfold predChk at this; rw [if_pos (.inr h6)] at this; exact this.symm
    go_enter Tryz.func60, Tryz.ntmps60
    go_wp2
    go_ret
    exact ⟨ret_int HX.out.symm, bel (Below.refl _ _) _⟩
  have hn0 : (n.toList = []) = (n.size = 0) := nil_toList n
  have hv0 : (v.toList = []) = (v.size = 0) := nil_toList v
  have HN0 := Lib.hid hn0
  have HV0 := Lib.hid hv0
  have HNE := Lib.hid (isEmpty_toList n)
  have HVE := Lib.hid (isEmpty_toList v)
  clear hn0 hv0
  have hk : k = 1 ∨ k = 2 ∨ k = 3 ∨ k = 4 ∨ k = 5 ∨ k = 6 := by omega
  clear h1 h6
  rcases hk with rfl | rfl | rfl | rfl | rfl | rfl
  all_goals
    go_enter Tryz.func60, Tryz.ntmps60
    go_wp2_with (first | (go_at_call 81; ((with_reducible refine (refMethod_any _ _ hv).mono ?_); rintro e w' ⟨rfl, rfl⟩)) | (go_at_call 82; ((with_reducible refine (refPath_any _ _ hv).mono ?_); rintro e w' ⟨rfl, rfl⟩)) | (go_at_call 83; ((with_reducible refine (refValue_any _ _ hv).mono ?_); rintro e w' ⟨rfl, rfl⟩)) | (go_at_call 61; ((with_reducible refine (refName_any n _ hn).mono ?_); rintro e w' ⟨rfl, rfl⟩)) | (go_at_call 61; ((with_reducible refine (refName_any v _ hv).mono ?_); rintro e w' ⟨rfl, rfl⟩)))
    all_goals
      go_ret
      refine ⟨ret_int ?_, bel (Below.refl _ _) _⟩
      have hr := HR.out
      simp only [HN0.out, HV0.out, HNE.out, HVE.out, Bool.not_eq_eq_eq_not, Bool.not_true, Bool.not_false, decide_eq_true_eq, decide_eq_false_iff_not] at *
      rw [← hr]
      unfold predChk
      simp [*, -ByteArray.size_eq_zero_iff]

theorem inNames_hit (xs : List ByteArray) (x : ByteArray) (k : Nat) (hk : k < xs.length) (h : ((xs[k]'hk).toList == x.toList) = true) : inNames xs x = true := by
  unfold inNames
  rw [List.any_eq_true]
  exact ⟨_, List.getElem_mem hk, by rw [beq_iff_eq] at h ⊢; exact h.symm⟩
theorem inNames_none (xs : List ByteArray) (x : ByteArray) (h : ∀ j, ∀ hj : j < xs.length, ((xs[j]'hj).toList == x.toList) = false) : inNames xs x = false := by
  unfold inNames
  rw [List.any_eq_false]
  intro y hy
  obtain ⟨j, hj, rfl⟩ := List.getElem_of_mem hy
  have := h j hj
  rw [beq_eq_false_iff_ne] at this
  rw [beq_iff_eq]
  exact fun e => this e.symm
set_option maxHeartbeats 1000000 in
theorem refIn_any (xs : List ByteArray) (x : ByteArray) (S : Nat → Prop) (A : Option Addr) (c : Nat) (w : World) (h : strR.sl w S (.slice A xs.length c) xs) :
    Calls Tryz.prog 98 #[.slice A xs.length c, .string x] w fun e w' => e = .returned (.bool (inNames xs x)) ∧ w = w' := by
  have HS := Lib.hid h
  have hm := Rp.sl_lenv h
  unfold maxLen at hm
  clear h
  go_enter Tryz.func98, Tryz.ntmps98
  go_wp2
  go_loop [5] (fun i => ∃ k : Nat, k ≤ xs.length ∧ i = .int .i64 k ∧ Hid (∀ j, j < k → ∀ hj : j < xs.length, ((xs[j]'hj).toList == x.toList) = false)) (fun i => xs.length - (intOf i).toNat)
  case atStart => exact ⟨0, Nat.zero_le _, rfl, fun j hj => by omega⟩
  case round =>
    obtain ⟨k, hk, rfl, HI⟩ := hrel
    by_cases hlt : k < xs.length
    · obtain ⟨b, o, rfl, hc⟩ := strR_at HS.out hlt
      cases hq : ((xs[k]'hlt).toList == x.toList)
      · have HX : Hid (∀ j, j < k + 1 → ∀ hj : j < xs.length, ((xs[j]'hj).toList == x.toList) = false) := by
          intro j hj hl
          by_cases e : j = k
          · subst e; exact hq
          · exact HI.out j (by omega) hl
        go_wp2
        go_round
        case rel => exact ⟨k + 1, by omega, by go_num, HX⟩
        case measure => simp [intOf]; omega
      · have HX := Lib.hid (inNames_hit xs x k hlt hq)
        go_wp2
        go_ret
        exact ⟨ret_bool HX.out.symm, rfl⟩
    · have HX := Lib.hid (inNames_none xs x fun j hj => HI.out j (by omega) hj)
      go_wp2
      go_ret
      exact ⟨ret_bool HX.out.symm, rfl⟩
set_option maxHeartbeats 400000 in
theorem refPart_any (n : Int) (w : World) :
    Calls Tryz.prog 99 #[.int .i64 n] w fun e w' => e = .returned (.bool (partB n)) ∧ w = w' := by
  by_cases h1 : 0 ≤ n
  · by_cases h2 : n ≤ 100
    · have h2' : decide (n ≤ 100) = true := decide_eq_true h2
      have HN : Hid (partB n = true) := by unfold Hid partB; simp [h1, h2]
      go_enter Tryz.func99, Tryz.ntmps99
      go_wp2
      go_ret
      exact ⟨ret_bool HN.out.symm, rfl⟩
    · have h2' : decide (n ≤ 100) = false := decide_eq_false h2
      have HN : Hid (partB n = false) := by unfold Hid partB; simp; omega
      go_enter Tryz.func99, Tryz.ntmps99
      go_wp2
      go_ret
      exact ⟨ret_bool HN.out.symm, rfl⟩
  · have h1' : decide (0 ≤ n) = false := decide_eq_false h1
    have HN : Hid (partB n = false) := by unfold Hid partB; simp; omega
    go_enter Tryz.func99, Tryz.ntmps99
    go_wp2
    go_ret
    exact ⟨ret_bool HN.out.symm, rfl⟩

set_option maxRecDepth 100000 in
set_option maxHeartbeats 8000000 in
theorem refRule_any (r : Rule) (names : List ByteArray) (S S' : Nat → Prop) (Ap A : Option Addr) (cp c : Nat) (w : World) (hp : predR.sl w S (.slice Ap r.preds.length cp) r.preds) (hn : strR.sl w S' (.slice A names.length c) names) (hok : r.Ok) :
    Calls Tryz.prog 70 #[.agg #[.int .i64 r.rank, .slice Ap r.preds.length cp, .string r.target, .int .i64 r.abortPct, .int .i64 r.abortStatus, .int .i64 r.delayPct, .int .i64 r.delayTicks, .int .i64 r.mirrorPct, .string r.mirror, .int .i64 r.sample], .slice A names.length c] w fun e w' => e = .returned (.int .i64 (ruleChk r names)) ∧ Below w.heap.size w w' := by
  have hpm := Rp.sl_lenv hp
  have HP := Lib.hid hp
  have HN := Lib.hid hn
  have HOK := Lib.hid hok
  clear hp hn hok
  unfold maxLen at hpm
  by_cases h1 : r.rank < 0
  · have HX : Hid (ruleChk r names = 12) := by unfold Hid ruleChk; rw [if_pos (by simp [rangeB]; omega)]
    go_enter Tryz.func70, Tryz.ntmps70
    go_wp2
    go_ret
    exact ⟨ret_int HX.out.symm, bel (Below.refl _ _) _⟩
  by_cases h2 : 99 < r.rank
  · have HX : Hid (ruleChk r names = 12) := by unfold Hid ruleChk; rw [if_pos (by simp [rangeB]; omega)]
    go_enter Tryz.func70, Tryz.ntmps70
    go_wp2
    go_ret
    exact ⟨ret_int HX.out.symm, bel (Below.refl _ _) _⟩
  have hr : rangeB 0 99 r.rank = true := by simp [rangeB]; omega
  by_cases hl : 4 < r.preds.length
  · have hl' : decide (4 < (r.preds.length : Int)) = true := decide_eq_true (by omega)
    have HX : Hid (ruleChk r names = 8) := by unfold Hid ruleChk; rw [if_neg (by rw [hr]; simp), if_pos hl]
    clear hr
    go_enter Tryz.func70, Tryz.ntmps70
    go_wp2
    go_ret
    exact ⟨ret_int HX.out.symm, bel (Below.refl _ _) _⟩
  have HE : Hid (ruleChk r names = if firstErr predErr r.preds ≠ 0 then firstErr predErr r.preds else ruleTail r names) := by
    unfold Hid ruleChk; rw [if_neg (by rw [hr]; simp), if_neg hl]
  have hl' : decide (4 < (r.preds.length : Int)) = false := decide_eq_false (by omega)
  clear hr
  go_enter Tryz.func70, Tryz.ntmps70
  go_wp2
  have HB0 : Bx w (w.alloc (.cells (r.cells (.slice Ap r.preds.length cp)).toArray 65)) 0 (r.cells (.slice Ap r.preds.length cp)) := Bx.made (Below.refl _ _) rfl _ _
  go_loopw [5] (fun i wr => ∃ k : Nat, k ≤ r.preds.length ∧ i = .int .i64 k ∧ Hid (∀ j, j < k → ∀ hj : j < r.preds.length, predErr (r.preds[j]'hj) = 0) ∧ Bx w wr 0 (r.cells (.slice Ap r.preds.length cp))) (fun i _ => r.preds.length - (intOf i).toNat)
  case atStart => exact ⟨0, Nat.zero_le _, rfl, (fun j hj => by omega), HB0⟩
  case round =>
    obtain ⟨k, hk, rfl, HI, HB⟩ := hrel
    clear HB0
    have HBl := HB.lt0
    have h1 := HB.at0 1 _ rfl
    by_cases hlt : k < r.preds.length
    · obtain ⟨b, o, rfl, hc0, hc1, hc2, hb0, hn1, hn2⟩ := predR_at (Rp.sl_below HP.out HB.below) hlt
      have HN1 := Lib.hid hn1
      have HN2 := Lib.hid hn2
      clear hn1 hn2
      by_cases hq : predErr (r.preds[k]'hlt) = 0
      · have hq' : (predChk (r.preds[k]'hlt).kind (r.preds[k]'hlt).name (r.preds[k]'hlt).value != 0) = false := by have : predChk (r.preds[k]'hlt).kind (r.preds[k]'hlt).name (r.preds[k]'hlt).value = 0 := hq; rw [this]; rfl
        have HQ := Lib.hid hq
        clear hq
        go_wp2_with (go_at_call 60; refine (refPred_any _ _ _ _ HN1.out HN2.out).mono ?_; rintro e w1 ⟨rfl, hb⟩)
        go_roundw
        case rel =>
          refine ⟨k + 1, by omega, by go_num, ?_, HB.next hb⟩
          intro j hj hl
          by_cases e : j = k
          · subst e; exact HQ.out
          · exact HI.out j (by omega) hl
        case measure => simp [intOf]; omega
      · have hq' : (predChk (r.preds[k]'hlt).kind (r.preds[k]'hlt).name (r.preds[k]'hlt).value != 0) = true := bne_iff_ne.2 hq
        have HQ := Lib.hid (firstErr_hit predErr r.preds k hlt HI.out hq)
        have HQ' := Lib.hid hq
        clear hq
        go_wp2_with (go_at_call 60; refine (refPred_any _ _ _ _ HN1.out HN2.out).mono ?_; rintro e w1 ⟨rfl, hb⟩)
        go_ret
        exact ⟨ret_int (by rw [HE.out, HQ.out, if_pos HQ'.out]; rfl), belTrans HB.below hb⟩
    · have HQ : Hid (firstErr predErr r.preds = 0) := firstErr_none _ _ fun j hj => HI.out j (by omega) hj
      have HE' : Hid (ruleChk r names = ruleTail r names) := by unfold Hid; rw [HE.out, HQ.out, if_neg (by simp)]
      clear HE HQ HI
      have h2 := HB.at0 2 _ rfl
      have h3 := HB.at0 3 _ rfl
      have h4 := HB.at0 4 _ rfl
      have h5 := HB.at0 5 _ rfl
      have h6 := HB.at0 6 _ rfl
      have h7 := HB.at0 7 _ rfl
      have h8 := HB.at0 8 _ rfl
      have h9 := HB.at0 9 _ rfl
      have HNr := Lib.hid (Rp.sl_below HN.out HB.below)
      have HBB := Lib.hid HB.below
      clear HB
      go_wp2_with (first | (go_at_call 98; ((with_reducible refine (refIn_any names r.target _ _ _ _ HNr.out).mono ?_); rintro e w' ⟨rfl, rfl⟩)) | (go_at_call 98; ((with_reducible refine (refIn_any names r.mirror _ _ _ _ HNr.out).mono ?_); rintro e w' ⟨rfl, rfl⟩)) | (go_at_call 99; refine (refPart_any _ _).mono ?_; rintro e w' ⟨rfl, rfl⟩))
      all_goals
        go_ret
        refine ⟨ret_int ?_, HBB.out⟩
        rw [HE'.out]
        simp only [Bool.not_eq_eq_eq_not, Bool.not_true, Bool.not_false, decide_eq_true_eq, decide_eq_false_iff_not, bne_iff_ne, bne_eq_false_iff_eq, ne_eq] at *
        unfold ruleTail allParts sizedB rangeB
        simp [*]
      all_goals
        have hp0 : partB 0 = true := rfl
        try simp only [hp0, Bool.true_eq_false, reduceIte]
        try intros
        repeat' split
        all_goals first
          | rfl
          | omega
          | (rcases ‹r.mirror.toList.isEmpty = true ∨ inNames names r.mirror = true› with hx | hx
             · exact absurd (List.isEmpty_iff.1 hx) ‹¬ r.mirror.toList = []›
             · first
                | exact hx
                | (exfalso; have hy := ‹inNames names r.mirror = false›; rw [hx] at hy; cases hy))
end Go.Proofs.YtnbgfpcpfknjoaaGreatDoor
