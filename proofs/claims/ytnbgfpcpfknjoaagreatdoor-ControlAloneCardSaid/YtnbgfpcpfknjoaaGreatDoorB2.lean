/- rule.Check, table.Check. -/
import Derived.Test.YtnbgfpcpfknjoaaGreatDoorB1
import Derived.Test.YtnbgfpcpfknjoaaGreatDoorRB
namespace Go.Proofs.YtnbgfpcpfknjoaaGreatDoor
set_option linter.all false
open Go.RowKit

/-- rule.Check, behind its predicates. -/
def ruleTail (r : Rule) (names : List ByteArray) : Int :=
  if inNames names r.target = false then 7
  else if r.mirror.toList.isEmpty = false ∧ inNames names r.mirror = false then 7
  else if allParts r.abortPct r.delayPct r.mirrorPct r.sample = false then 12
  else if sizedB r.abortStatus 400 599 r.abortPct = false then 12
  else if sizedB r.delayTicks 1 50 r.delayPct = false then 12
  else if 0 < r.mirrorPct ∧ r.mirror.toList.isEmpty = true then 9
  else 0
def ruleChk (r : Rule) (names : List ByteArray) : Int :=
  if rangeB 0 99 r.rank = false then 12
  else if 4 < r.preds.length then 8
  else if firstErr predErr r.preds ≠ 0 then firstErr predErr r.preds
  else ruleTail r names

set_option maxHeartbeats 400000 in
theorem known_any (names : List ByteArray) (x : ByteArray) (S : Nat → Prop) (A : Option Addr) (c : Nat) (a : Addr) (w : World) (h : strR.sl w S (.slice A names.length c) names) (hm : names.length ≤ maxLen) (hc : w.cell? a = some (.slice A names.length c)) :
    Calls Tryz.prog 93 #[.string x, .pointer (some a)] w fun e w' => e = .returned (.bool (inNames names x)) ∧ w = w' := by
  have HH := Lib.hid h
  have hm' := Lib.hid hm
  clear h hm
  go_enter Tryz.func93, Tryz.ntmps93
  go_wp2_with (go_at_call 94; refine (contains_any _ _ _ _ _ _ HH.out hm'.out).mono ?_; rintro e w' ⟨rfl, rfl⟩)
  go_ret
  exact ⟨rfl, rfl⟩

/-- The boxes of a rule, and of names, in a later world. -/
structure RuleBox (w wr : World) (r : Rule) (v sn : Value) : Prop where
  below : Below w.heap.size w wr
  lt : w.heap.size + 1 < wr.heap.size
  cells : ∀ j u, (r.cells v)[j]? = some u → wr.cell? ⟨w.heap.size, j, none⟩ = some u
  names : wr.cell? ⟨w.heap.size + 1, 0, none⟩ = some sn
theorem RuleBox.next {w wr w1 : World} {r : Rule} {v sn : Value} (h : RuleBox w wr r v sn) (hb : Below wr.heap.size wr w1) : RuleBox w w1 r v sn :=
  ⟨belTrans h.below hb, Nat.lt_of_lt_of_le h.lt hb.size, fun j u hu => (hb.cell (p := ⟨w.heap.size, j, none⟩) (by have := h.lt; show w.heap.size < _; omega)).trans (h.cells j u hu), (hb.cell (p := ⟨w.heap.size + 1, 0, none⟩) h.lt).trans h.names⟩
theorem RuleBox.first (w : World) (r : Rule) (v sn : Value) (t1 t2 : Nat) : RuleBox w ((w.alloc (.cells (r.cells v).toArray t1)).alloc (.cells #[sn] t2)) r v sn := by
  refine ⟨bel (bel (Below.refl _ _) _) _, by simp, fun j u hu => ?_, ?_⟩
  · rw [World.cell?_alloc_past _ _ _ (by simp), World.cell?_alloc_at _ _ _ _ rfl]
    simpa using hu
  · rw [World.cell?_alloc_at _ _ _ _ (by simp)]
    rfl

set_option maxHeartbeats 1000000 in
theorem ruleCheck_any (r : Rule) (names : List ByteArray) (S S' : Nat → Prop) (Ap A : Option Addr) (cp c : Nat) (w : World) (hp : predR.sl w S (.slice Ap r.preds.length cp) r.preds) (hn : strR.sl w S' (.slice A names.length c) names) (hm : names.length ≤ maxLen) (hpm : r.preds.length ≤ maxLen) (hok : r.Ok) :
    Calls Tryz.prog 66 #[.agg #[.int .i64 r.rank, .slice Ap r.preds.length cp, .string r.target, .int .i64 r.abortPct, .int .i64 r.abortStatus, .int .i64 r.delayPct, .int .i64 r.delayTicks, .int .i64 r.mirrorPct, .string r.mirror, .int .i64 r.sample], .slice A names.length c] w fun e w' => e = .returned (.int .i64 (ruleChk r names)) ∧ Below w.heap.size w w' := by
  have HP := Lib.hid hp
  have HN := Lib.hid hn
  have HM := Lib.hid hm
  have HPM := Lib.hid hpm
  have HOK := Lib.hid hok
  clear hp hn hm hpm hok
  cases hr : rangeB 0 99 r.rank
  · go_enter Tryz.func66, Tryz.ntmps66
    go_wp2_with (go_at_call 92; refine (within_any _ _ _ _).mono ?_; rintro e w' ⟨rfl, rfl⟩)
    go_ret
    exact ⟨ret_int (by unfold ruleChk; rw [if_pos hr]), bel (bel (Below.refl _ _) _) _⟩
  by_cases hl : 4 < r.preds.length
  · have hl' : decide (4 < (r.preds.length : Int)) = true := decide_eq_true (by omega)
    go_enter Tryz.func66, Tryz.ntmps66
    go_wp2_with (go_at_call 92; refine (within_any _ _ _ _).mono ?_; rintro e w' ⟨rfl, rfl⟩)
    go_ret
    exact ⟨ret_int (by unfold ruleChk; rw [if_neg (by rw [hr]; simp), if_pos hl]), bel (bel (Below.refl _ _) _) _⟩
  have HE : Hid (ruleChk r names = if firstErr predErr r.preds ≠ 0 then firstErr predErr r.preds else ruleTail r names) := by
    unfold Hid ruleChk; rw [if_neg (by rw [hr]; simp), if_neg hl]
  have hl' : decide (4 < (r.preds.length : Int)) = false := decide_eq_false (by omega)
  go_enter Tryz.func66, Tryz.ntmps66
  go_wp2_with (go_at_call 92; refine (within_any _ _ _ _).mono ?_; rintro e w' ⟨rfl, rfl⟩)
  have HB0 := RuleBox.first w r (.slice Ap r.preds.length cp) (.slice A names.length c) 65 22
  go_loopw [20] (fun i wr => ∃ k : Nat, k ≤ r.preds.length ∧ i = .int .i64 k ∧ Hid (∀ j, j < k → ∀ hj : j < r.preds.length, predErr (r.preds[j]'hj) = 0) ∧ RuleBox w wr r (.slice Ap r.preds.length cp) (.slice A names.length c)) (fun i _ => r.preds.length - (intOf i).toNat)
  case atStart => exact ⟨0, Nat.zero_le _, rfl, by intro j hj; omega, HB0⟩
  case round =>
    obtain ⟨k, hk, rfl, HI, HB⟩ := hrel
    clear HB0
    by_cases hlt : k < r.preds.length
    · obtain ⟨b, o, rfl, hc0, hc1, hc2, hb0, hn1, hn2⟩ := predR_at (Rp.sl_below HP.out HB.below) hlt
      have HN1 := Lib.hid hn1
      have HN2 := Lib.hid hn2
      have HBl := HB.lt
      clear hn1 hn2
      by_cases hq : predErr (r.preds[k]'hlt) = 0
      · have hq' : (predChk (r.preds[k]'hlt).kind (r.preds[k]'hlt).name (r.preds[k]'hlt).value != 0) = false := by have : predChk (r.preds[k]'hlt).kind (r.preds[k]'hlt).name (r.preds[k]'hlt).value = 0 := hq; rw [this]; rfl
        have HQ := Lib.hid hq
        clear hq
        go_wp2_with (go_at_call 58; refine (predCheck_any _ _ _ _ HN1.out HN2.out).mono ?_; rintro e w1 ⟨rfl, hb⟩)
        go_roundw
        case rel =>
          refine ⟨k + 1, by omega, by go_num, ?_, HB.next (belTrans (bel (Below.refl _ _) _) hb)⟩
          intro j hj hl
          by_cases e : j = k
          · subst e; exact HQ.out
          · exact HI.out j (by omega) hl
        case measure => simp [intOf]; omega
      · have hq' : (predChk (r.preds[k]'hlt).kind (r.preds[k]'hlt).name (r.preds[k]'hlt).value != 0) = true := bne_iff_ne.2 hq
        have HQ := Lib.hid (firstErr_hit predErr r.preds k hlt HI.out hq)
        have HQ' := Lib.hid hq
        clear hq
        go_wp2_with (go_at_call 58; refine (predCheck_any _ _ _ _ HN1.out HN2.out).mono ?_; rintro e w1 ⟨rfl, hb⟩)
        go_ret
        exact ⟨ret_int (by rw [HE.out, HQ.out, if_pos HQ'.out]; rfl), belTrans HB.below (belTrans (bel (Below.refl _ _) _) hb)⟩
    · have HQ : Hid (firstErr predErr r.preds = 0) := firstErr_none _ _ fun j hj => HI.out j (by omega) hj
      have HE' : Hid (ruleChk r names = ruleTail r names) := by unfold Hid; rw [HE.out, HQ.out, if_neg (by simp)]
      clear HE HQ HI
      have hcn := HB.names
      have HBl := HB.lt
      have HBl0 : w.heap.size < wr.heap.size := by omega
      have h2 := HB.cells 2 _ rfl
      have h3 := HB.cells 3 _ rfl
      have h4 := HB.cells 4 _ rfl
      have h5 := HB.cells 5 _ rfl
      have h6 := HB.cells 6 _ rfl
      have h7 := HB.cells 7 _ rfl
      have h8 := HB.cells 8 _ rfl
      have h9 := HB.cells 9 _ rfl
      have HNr := Lib.hid (Rp.sl_below HN.out HB.below)
      cases h1 : inNames names r.target
      · have HF : Hid (ruleTail r names = 7) := by unfold Hid ruleTail; simp [h1]
        go_wp2_with (first | (go_at_call 93; refine (known_any names _ _ _ _ _ _ HNr.out HM.out hcn).mono ?_; rintro e w' ⟨rfl, rfl⟩) | (go_at_call 96; refine (sized_any _ _ _ _ _).mono ?_; rintro e w' ⟨rfl, rfl⟩) | (go_at_call 95; refine (parts_any _ _ _ _ (fun _ => True) _ _ _ (intR_four _ _ _ _ _ _ _ trivial HOK.out.abortPct HOK.out.delayPct HOK.out.mirrorPct HOK.out.sample)).mono ?_; rintro e w' ⟨rfl, rfl⟩))
        go_ret
        exact ⟨ret_int (by rw [HE'.out, HF.out]), HB.below⟩
      cases h2 : r.mirror.toList.isEmpty
      · have h2' : ¬ r.mirror.toList = [] := by intro e; rw [e] at h2; simp at h2
        cases h3 : inNames names r.mirror
        · have HF : Hid (ruleTail r names = 7) := by unfold Hid ruleTail; simp [h1, h2, h3]
          go_wp2_with (first | (go_at_call 93; refine (known_any names _ _ _ _ _ _ HNr.out HM.out hcn).mono ?_; rintro e w' ⟨rfl, rfl⟩) | (go_at_call 96; refine (sized_any _ _ _ _ _).mono ?_; rintro e w' ⟨rfl, rfl⟩) | (go_at_call 95; refine (parts_any _ _ _ _ (fun _ => True) _ _ _ (intR_four _ _ _ _ _ _ _ trivial HOK.out.abortPct HOK.out.delayPct HOK.out.mirrorPct HOK.out.sample)).mono ?_; rintro e w' ⟨rfl, rfl⟩))
          go_ret
          exact ⟨ret_int (by rw [HE'.out, HF.out]), HB.below⟩
        cases h4 : allParts r.abortPct r.delayPct r.mirrorPct r.sample
        · have HF : Hid (ruleTail r names = 12) := by unfold Hid ruleTail; simp [h1, h2, h3, h4]
          go_wp2_with (first | (go_at_call 93; refine (known_any names _ _ _ _ _ _ HNr.out HM.out hcn).mono ?_; rintro e w' ⟨rfl, rfl⟩) | (go_at_call 96; refine (sized_any _ _ _ _ _).mono ?_; rintro e w' ⟨rfl, rfl⟩) | (go_at_call 95; refine (parts_any _ _ _ _ (fun _ => True) _ _ _ (intR_four _ _ _ _ _ _ _ trivial HOK.out.abortPct HOK.out.delayPct HOK.out.mirrorPct HOK.out.sample)).mono ?_; rintro e w' ⟨rfl, rfl⟩))
          go_ret
          exact ⟨ret_int (by rw [HE'.out, HF.out]), belTrans HB.below (bel (Below.refl _ _) _)⟩
        cases h5 : sizedB r.abortStatus 400 599 r.abortPct
        · have HF : Hid (ruleTail r names = 12) := by unfold Hid ruleTail; simp [h1, h2, h3, h4, h5]
          go_wp2_with (first | (go_at_call 93; refine (known_any names _ _ _ _ _ _ HNr.out HM.out hcn).mono ?_; rintro e w' ⟨rfl, rfl⟩) | (go_at_call 96; refine (sized_any _ _ _ _ _).mono ?_; rintro e w' ⟨rfl, rfl⟩) | (go_at_call 95; refine (parts_any _ _ _ _ (fun _ => True) _ _ _ (intR_four _ _ _ _ _ _ _ trivial HOK.out.abortPct HOK.out.delayPct HOK.out.mirrorPct HOK.out.sample)).mono ?_; rintro e w' ⟨rfl, rfl⟩))
          go_ret
          exact ⟨ret_int (by rw [HE'.out, HF.out]), belTrans HB.below (bel (Below.refl _ _) _)⟩
        cases h6 : sizedB r.delayTicks 1 50 r.delayPct
        · have HF : Hid (ruleTail r names = 12) := by unfold Hid ruleTail; simp [h1, h2, h3, h4, h5, h6]
          go_wp2_with (first | (go_at_call 93; refine (known_any names _ _ _ _ _ _ HNr.out HM.out hcn).mono ?_; rintro e w' ⟨rfl, rfl⟩) | (go_at_call 96; refine (sized_any _ _ _ _ _).mono ?_; rintro e w' ⟨rfl, rfl⟩) | (go_at_call 95; refine (parts_any _ _ _ _ (fun _ => True) _ _ _ (intR_four _ _ _ _ _ _ _ trivial HOK.out.abortPct HOK.out.delayPct HOK.out.mirrorPct HOK.out.sample)).mono ?_; rintro e w' ⟨rfl, rfl⟩))
          go_ret
          exact ⟨ret_int (by rw [HE'.out, HF.out]), belTrans HB.below (bel (Below.refl _ _) _)⟩
        by_cases h7 : 0 < r.mirrorPct
        · have HF : Hid (ruleTail r names = 0) := by unfold Hid ruleTail; simp [h1, h2, h3, h4, h5, h6]
          go_wp2_with (first | (go_at_call 93; refine (known_any names _ _ _ _ _ _ HNr.out HM.out hcn).mono ?_; rintro e w' ⟨rfl, rfl⟩) | (go_at_call 96; refine (sized_any _ _ _ _ _).mono ?_; rintro e w' ⟨rfl, rfl⟩) | (go_at_call 95; refine (parts_any _ _ _ _ (fun _ => True) _ _ _ (intR_four _ _ _ _ _ _ _ trivial HOK.out.abortPct HOK.out.delayPct HOK.out.mirrorPct HOK.out.sample)).mono ?_; rintro e w' ⟨rfl, rfl⟩))
          go_ret
          exact ⟨ret_int (by rw [HE'.out, HF.out]), belTrans HB.below (bel (Below.refl _ _) _)⟩
        · have HF : Hid (ruleTail r names = 0) := by unfold Hid ruleTail; simp [h1, h2, h3, h4, h5, h6]
          go_wp2_with (first | (go_at_call 93; refine (known_any names _ _ _ _ _ _ HNr.out HM.out hcn).mono ?_; rintro e w' ⟨rfl, rfl⟩) | (go_at_call 96; refine (sized_any _ _ _ _ _).mono ?_; rintro e w' ⟨rfl, rfl⟩) | (go_at_call 95; refine (parts_any _ _ _ _ (fun _ => True) _ _ _ (intR_four _ _ _ _ _ _ _ trivial HOK.out.abortPct HOK.out.delayPct HOK.out.mirrorPct HOK.out.sample)).mono ?_; rintro e w' ⟨rfl, rfl⟩))
          go_ret
          exact ⟨ret_int (by rw [HE'.out, HF.out]), belTrans HB.below (bel (Below.refl _ _) _)⟩
      · have h2' : r.mirror.toList = [] := by simpa using h2
        cases h4 : allParts r.abortPct r.delayPct r.mirrorPct r.sample
        · have HF : Hid (ruleTail r names = 12) := by unfold Hid ruleTail; simp [h1, h2, h4]
          go_wp2_with (first | (go_at_call 93; refine (known_any names _ _ _ _ _ _ HNr.out HM.out hcn).mono ?_; rintro e w' ⟨rfl, rfl⟩) | (go_at_call 96; refine (sized_any _ _ _ _ _).mono ?_; rintro e w' ⟨rfl, rfl⟩) | (go_at_call 95; refine (parts_any _ _ _ _ (fun _ => True) _ _ _ (intR_four _ _ _ _ _ _ _ trivial HOK.out.abortPct HOK.out.delayPct HOK.out.mirrorPct HOK.out.sample)).mono ?_; rintro e w' ⟨rfl, rfl⟩))
          go_ret
          exact ⟨ret_int (by rw [HE'.out, HF.out]), belTrans HB.below (bel (Below.refl _ _) _)⟩
        cases h5 : sizedB r.abortStatus 400 599 r.abortPct
        · have HF : Hid (ruleTail r names = 12) := by unfold Hid ruleTail; simp [h1, h2, h4, h5]
          go_wp2_with (first | (go_at_call 93; refine (known_any names _ _ _ _ _ _ HNr.out HM.out hcn).mono ?_; rintro e w' ⟨rfl, rfl⟩) | (go_at_call 96; refine (sized_any _ _ _ _ _).mono ?_; rintro e w' ⟨rfl, rfl⟩) | (go_at_call 95; refine (parts_any _ _ _ _ (fun _ => True) _ _ _ (intR_four _ _ _ _ _ _ _ trivial HOK.out.abortPct HOK.out.delayPct HOK.out.mirrorPct HOK.out.sample)).mono ?_; rintro e w' ⟨rfl, rfl⟩))
          go_ret
          exact ⟨ret_int (by rw [HE'.out, HF.out]), belTrans HB.below (bel (Below.refl _ _) _)⟩
        cases h6 : sizedB r.delayTicks 1 50 r.delayPct
        · have HF : Hid (ruleTail r names = 12) := by unfold Hid ruleTail; simp [h1, h2, h4, h5, h6]
          go_wp2_with (first | (go_at_call 93; refine (known_any names _ _ _ _ _ _ HNr.out HM.out hcn).mono ?_; rintro e w' ⟨rfl, rfl⟩) | (go_at_call 96; refine (sized_any _ _ _ _ _).mono ?_; rintro e w' ⟨rfl, rfl⟩) | (go_at_call 95; refine (parts_any _ _ _ _ (fun _ => True) _ _ _ (intR_four _ _ _ _ _ _ _ trivial HOK.out.abortPct HOK.out.delayPct HOK.out.mirrorPct HOK.out.sample)).mono ?_; rintro e w' ⟨rfl, rfl⟩))
          go_ret
          exact ⟨ret_int (by rw [HE'.out, HF.out]), belTrans HB.below (bel (Below.refl _ _) _)⟩
        by_cases h7 : 0 < r.mirrorPct
        · have HF : Hid (ruleTail r names = 9) := by unfold Hid ruleTail; simp [h1, h2, h4, h5, h6, h7]
          go_wp2_with (first | (go_at_call 93; refine (known_any names _ _ _ _ _ _ HNr.out HM.out hcn).mono ?_; rintro e w' ⟨rfl, rfl⟩) | (go_at_call 96; refine (sized_any _ _ _ _ _).mono ?_; rintro e w' ⟨rfl, rfl⟩) | (go_at_call 95; refine (parts_any _ _ _ _ (fun _ => True) _ _ _ (intR_four _ _ _ _ _ _ _ trivial HOK.out.abortPct HOK.out.delayPct HOK.out.mirrorPct HOK.out.sample)).mono ?_; rintro e w' ⟨rfl, rfl⟩))
          go_ret
          exact ⟨ret_int (by rw [HE'.out, HF.out]), belTrans HB.below (bel (Below.refl _ _) _)⟩
        · have HF : Hid (ruleTail r names = 0) := by unfold Hid ruleTail; simp [h1, h2, h4, h5, h6, h7]
          go_wp2_with (first | (go_at_call 93; refine (known_any names _ _ _ _ _ _ HNr.out HM.out hcn).mono ?_; rintro e w' ⟨rfl, rfl⟩) | (go_at_call 96; refine (sized_any _ _ _ _ _).mono ?_; rintro e w' ⟨rfl, rfl⟩) | (go_at_call 95; refine (parts_any _ _ _ _ (fun _ => True) _ _ _ (intR_four _ _ _ _ _ _ _ trivial HOK.out.abortPct HOK.out.delayPct HOK.out.mirrorPct HOK.out.sample)).mono ?_; rintro e w' ⟨rfl, rfl⟩))
          go_ret
          exact ⟨ret_int (by rw [HE'.out, HF.out]), belTrans HB.below (bel (Below.refl _ _) _)⟩
end Go.Proofs.YtnbgfpcpfknjoaaGreatDoor
