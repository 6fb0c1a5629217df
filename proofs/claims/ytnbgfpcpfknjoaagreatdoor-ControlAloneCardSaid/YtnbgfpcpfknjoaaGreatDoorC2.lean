/- conf.one, conf.Check. -/
import Derived.Test.YtnbgfpcpfknjoaaGreatDoorC1
namespace Go.Proofs.YtnbgfpcpfknjoaaGreatDoor
set_option linter.all false
open Go.RowKit

theorem nums_cell (w : World) (t : Nat) (r : Rule) (k : Nat) (hk : k < 7) :
    (w.alloc (.cells #[.int .i64 r.rank, .int .i64 r.abortPct, .int .i64 r.abortStatus, .int .i64 r.delayPct, .int .i64 r.delayTicks, .int .i64 r.mirrorPct, .int .i64 r.sample] t)).cell? ⟨w.heap.size, k, none⟩ = some (.int .i64 ((confNums r).getD k 0)) := by
  rw [World.cell?_alloc_at _ _ _ _ rfl]
  rcases k with _ | _ | _ | _ | _ | _ | _ | k <;> first | rfl | omega

theorem numBad_no (n : Int) (h : numBad n = 0) : decide (n < 0) = false ∧ decide (999999 < n) = false := by
  unfold numBad at h
  split at h
  · omega
  · exact ⟨decide_eq_false (by omega), decide_eq_false (by omega)⟩

set_option maxHeartbeats 1000000 in
theorem confOne_any (r : Rule) (S : Nat → Prop) (Ap : Option Addr) (cp : Nat) (w : World) (hp : predR.sl w S (.slice Ap r.preds.length cp) r.preds) (hok : r.Ok) :
    Calls Tryz.prog 38 #[.agg #[.int .i64 r.rank, .slice Ap r.preds.length cp, .string r.target, .int .i64 r.abortPct, .int .i64 r.abortStatus, .int .i64 r.delayPct, .int .i64 r.delayTicks, .int .i64 r.mirrorPct, .string r.mirror, .int .i64 r.sample]] w fun e w' => e = .returned (.int .i64 (confOne r)) ∧ Below w.heap.size w w' := by
  have HP := Lib.hid hp
  have HPM := (Rp.sl_len hp).2
  unfold maxLen at HPM
  have HT := Lib.hid hok.target
  have HM := Lib.hid hok.mirror
  clear hp hok
  by_cases hl : 4 < r.preds.length
  · have hl' : decide (4 < (r.preds.length : Int)) = true := decide_eq_true (by omega)
    go_enter Tryz.func38, Tryz.ntmps38
    go_wp2
    go_ret
    exact ⟨ret_int (by unfold confOne; rw [if_pos hl]), bel (Below.refl _ _) _⟩
  have HE : Hid (confOne r = if firstErr predErr r.preds ≠ 0 then firstErr predErr r.preds else if confNames r = false then 7 else firstErr numBad (confNums r)) := by
    unfold Hid confOne; rw [if_neg hl]
  have hl' : decide (4 < (r.preds.length : Int)) = false := decide_eq_false (by omega)
  go_enter Tryz.func38, Tryz.ntmps38
  go_wp2
  have HB0 := Bx.made (w := w) (Below.refl _ w) (k := 0) rfl (r.cells (.slice Ap r.preds.length cp)) 65
  go_loopw [15] (fun i wr => ∃ k : Nat, k ≤ r.preds.length ∧ i = .int .i64 k ∧ Hid (∀ j, j < k → ∀ hj : j < r.preds.length, predErr (r.preds[j]'hj) = 0) ∧ Bx w wr 0 (r.cells (.slice Ap r.preds.length cp))) (fun i _ => r.preds.length - (intOf i).toNat)
  case atStart => exact ⟨0, Nat.zero_le _, rfl, by intro j hj; omega, HB0⟩
  case round =>
    obtain ⟨k, hk, rfl, HI, HB⟩ := hrel
    clear HB0
    by_cases hlt : k < r.preds.length
    · obtain ⟨b, o, rfl, hc0, hc1, hc2, hb0, hn1, hn2⟩ := predR_at (Rp.sl_below HP.out HB.below) hlt
      have HN1 := Lib.hid hn1
      have HN2 := Lib.hid hn2
      have HBl := HB.lt0
      clear hn1 hn2
      by_cases hq : predErr (r.preds[k]'hlt) = 0
      · have hq' : (predChk (r.preds[k]'hlt).kind (r.preds[k]'hlt).name (r.preds[k]'hlt).value != 0) = false := by have : predChk (r.preds[k]'hlt).kind (r.preds[k]'hlt).name (r.preds[k]'hlt).value = 0 := hq; rw [this]; rfl
        have HQ := Lib.hid hq
        clear hq
        go_wp2_with (go_at_call 58; refine (predCheck_any _ _ _ _ HN1.out HN2.out).mono ?_; rintro e w1 ⟨rfl, hb⟩)
        go_roundw
        case rel =>
          refine ⟨k + 1, by omega, by go_num, ?_, HB.next (belTrans (bel (Below.refl _ _) _) hb)⟩
          intro j hj hl
          by_cases e : j = k
          · subst e; exact HQ.out
          · exact HI.out j (by omega) hl
        case measure => simp [intOf]; omega
      · have hq' : (predChk (r.preds[k]'hlt).kind (r.preds[k]'hlt).name (r.preds[k]'hlt).value != 0) = true := bne_iff_ne.2 hq
        have HQ := Lib.hid (firstErr_hit predErr r.preds k hlt HI.out hq)
        have HQ' := Lib.hid hq
        clear hq
        go_wp2_with (go_at_call 58; refine (predCheck_any _ _ _ _ HN1.out HN2.out).mono ?_; rintro e w1 ⟨rfl, hb⟩)
        go_ret
        exact ⟨ret_int (by rw [HE.out, HQ.out, if_pos HQ'.out]; rfl), belTrans HB.below (belTrans (bel (Below.refl _ _) _) hb)⟩
    · have HQ : Hid (firstErr predErr r.preds = 0) := firstErr_none _ _ fun j hj => HI.out j (by omega) hj
      have HE' : Hid (confOne r = if confNames r = false then 7 else firstErr numBad (confNums r)) := by unfold Hid; rw [HE.out, HQ.out, if_neg (by simp)]
      clear HE HQ HI
      have h0 := HB.at0 0 _ rfl
      have h1 := HB.at0 1 _ rfl
      have h2 := HB.at0 2 _ rfl
      have h3 := HB.at0 3 _ rfl
      have h4 := HB.at0 4 _ rfl
      have h5 := HB.at0 5 _ rfl
      have h6 := HB.at0 6 _ rfl
      have h7 := HB.at0 7 _ rfl
      have h8 := HB.at0 8 _ rfl
      have h9 := HB.at0 9 _ rfl
      have HBl := HB.lt0
      cases hn : confNames r
      · go_wp2_with (go_at_call 59; refine (confNames_any _ _ _ HT.out HM.out).mono ?_; rintro e w1 ⟨rfl, hb⟩)
        go_ret
        exact ⟨ret_int (by rw [HE'.out, if_pos hn]), belTrans HB.below hb⟩
      · have HN : Hid (confOne r = firstErr numBad (confNums r)) := by unfold Hid; rw [HE'.out, if_neg (by rw [hn]; simp)]
        clear HE'
        go_wp2_with fail
        refine (confNames_any _ _ _ HT.out HM.out).mono ?_
        rintro e w1 ⟨rfl, hb⟩
        have HB1 := HB.next hb
        clear h0 h1 h2 h3 h4 h5 h6 h7 h8 h9
        have h0 := HB1.at0 0 _ rfl
        have h3 := HB1.at0 3 _ rfl
        have h4 := HB1.at0 4 _ rfl
        have h5 := HB1.at0 5 _ rfl
        have h6 := HB1.at0 6 _ rfl
        have h7 := HB1.at0 7 _ rfl
        have h9 := HB1.at0 9 _ rfl
        have HBl1 := HB1.lt0
        go_wp2
        have HBE := HB1.below
        clear h0 h3 h4 h5 h6 h7 h9 HB1 HB
        go_loop [44] (fun i => ∃ k : Nat, k ≤ 7 ∧ i = .int .i64 k ∧ Hid (∀ j, j < k → ∀ hj : j < (confNums r).length, numBad ((confNums r)[j]'hj) = 0)) (fun i => 7 - (intOf i).toNat)
        case atStart => exact ⟨0, Nat.zero_le _, rfl, by intro j hj; omega⟩
        case round =>
          obtain ⟨k, hk, rfl, HI⟩ := hrel
          by_cases hlt : k < 7
          · have hg := Lib.hid (show (confNums r).getD k 0 = (confNums r)[k]'hlt by rw [List.getD_eq_getElem?_getD, List.getElem?_eq_getElem (show k < (confNums r).length from hlt)]; rfl)
            have hc := nums_cell w1 3 r k hlt
            by_cases hq : numBad ((confNums r)[k]'hlt) = 0
            · have hq1 := (numBad_no _ (show numBad ((confNums r).getD k 0) = 0 by rw [hg.out]; exact hq)).1
              have hq2 := (numBad_no _ (show numBad ((confNums r).getD k 0) = 0 by rw [hg.out]; exact hq)).2
              have HQ := Lib.hid hq
              clear hq
              generalize (confNums r).getD k 0 = g at hc hq1 hq2 hg
              go_wp2
              go_round
              case rel =>
                refine ⟨k + 1, by omega, by go_num, ?_⟩
                intro j hj hl
                by_cases e : j = k
                · subst e; exact HQ.out
                · exact HI.out j (by omega) hl
              case measure => simp [intOf]; omega
            · have HQ := Lib.hid (firstErr_hit numBad (confNums r) k hlt HI.out hq)
              have h12 : Hid (numBad ((confNums r)[k]'hlt) = 12) := by
                unfold Hid; unfold numBad at hq ⊢
                split at hq
                · rw [if_pos (by assumption)]
                · exact absurd rfl hq
              have hb12 : (confNums r).getD k 0 < 0 ∨ 999999 < (confNums r).getD k 0 := by
                rw [hg.out]; unfold numBad at hq; split at hq
                · assumption
                · exact absurd rfl hq
              clear hq
              generalize (confNums r).getD k 0 = g at hc hg hb12
              by_cases hg0 : g < 0
              · have e1 : decide (g < 0) = true := decide_eq_true hg0
                clear hb12
                go_wp2
                go_ret
                exact ⟨ret_int (by rw [HN.out, HQ.out, h12.out]), bel HBE _⟩
              · have e1 : decide (g < 0) = false := decide_eq_false hg0
                have e2 : decide (999999 < g) = true := decide_eq_true (by omega)
                clear hb12
                go_wp2
                go_ret
                exact ⟨ret_int (by rw [HN.out, HQ.out, h12.out]), bel HBE _⟩
          · have HQ : Hid (firstErr numBad (confNums r) = 0) := firstErr_none _ _ fun j hj => HI.out j (by have : j < 7 := hj; omega) hj
            go_wp2
            go_ret
            exact ⟨ret_int (by rw [HN.out, HQ.out]), bel HBE _⟩

set_option maxHeartbeats 1000000 in
theorem confCheck_any (rules : List Rule) (f : ByteArray) (S : Nat → Prop) (Ar : Option Addr) (cr : Nat) (w : World) (hr : ruleR.sl w S (.slice Ar rules.length cr) rules) (hf : f.size ≤ maxLen) :
    Calls Tryz.prog 19 #[.agg #[.slice Ar rules.length cr, .string f]] w fun e w' => e = .returned (.int .i64 (cfgChk confOne rules f)) ∧ Below w.heap.size w w' := by
  have HR := Lib.hid hr
  have HF := Lib.hid hf
  have HM := (Rp.sl_len hr).2
  unfold maxLen at HM
  clear hr hf
  cases hp : formatOk f
  · go_enter Tryz.func19, Tryz.ntmps19
    go_wp2_with (go_at_call 37; refine (cprintable_any _ _ HF.out).mono ?_; rintro e w' ⟨rfl, rfl⟩)
    go_ret
    exact ⟨ret_int (by unfold cfgChk; rw [if_pos hp]), bel (Below.refl _ _) _⟩
  by_cases hl : 16 < rules.length
  · have hl' : decide (16 < (rules.length : Int)) = true := decide_eq_true (by omega)
    go_enter Tryz.func19, Tryz.ntmps19
    go_wp2_with (go_at_call 37; refine (cprintable_any _ _ HF.out).mono ?_; rintro e w' ⟨rfl, rfl⟩)
    go_ret
    exact ⟨ret_int (by unfold cfgChk; rw [if_neg (by rw [hp]; simp), if_pos hl]), bel (Below.refl _ _) _⟩
  have hl' : decide (16 < (rules.length : Int)) = false := decide_eq_false (by omega)
  have HE : Hid (cfgChk confOne rules f = firstErr confOne rules) := by unfold Hid cfgChk; rw [if_neg (by rw [hp]; simp), if_neg hl]
  go_enter Tryz.func19, Tryz.ntmps19
  go_wp2_with (go_at_call 37; refine (cprintable_any _ _ HF.out).mono ?_; rintro e w' ⟨rfl, rfl⟩)
  have HB0 := Bx.made (w := w) (Below.refl _ w) (k := 0) rfl [.slice Ar rules.length cr, .string f] 40
  go_loopw [19] (fun i wr => ∃ k : Nat, k ≤ rules.length ∧ i = .int .i64 k ∧ Hid (∀ j, j < k → ∀ hj : j < rules.length, confOne (rules[j]'hj) = 0) ∧ Bx w wr 0 [.slice Ar rules.length cr, .string f]) (fun i _ => rules.length - (intOf i).toNat)
  case atStart => exact ⟨0, Nat.zero_le _, rfl, by intro j hj; omega, HB0⟩
  case round =>
    obtain ⟨k, hk, rfl, HI, HB⟩ := hrel
    clear HB0
    by_cases hlt : k < rules.length
    · obtain ⟨b, o, Ap, cp, rfl, hb0, hcs, hps, hok⟩ := ruleR_at (Rp.sl_below HR.out HB.below) hlt
      have HPS := Lib.hid hps
      have HOK := Lib.hid hok
      have c0 := hcs 0 _ rfl
      have c1 := hcs 1 _ rfl
      have c2 := hcs 2 _ rfl
      have c3 := hcs 3 _ rfl
      have c4 := hcs 4 _ rfl
      have c5 := hcs 5 _ rfl
      have c6 := hcs 6 _ rfl
      have c7 := hcs 7 _ rfl
      have c8 := hcs 8 _ rfl
      have c9 := hcs 9 _ rfl
      rw [Nat.add_zero] at c0
      have HBl := HB.lt0
      clear hps hok hcs
      by_cases hq : confOne (rules[k]'hlt) = 0
      · have hq' : (confOne (rules[k]'hlt) != 0) = false := by have : confOne (rules[k]'hlt) = 0 := hq; rw [this]; rfl
        have HQ := Lib.hid hq
        clear hq
        go_wp2_with (go_at_call 38; refine (confOne_any _ _ _ _ _ (Rp.sl_alloc HPS.out _) HOK.out).mono ?_; rintro e w1 ⟨rfl, hb⟩)
        go_roundw
        case rel =>
          refine ⟨k + 1, by omega, by go_num, ?_, HB.next (belTrans (bel (Below.refl _ _) _) hb)⟩
          intro j hj hl
          by_cases e : j = k
          · subst e; exact HQ.out
          · exact HI.out j (by omega) hl
        case measure => simp [intOf]; omega
      · have hq' : (confOne (rules[k]'hlt) != 0) = true := bne_iff_ne.2 hq
        have HQ := Lib.hid (firstErr_hit confOne rules k hlt HI.out hq)
        clear hq
        go_wp2_with (go_at_call 38; refine (confOne_any _ _ _ _ _ (Rp.sl_alloc HPS.out _) HOK.out).mono ?_; rintro e w1 ⟨rfl, hb⟩)
        go_ret
        exact ⟨ret_int (by rw [HE.out, HQ.out]), belTrans HB.below (belTrans (bel (Below.refl _ _) _) hb)⟩
    · have HQ : Hid (firstErr confOne rules = 0) := firstErr_none _ _ fun j hj => HI.out j (by omega) hj
      go_wp2
      go_ret
      exact ⟨ret_int (by rw [HE.out, HQ.out]), HB.below⟩

end Go.Proofs.YtnbgfpcpfknjoaaGreatDoor
