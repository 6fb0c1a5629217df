/- The references: whether lists of rules, tables are alike; whether a table may be. -/
import Derived.Test.YtnbgfpcpfknjoaaGreatDoorG3
import Derived.Test.YtnbgfpcpfknjoaaGreatDoorG2
import Derived.Test.YtnbgfpcpfknjoaaGreatDoorB7
namespace Go.Proofs.YtnbgfpcpfknjoaaGreatDoor
set_option linter.all false
open Go.RowKit

/-- The cells of the rule at a place, and its predicates. -/
structure RuleCells (w : World) (S : Nat → Prop) (b o k : Nat) (r : Rule) (Ap : Option Addr) (cp : Nat) : Prop where
  c0 : w.cell? ⟨b, o + k * 10, none⟩ = some (.int .i64 r.rank)
  c1 : w.cell? ⟨b, o + k * 10 + 1, none⟩ = some (.slice Ap r.preds.length cp)
  c2 : w.cell? ⟨b, o + k * 10 + 2, none⟩ = some (.string r.target)
  c3 : w.cell? ⟨b, o + k * 10 + 3, none⟩ = some (.int .i64 r.abortPct)
  c4 : w.cell? ⟨b, o + k * 10 + 4, none⟩ = some (.int .i64 r.abortStatus)
  c5 : w.cell? ⟨b, o + k * 10 + 5, none⟩ = some (.int .i64 r.delayPct)
  c6 : w.cell? ⟨b, o + k * 10 + 6, none⟩ = some (.int .i64 r.delayTicks)
  c7 : w.cell? ⟨b, o + k * 10 + 7, none⟩ = some (.int .i64 r.mirrorPct)
  c8 : w.cell? ⟨b, o + k * 10 + 8, none⟩ = some (.string r.mirror)
  c9 : w.cell? ⟨b, o + k * 10 + 9, none⟩ = some (.int .i64 r.sample)
  pr : predR.sl w S (.slice Ap r.preds.length cp) r.preds
  ok : r.Ok
theorem RuleCells.of {w : World} {S : Nat → Prop} {A : Option Addr} {n c : Nat} {xs : List Rule} (h : ruleR.sl w S (.slice A n c) xs) {i : Nat} (hi : i < xs.length) :
    ∃ b o Ap cp, A = some ⟨b, o, none⟩ ∧ b < w.heap.size ∧ RuleCells w S b o i (xs[i]'hi) Ap cp := by
  obtain ⟨b, o, Ap, cp, hA, hlt, hc, hp, hok⟩ := ruleR_at h hi
  exact ⟨b, o, Ap, cp, hA, hlt, hc 0 _ rfl, hc 1 _ rfl, hc 2 _ rfl, hc 3 _ rfl, hc 4 _ rfl, hc 5 _ rfl, hc 6 _ rfl, hc 7 _ rfl, hc 8 _ rfl, hc 9 _ rfl, hp, hok⟩

set_option maxRecDepth 100000 in
set_option maxHeartbeats 4000000 in
theorem rulesSame_any (xs ys : List Rule) (S S' : Nat → Prop) (A B : Option Addr) (c d : Nat) (w : World) (hx : ruleR.sl w S (.slice A xs.length c) xs) (hy : ruleR.sl w S' (.slice B ys.length d) ys) :
    Calls Tryz.prog 31 #[.slice A xs.length c, .slice B ys.length d] w fun e w' => e = .returned (.bool (decide (xs = ys))) ∧ Below w.heap.size w w' := by
  have HX := Lib.hid hx
  have HY := Lib.hid hy
  have hm := Rp.sl_lenv hx
  have hm2 := Rp.sl_lenv hy
  unfold maxLen at hm hm2
  clear hx hy
  by_cases hl : xs.length = ys.length
  · have hl' : ((xs.length : Int) != (ys.length : Int)) = false := by rw [bne_eq_false_iff_eq]; omega
    have HL := Lib.hid hl
    have hle : xs.length ≤ ys.length := by omega
    clear hl
    go_enter Tryz.func31, Tryz.ntmps31
    go_wp2
    go_loopw [5] (fun i wr => ∃ k : Nat, k ≤ xs.length ∧ i = .int .i64 k ∧ Hid (∀ j, j < k → ∀ hj : j < xs.length, ∀ hk : j < ys.length, xs[j]'hj = ys[j]'hk) ∧ Hid (Below w.heap.size w wr)) (fun i _ => xs.length - (intOf i).toNat)
    case atStart => exact ⟨0, Nat.zero_le _, rfl, (fun j hj => by omega), Below.refl _ _⟩
    case round =>
      obtain ⟨k, hk, rfl, HI, HB⟩ := hrel
      by_cases hlt : k < xs.length
      · have hlt2 : k < ys.length := by omega
        obtain ⟨b, o, Ap, cp, rfl, hb, hcx⟩ := RuleCells.of (Rp.sl_below HX.out HB.out) hlt
        obtain ⟨b', o', Bp, dp, rfl, hb', hcy⟩ := RuleCells.of (Rp.sl_below HY.out HB.out) hlt2
        have x0 := hcx.c0
        have x1 := hcx.c1
        have x2 := hcx.c2
        have x3 := hcx.c3
        have x4 := hcx.c4
        have x5 := hcx.c5
        have x6 := hcx.c6
        have x7 := hcx.c7
        have x8 := hcx.c8
        have x9 := hcx.c9
        have y0 := hcy.c0
        have y1 := hcy.c1
        have y2 := hcy.c2
        have y3 := hcy.c3
        have y4 := hcy.c4
        have y5 := hcy.c5
        have y6 := hcy.c6
        have y7 := hcy.c7
        have y8 := hcy.c8
        have y9 := hcy.c9
        have HXP := Lib.hid hcx.pr
        have HYP := Lib.hid hcy.pr
        clear hcx hcy
        have k0 : (0 : Int) ≤ (k : Int) := by omega
        have k1 : (k : Int) < (xs.length : Int) := by omega
        have k2 : (k : Int) < (ys.length : Int) := by omega
        by_cases hq : xs[k]'hlt = ys[k]'hlt2
        · have hd := Lib.hid (decide_eq_true hq)
          have HQ := Lib.hid hq
          clear hq
          go_wp2_with fail
          go_region_with (go_at_call 49; refine (one_any (xs[k]'hlt) (ys[k]'hlt2) _ _ _ _ _ _ _ (Rp.sl_below HXP.out (by repeat first | exact Below.refl _ _ | refine belDrew ?_)) (Rp.sl_below HYP.out (by repeat first | exact Below.refl _ _ | refine belDrew ?_))).mono ?_; rintro e w1 ⟨rfl, hb1⟩; rw [hd.out])
          all_goals
            have HB1 : Hid (Below w.heap.size w w1) := belTrans HB.out (belTrans (by repeat first | exact Below.refl _ _ | refine belDrew ?_) hb1)
            clear hb1 x0 x1 x2 x3 x4 x5 x6 x7 x8 x9 y0 y1 y2 y3 y4 y5 y6 y7 y8 y9
            go_wp2
            go_roundw
            case rel =>
              refine ⟨k + 1, by omega, by go_num, ?_, HB1⟩
              intro j hj h1 h2
              by_cases e : j = k
              · subst e; exact HQ.out
              · exact HI.out j (by omega) h1 h2
            case measure => simp [intOf]; omega
        · have hd := Lib.hid (decide_eq_false hq)
          have HN : Hid (decide (xs = ys) = false) := decide_eq_false fun e => hq (by subst e; rfl)
          clear hq
          go_wp2_with fail
          go_region_with (go_at_call 49; refine (one_any (xs[k]'hlt) (ys[k]'hlt2) _ _ _ _ _ _ _ (Rp.sl_below HXP.out (by repeat first | exact Below.refl _ _ | refine belDrew ?_)) (Rp.sl_below HYP.out (by repeat first | exact Below.refl _ _ | refine belDrew ?_))).mono ?_; rintro e w1 ⟨rfl, hb1⟩; rw [hd.out])
          all_goals
            have HB1 : Hid (Below w.heap.size w w1) := belTrans HB.out (belTrans (by repeat first | exact Below.refl _ _ | refine belDrew ?_) hb1)
            clear hb1 x0 x1 x2 x3 x4 x5 x6 x7 x8 x9 y0 y1 y2 y3 y4 y5 y6 y7 y8 y9
            go_wp2
            go_ret
            exact ⟨ret_bool HN.out.symm, HB1.out⟩
      · have HN : Hid (decide (xs = ys) = true) := decide_eq_true (eq_of_get HL.out fun j hj hk => HI.out j (by omega) hj hk)
        go_wp2
        go_ret
        exact ⟨ret_bool HN.out.symm, HB.out⟩
  · have hl' : ((xs.length : Int) != (ys.length : Int)) = true := by rw [bne_iff_ne]; omega
    have HN : Hid (decide (xs = ys) = false) := decide_eq_false fun e => hl (by rw [e])
    clear hl
    go_enter Tryz.func31, Tryz.ntmps31
    go_wp2
    go_ret
    exact ⟨ret_bool HN.out.symm, Below.refl _ _⟩

theorem tab_eq {a b : Tab} : a = b ↔ a.version = b.version ∧ a.rules = b.rules ∧ a.format = b.format := by
  obtain ⟨⟩ := a
  obtain ⟨⟩ := b
  simp
set_option maxRecDepth 100000 in
set_option maxHeartbeats 4000000 in
theorem tabSame_any (a b : Tab) (S S' : Nat → Prop) (A B : Option Addr) (c d : Nat) (w : World) (hx : ruleR.sl w S (.slice A a.rules.length c) a.rules) (hy : ruleR.sl w S' (.slice B b.rules.length d) b.rules) :
    Calls Tryz.prog 12 #[.agg #[.int .i64 a.version, .slice A a.rules.length c, .string a.format], .agg #[.int .i64 b.version, .slice B b.rules.length d, .string b.format]] w fun e w' => e = .returned (.bool (decide (a = b))) ∧ Below w.heap.size w w' := by
  have HX := Lib.hid hx
  have HY := Lib.hid hy
  clear hx hy
  by_cases h0 : a.version = b.version
  · have h0' : (a.version == b.version) = true := beq_iff_eq.2 h0
    by_cases h1 : a.format = b.format
    · have h1' : (a.format.toList == b.format.toList) = true := by rw [toList_beq]; exact decide_eq_true h1
      have HF : Hid (decide (a = b) = decide (a.rules = b.rules)) := by unfold Hid; rw [decide_eq_decide, tab_eq]; exact ⟨fun h => h.2.1, fun h => ⟨h0, h, h1⟩⟩
      clear h0 h1
      go_enter Tryz.func12, Tryz.ntmps12
      go_wp2_with fail
      refine (rulesSame_any a.rules b.rules S S' A B c d _ (Rp.sl_below HX.out (bel (bel (Below.refl _ _) _) _)) (Rp.sl_below HY.out (bel (bel (Below.refl _ _) _) _))).mono ?_
      rintro e w1 ⟨rfl, hb⟩
      have HB : Hid (Below w.heap.size w w1) := belTrans (bel (bel (Below.refl _ _) _) _) hb
      clear hb
      go_wp2
      go_ret
      exact ⟨ret_bool HF.out.symm, HB.out⟩
    · have h1' : (a.format.toList == b.format.toList) = false := by rw [toList_beq]; exact decide_eq_false h1
      have HF : Hid (decide (a = b) = false) := decide_eq_false fun e => h1 (by rw [e])
      clear h0 h1
      go_enter Tryz.func12, Tryz.ntmps12
      go_wp2
      go_ret
      exact ⟨ret_bool HF.out.symm, bel (bel (Below.refl _ _) _) _⟩
  · have h0' : (a.version == b.version) = false := beq_eq_false_iff_ne.2 h0
    have HF : Hid (decide (a = b) = false) := decide_eq_false fun e => h0 (by rw [e])
    clear h0
    go_enter Tryz.func12, Tryz.ntmps12
    go_wp2
    go_ret
    exact ⟨ret_bool HF.out.symm, bel (bel (Below.refl _ _) _) _⟩

set_option maxRecDepth 100000 in
set_option maxHeartbeats 4000000 in
theorem refTable_any (rules : List Rule) (f : ByteArray) (names : List ByteArray) (Sn : Nat → Prop) (An : Option Addr) (cn : Nat) (S : Nat → Prop) (Ar : Option Addr) (cr : Nat) (w : World) (hr : ruleR.sl w S (.slice Ar rules.length cr) rules) (hf : f.size ≤ maxLen) (HN : Hid (strR.sl w Sn (.slice An names.length cn) names)) :
    Calls Tryz.prog 47 #[.agg #[.slice Ar rules.length cr, .string f], .slice An names.length cn] w fun e w' => e = .returned (.int .i64 (tabErr rules f names)) ∧ Below w.heap.size w w' := by
  have HR := Lib.hid hr
  have HF := Lib.hid hf
  have hm := Rp.sl_lenv hr
  unfold maxLen at hm
  clear hr hf
  cases hfo : formatOk f
  · have HX : Hid (tabErr rules f names = 15) := by unfold Hid tabErr cfgChk; rw [if_pos hfo]
    have HFO := Lib.hid hfo
    clear hfo
    go_enter Tryz.func47, Tryz.ntmps47
    go_wp2_with fail
    refine (refFormat_any f _ HF.out).mono ?_
    rintro e w' ⟨rfl, rfl⟩
    rw [HFO.out]
    go_wp2
    go_ret
    exact ⟨ret_int HX.out.symm, bel (Below.refl _ _) _⟩
  have HFO := Lib.hid hfo
  clear hfo
  by_cases hl : 16 < rules.length
  · have hl' : decide (16 < (rules.length : Int)) = true := decide_eq_true (by omega)
    have HX : Hid (tabErr rules f names = 8) := by unfold Hid tabErr cfgChk; rw [if_neg (by rw [HFO.out]; decide), if_pos hl]
    go_enter Tryz.func47, Tryz.ntmps47
    go_wp2_with fail
    refine (refFormat_any f _ HF.out).mono ?_
    rintro e w' ⟨rfl, rfl⟩
    rw [HFO.out]
    go_wp2
    go_ret
    exact ⟨ret_int HX.out.symm, bel (Below.refl _ _) _⟩
  have hl' : decide (16 < (rules.length : Int)) = false := decide_eq_false (by omega)
  have HE : Hid (tabErr rules f names = firstErr (fun r => ruleChk r names) rules) := by unfold Hid tabErr cfgChk; rw [if_neg (by rw [HFO.out]; decide), if_neg hl]
  go_enter Tryz.func47, Tryz.ntmps47
  go_wp2_with fail
  refine (refFormat_any f _ HF.out).mono ?_
  rintro e w' ⟨rfl, rfl⟩
  rw [HFO.out]
  go_wp2
  have HB0 : Bx w (w.alloc (.cells [.slice Ar rules.length cr, .string f].toArray 40)) 0 [.slice Ar rules.length cr, .string f] := Bx.made (Below.refl _ _) rfl _ _
  go_loopw [5] (fun i wr => ∃ k : Nat, k ≤ rules.length ∧ i = .int .i64 k ∧ Hid (∀ j, j < k → ∀ hj : j < rules.length, ruleChk (rules[j]'hj) names = 0) ∧ Bx w wr 0 [.slice Ar rules.length cr, .string f]) (fun i _ => rules.length - (intOf i).toNat)
  case atStart => exact ⟨0, Nat.zero_le _, rfl, (fun j hj => by omega), HB0⟩
  case round =>
    obtain ⟨k, hk, rfl, HI, HB⟩ := hrel
    clear HB0
    have HBl := HB.lt0
    have h0 := HB.at0 0 _ rfl
    by_cases hlt : k < rules.length
    · obtain ⟨b, o, Ap, cp, rfl, hb, hcx⟩ := RuleCells.of (Rp.sl_below HR.out HB.below) hlt
      have x0 := hcx.c0
      have x1 := hcx.c1
      have x2 := hcx.c2
      have x3 := hcx.c3
      have x4 := hcx.c4
      have x5 := hcx.c5
      have x6 := hcx.c6
      have x7 := hcx.c7
      have x8 := hcx.c8
      have x9 := hcx.c9
      have HXP := Lib.hid hcx.pr
      have HOK := Lib.hid hcx.ok
      have HNr := Lib.hid (Rp.sl_below HN.out HB.below)
      clear hcx
      have hc := refRule_any (rules[k]'hlt) names _ _ Ap An cp cn wr HXP.out HNr.out HOK.out
      have HC := Lib.hid hc
      clear hc
      by_cases hq : ruleChk (rules[k]'hlt) names = 0
      · have hq' : (ruleChk (rules[k]'hlt) names != 0) = false := bne_eq_false_iff_eq.2 hq
        have HQ := Lib.hid hq
        clear hq
        go_wp2_with (go_at_call 70; refine HC.out.mono ?_; rintro e w1 ⟨rfl, hb1⟩)
        go_roundw
        case rel =>
          refine ⟨k + 1, by omega, by go_num, ?_, HB.next hb1⟩
          intro j hj hl
          by_cases e : j = k
          · subst e; exact HQ.out
          · exact HI.out j (by omega) hl
        case measure => simp [intOf]; omega
      · have hq' : (ruleChk (rules[k]'hlt) names != 0) = true := bne_iff_ne.2 hq
        have HQ := Lib.hid (firstErr_hit (fun r => ruleChk r names) rules k hlt HI.out hq)
        clear hq
        go_wp2_with (go_at_call 70; refine HC.out.mono ?_; rintro e w1 ⟨rfl, hb1⟩)
        go_ret
        exact ⟨ret_int (by rw [HE.out, HQ.out]), belTrans HB.below hb1⟩
    · have HQ : Hid (firstErr (fun r => ruleChk r names) rules = 0) := firstErr_none _ _ fun j hj => HI.out j (by omega) hj
      go_wp2
      go_ret
      exact ⟨ret_int (by rw [HE.out, HQ.out]), HB.below⟩
end Go.Proofs.YtnbgfpcpfknjoaaGreatDoor
