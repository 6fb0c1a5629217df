/- rule.Order: the sort. -/
import Derived.Test.YtnbgfpcpfknjoaaGreatDoorB4
import Derived.Deep.RegionHeld3
import Derived.BigRegion
import Derived.RegionTactic
import Derived.ChangeAlike
namespace Go.Proofs.YtnbgfpcpfknjoaaGreatDoor
set_option linter.all false
open Go.RowKit

def cmpRank (a b : Int) : Int := if b < a then -1 else if a < b then 1 else 0
set_option maxHeartbeats 400000 in
theorem cmp_any (r q : Rule) (v u : Value) (w : World) :
    Calls Tryz.prog 69 #[.agg #[.int .i64 r.rank, v, .string r.target, .int .i64 r.abortPct, .int .i64 r.abortStatus, .int .i64 r.delayPct, .int .i64 r.delayTicks, .int .i64 r.mirrorPct, .string r.mirror, .int .i64 r.sample], .agg #[.int .i64 q.rank, u, .string q.target, .int .i64 q.abortPct, .int .i64 q.abortStatus, .int .i64 q.delayPct, .int .i64 q.delayTicks, .int .i64 q.mirrorPct, .string q.mirror, .int .i64 q.sample]] w fun e w' => e = .returned (.int .i64 (cmpRank r.rank q.rank)) ∧ Below w.heap.size w w' := by
  by_cases h1 : q.rank < r.rank
  · have HF : Hid (cmpRank r.rank q.rank = -1) := by unfold Hid cmpRank; rw [if_pos h1]
    have h1' : decide (q.rank < r.rank) = true := decide_eq_true h1
    go_enter Tryz.func69, Tryz.ntmps69
    go_wp2
    go_ret
    exact ⟨ret_int HF.out.symm, bel (bel (Below.refl _ _) _) _⟩
  · have h1' : decide (q.rank < r.rank) = false := decide_eq_false h1
    by_cases h2 : r.rank < q.rank
    · have HF : Hid (cmpRank r.rank q.rank = 1) := by unfold Hid cmpRank; rw [if_neg h1, if_pos h2]
      have h2' : decide (r.rank < q.rank) = true := decide_eq_true h2
      go_enter Tryz.func69, Tryz.ntmps69
      go_wp2
      go_ret
      exact ⟨ret_int HF.out.symm, bel (bel (Below.refl _ _) _) _⟩
    · have HF : Hid (cmpRank r.rank q.rank = 0) := by unfold Hid cmpRank; rw [if_neg h1, if_neg h2]
      have h2' : decide (r.rank < q.rank) = false := decide_eq_false h2
      go_enter Tryz.func69, Tryz.ntmps69
      go_wp2
      go_ret
      exact ⟨ret_int HF.out.symm, bel (bel (Below.refl _ _) _) _⟩

/-- Only one block, of those that were there, has been written. -/
structure KeepBut (w w' : World) (g : Nat) : Prop where
  os : w'.os = w.os
  tape : w'.tape = w.tape
  output : w'.output = w.output
  size : w.heap.size ≤ w'.heap.size
  block : ∀ k, k < w.heap.size → k ≠ g → w'.heap[k]? = w.heap[k]?
theorem KeepBut.refl (w : World) (g : Nat) : KeepBut w w g := ⟨rfl, rfl, rfl, Nat.le_refl _, fun _ _ _ => rfl⟩
theorem KeepBut.below {w w1 w2 : World} {g : Nat} (h : KeepBut w w1 g) (k : Below w1.heap.size w1 w2) : KeepBut w w2 g :=
  ⟨k.os.trans h.os, k.tape.trans h.tape, k.output.trans h.output, Nat.le_trans h.size k.size, fun i hi hg => (k.block i (Nat.lt_of_lt_of_le hi h.size)).trans (h.block i hi hg)⟩
theorem KeepBut.set {w w1 : World} {g : Nat} (h : KeepBut w w1 g) (j : Nat) (u : Value) : KeepBut w (w1.setCell ⟨g, j, none⟩ u) g :=
  ⟨h.os, h.tape, h.output, by simp only [World.setCell, Array.size_modify]; exact h.size, fun i hi hg => (Below.heap_setCell _ _ _ _ hg).trans (h.block i hi hg)⟩
theorem KeepBut.row {w w1 : World} {g : Nat} (h : KeepBut w w1 g) (o : Nat) (us : List Value) : KeepBut w (setRow w1 g o us) g := by
  induction us generalizing w1 o with
  | nil => exact h
  | cons u us ih => exact ih (h.set o u) (o + 1)
theorem KeepBut.drew {w w1 : World} {g : Nat} (h : KeepBut w w1 g) : KeepBut w w1.drew g := ⟨h.os, h.tape, h.output, h.size, h.block⟩

/-- The cells of a rule, at a place of a row. -/
structure At10 (w : World) (g k : Nat) (r : Rule) (v : Value) : Prop where
  c0 : w.cell? ⟨g, k * 10, none⟩ = some (.int .i64 r.rank)
  c1 : w.cell? ⟨g, k * 10 + 1, none⟩ = some v
  c2 : w.cell? ⟨g, k * 10 + 2, none⟩ = some (.string r.target)
  c3 : w.cell? ⟨g, k * 10 + 3, none⟩ = some (.int .i64 r.abortPct)
  c4 : w.cell? ⟨g, k * 10 + 4, none⟩ = some (.int .i64 r.abortStatus)
  c5 : w.cell? ⟨g, k * 10 + 5, none⟩ = some (.int .i64 r.delayPct)
  c6 : w.cell? ⟨g, k * 10 + 6, none⟩ = some (.int .i64 r.delayTicks)
  c7 : w.cell? ⟨g, k * 10 + 7, none⟩ = some (.int .i64 r.mirrorPct)
  c8 : w.cell? ⟨g, k * 10 + 8, none⟩ = some (.string r.mirror)
  c9 : w.cell? ⟨g, k * 10 + 9, none⟩ = some (.int .i64 r.sample)

theorem At10.of_own {w : World} {S : Nat → Prop} {base e g n c : Nat} {xs : List Rule} (h : ruleR.own w S base e (.slice (some ⟨g, 0, none⟩) n c) xs) {i : Nat} (hi : i < xs.length) : ∃ Ap cp, ruleR.rel w S (xs[i]'hi) ((xs[i]'hi).cells (.slice Ap (xs[i]'hi).preds.length cp)) ∧ At10 w g i (xs[i]'hi) (.slice Ap (xs[i]'hi).preds.length cp) := by
  obtain ⟨Ap, cp, hcs, hps, hok⟩ := ruleOwn_at h hi
  exact ⟨Ap, cp, ⟨_, rfl, hps, hok⟩, by have := hcs 0 _ rfl; rwa [Nat.add_zero] at this, hcs 1 _ rfl, hcs 2 _ rfl, hcs 3 _ rfl, hcs 4 _ rfl, hcs 5 _ rfl, hcs 6 _ rfl, hcs 7 _ rfl, hcs 8 _ rfl, hcs 9 _ rfl⟩


theorem swap_world (w : World) (g a b : Nat) (u0 u1 u2 u3 u4 u5 u6 u7 u8 u9 v0 v1 v2 v3 v4 v5 v6 v7 v8 v9 : Value) : ((((((((((((((((((((w.setCell ⟨g, a, none⟩ u0).setCell ⟨g, a + 1, none⟩ u1).setCell ⟨g, a + 2, none⟩ u2).setCell ⟨g, a + 3, none⟩ u3).setCell ⟨g, a + 4, none⟩ u4).setCell ⟨g, a + 5, none⟩ u5).setCell ⟨g, a + 6, none⟩ u6).setCell ⟨g, a + 7, none⟩ u7).setCell ⟨g, a + 8, none⟩ u8).setCell ⟨g, a + 9, none⟩ u9).setCell ⟨g, b, none⟩ v0).setCell ⟨g, b + 1, none⟩ v1).setCell ⟨g, b + 2, none⟩ v2).setCell ⟨g, b + 3, none⟩ v3).setCell ⟨g, b + 4, none⟩ v4).setCell ⟨g, b + 5, none⟩ v5).setCell ⟨g, b + 6, none⟩ v6).setCell ⟨g, b + 7, none⟩ v7).setCell ⟨g, b + 8, none⟩ v8).setCell ⟨g, b + 9, none⟩ v9) = setRow (setRow w g a [u0, u1, u2, u3, u4, u5, u6, u7, u8, u9]) g b [v0, v1, v2, v3, v4, v5, v6, v7, v8, v9] := rfl
/-- Two neighbours change places. -/
def swapAt (xs : List Rule) (m : Nat) : List Rule := (xs.set (m + 1) (xs.getD m default)).set m (xs.getD (m + 1) default)
theorem swapAt_length (xs : List Rule) (m : Nat) : (swapAt xs m).length = xs.length := by simp [swapAt]
/-- One is moved down to its place. -/
def bub : Nat → List Rule → List Rule
  | 0, xs => xs
  | m + 1, xs => if cmpRank (xs.getD (m + 1) default).rank (xs.getD m default).rank < 0 then bub m (swapAt xs m) else xs
theorem bub_length : ∀ (m : Nat) (xs : List Rule), (bub m xs).length = xs.length
  | 0, xs => rfl
  | m + 1, xs => by
    unfold bub
    split
    · rw [bub_length m, swapAt_length]
    · rfl
/-- Those from a place on are moved down to their places, one after another. -/
def insFrom : Nat → Nat → List Rule → List Rule
  | 0, _, xs => xs
  | f + 1, i, xs => insFrom f (i + 1) (bub i xs)
def orderF (xs : List Rule) : List Rule := insFrom (xs.length - 1) 1 xs

set_option maxRecDepth 100000 in
set_option maxHeartbeats 6400000 in
theorem insertion_any (xs : List Rule) (S : Nat → Prop) (base g c : Nat) (w : World) (h : ruleR.own w S base 65 (.slice (some ⟨g, 0, none⟩) xs.length c) xs) (hS : ¬ S g) (hm : xs.length ≤ 1000) :
    Calls Tryz.prog 118 #[(.slice (some ⟨g, 0, none⟩) xs.length c), .int .i64 0, .int .i64 xs.length, .func (.func 69) #[] #[]] w fun e w' => e = .returned (.tuple #[]) ∧ ruleR.own w' S base 65 (.slice (some ⟨g, 0, none⟩) xs.length c) (orderF xs) ∧ KeepBut w w' g := by
  have HH := Lib.hid h
  clear h
  go_enter Tryz.func118, Tryz.ntmps118
  go_wp2
  go_loopw [8] (fun i wr => ∃ (k : Nat) (ys : List Rule), 1 ≤ k ∧ k ≤ xs.length + 1 ∧ i = .int .i64 k ∧ Hid (ys.length = xs.length) ∧ Hid (ruleR.own wr S base 65 (.slice (some ⟨g, 0, none⟩) xs.length c) ys) ∧ Hid (insFrom (xs.length - k) k ys = orderF xs) ∧ KeepBut w wr g) (fun i _ => xs.length + 1 - (intOf i).toNat)
  case atStart => exact ⟨1, xs, by omega, by omega, rfl, rfl, HH, rfl, KeepBut.refl _ _⟩
  case round =>
    obtain ⟨k, zs, hk1, hk, rfl, HZ, HO, HI, HK⟩ := hrel
    by_cases hlt : k < xs.length
    · go_wp2
      obtain ⟨wo, rfl⟩ : ∃ wo : World, wo = wr := ⟨_, rfl⟩
      go_loopw [9] (fun j wr => ∃ (m : Nat) (ys : List Rule), m ≤ k ∧ j = .int .i64 m ∧ Hid (ys.length = xs.length) ∧ Hid (ruleR.own wr S base 65 (.slice (some ⟨g, 0, none⟩) xs.length c) ys) ∧ Hid (bub m ys = bub k zs) ∧ KeepBut w wr g) (fun i _ => (intOf i).toNat)
      case atStart => exact ⟨k, zs, by omega, rfl, HZ, HO, rfl, HK⟩
      case round =>
        obtain ⟨m, ys, hm', rfl, HY, HOy, HB, HKy⟩ := hrel
        rcases m with _ | m
        · have hd : decide ((0 : Int) < ((0 : Nat) : Int)) = false := by simp
          go_upto_region 4 with (fail)
          go_quiet (fail)
          go_wp2
          go_roundw
          case rel =>
            refine ⟨k + 1, ys, by omega, by omega, by go_num, HY, ?_, ?_, ?_⟩
            · exact Rp.own_below HOy.out (belDrewN (Below.refl _ _) _)
            · have e1 : ys = bub k zs := HB.out
              have e2 : xs.length - k = (xs.length - (k + 1)) + 1 := by omega
              have e3 := HI.out
              rw [e2, insFrom, ← e1] at e3
              exact e3
            · exact HKy.below (belDrewN (Below.refl _ _) _)
          case measure => simp [intOf]; omega
        · have hml : m + 1 < ys.length := by have := HY.out; omega
          have hm0 : m < ys.length := by omega
          obtain ⟨A1, n1, g1, a0, a1, a2, a3, a4, a5, a6, a7, a8, a9⟩ := At10.of_own HOy.out hml
          obtain ⟨A0, n0, g0, b0, b1, b2, b3, b4, b5, b6, b7, b8, b9⟩ := At10.of_own HOy.out hm0
          have L1 := World.block_lt_of_cell? wr _ a0
          clear g1 g0
          have hd : decide ((0 : Int) < (((m + 1 : Nat) : Nat) : Int)) = true := by simp
          have hd' : decide ((0 : Int) < (m : Int) + 1) = true := decide_eq_true (by omega)
          have hi1 : ((m : Int) + 1) < (xs.length : Int) := by omega
          have hi0 : (0 : Int) ≤ (m : Int) := by omega
          have hi2 : ((m : Int)) < (xs.length : Int) := by omega
          have hl' : ((m : Int) + 1).toNat = m + 1 := by omega
          have hi3 : (0 : Int) ≤ (m : Int) + 1 := by omega
          have hw6 : IntKind.i64.wrap (m : Int) = (m : Int) := IntWalk.i64_in _ (by omega)
          have hw5 : IntKind.i64.wrap ((m : Int) + 1 - 1) = (m : Int) := by rw [Int.add_sub_cancel]; exact IntWalk.i64_in _ (by omega)
          go_upto_region 4 with (fail)
          go_cut [34] (fun b wx => b = .bool (decide (cmpRank (ys[m+1]'hml).rank (ys[m]'hm0).rank < 0)) ∧ Below wr.heap.size wr wx)
          case first =>
            go_region_held3 (fun w' => w'.cell? ⟨g, (m + 1) * 10, none⟩ = some (.int .i64 (ys[m+1]'hml).rank) ∧ w'.cell? ⟨g, (m + 1) * 10 + 1, none⟩ = some (.slice A1 (ys[m+1]'hml).preds.length n1) ∧ w'.cell? ⟨g, (m + 1) * 10 + 2, none⟩ = some (.string (ys[m+1]'hml).target) ∧ w'.cell? ⟨g, (m + 1) * 10 + 3, none⟩ = some (.int .i64 (ys[m+1]'hml).abortPct) ∧ w'.cell? ⟨g, (m + 1) * 10 + 4, none⟩ = some (.int .i64 (ys[m+1]'hml).abortStatus) ∧ w'.cell? ⟨g, (m + 1) * 10 + 5, none⟩ = some (.int .i64 (ys[m+1]'hml).delayPct) ∧ w'.cell? ⟨g, (m + 1) * 10 + 6, none⟩ = some (.int .i64 (ys[m+1]'hml).delayTicks) ∧ w'.cell? ⟨g, (m + 1) * 10 + 7, none⟩ = some (.int .i64 (ys[m+1]'hml).mirrorPct) ∧ w'.cell? ⟨g, (m + 1) * 10 + 8, none⟩ = some (.string (ys[m+1]'hml).mirror) ∧ w'.cell? ⟨g, (m + 1) * 10 + 9, none⟩ = some (.int .i64 (ys[m+1]'hml).sample) ∧ w'.cell? ⟨g, m * 10, none⟩ = some (.int .i64 (ys[m]'hm0).rank) ∧ w'.cell? ⟨g, m * 10 + 1, none⟩ = some (.slice A0 (ys[m]'hm0).preds.length n0) ∧ w'.cell? ⟨g, m * 10 + 2, none⟩ = some (.string (ys[m]'hm0).target) ∧ w'.cell? ⟨g, m * 10 + 3, none⟩ = some (.int .i64 (ys[m]'hm0).abortPct) ∧ w'.cell? ⟨g, m * 10 + 4, none⟩ = some (.int .i64 (ys[m]'hm0).abortStatus) ∧ w'.cell? ⟨g, m * 10 + 5, none⟩ = some (.int .i64 (ys[m]'hm0).delayPct) ∧ w'.cell? ⟨g, m * 10 + 6, none⟩ = some (.int .i64 (ys[m]'hm0).delayTicks) ∧ w'.cell? ⟨g, m * 10 + 7, none⟩ = some (.int .i64 (ys[m]'hm0).mirrorPct) ∧ w'.cell? ⟨g, m * 10 + 8, none⟩ = some (.string (ys[m]'hm0).mirror) ∧ w'.cell? ⟨g, m * 10 + 9, none⟩ = some (.int .i64 (ys[m]'hm0).sample))
              (first
                | go_keep
                | (go_split_ands
                   refine ⟨?_, ?_, ?_, ?_, ?_, ?_, ?_, ?_, ?_, ?_, ?_, ?_, ?_, ?_, ?_, ?_, ?_, ?_, ?_, ?_⟩
                   all_goals (refine (Below.cell hb (by assumption)).trans ?_; assumption)))
              ((go_at_call 69; refine (cmp_any (ys[m+1]'hml) (ys[m]'hm0) _ _ _).mono ?_; rintro e w1 ⟨rfl, hb⟩))
            go_wp2_with fail
            go_meet
            case rel => exact ⟨rfl, belTrans (belDrew (Below.refl _ _)) hb⟩
          case rest =>
            obtain ⟨rfl, hb1⟩ := hcut
            by_cases hq : cmpRank (ys[m+1]'hml).rank (ys[m]'hm0).rank < 0
            · have r1 := Rp.own_below HOy.out hb1
              clear a0 a1 a2 a3 a4 a5 a6 a7 a8 a9 b0 b1 b2 b3 b4 b5 b6 b7 b8 b9
              obtain ⟨A1, n1, g1, a0, a1, a2, a3, a4, a5, a6, a7, a8, a9⟩ := At10.of_own r1 hml
              obtain ⟨A0, n0, g0, b0, b1, b2, b3, b4, b5, b6, b7, b8, b9⟩ := At10.of_own r1 hm0
              have hfz : ∀ j, wc.frozen? ⟨g, j, none⟩ = false := Rp.own_frozen r1
              have R2 := Lib.hid r1
              have G1 := Lib.hid g1
              have G0 := Lib.hid g0
              clear r1 g1 g0
              go_wp2_with fail
              go_region
              go_wp2
              go_roundw
              case rel =>
                have r3 := Rp.own_setRow R2.out hS hml _ _ G0.out
                have hfr : ∀ q, S q → q < wc.heap.size → (setRow wc g ((m + 1) * ruleR.sz) ((ys[m]'hm0).cells (.slice A0 (ys[m]'hm0).preds.length n0))).heap[q]? = wc.heap[q]? := fun q hq _ => setRow_heap _ _ _ _ _ (by rintro rfl; exact hS hq)
                have r4 := Rp.own_setRow (k := m) r3 hS (by rw [List.length_set]; omega) _ _ (ruleR.frame G1.out hfr)
                have e0 : swapAt ys m = (ys.set (m + 1) (ys[m]'hm0)).set m (ys[m+1]'hml) := by
                  unfold swapAt
                  rw [List.getD_eq_getElem?_getD, List.getD_eq_getElem?_getD, List.getElem?_eq_getElem hm0, List.getElem?_eq_getElem hml]; rfl
                refine ⟨m, swapAt ys m, by omega, by go_num, (swapAt_length ys m).trans HY.out, ?_, ?_, ?_⟩
                · rw [e0, swap_world]
                  exact Rp.own_below r4 (belDrew (Below.refl _ _))
                · have e1 := HB.out
                  rw [bub, List.getD_eq_getElem?_getD, List.getD_eq_getElem?_getD, List.getElem?_eq_getElem hm0, List.getElem?_eq_getElem hml] at e1
                  simp only [Option.getD_some] at e1
                  rw [if_pos hq] at e1
                  exact e1
                · rw [swap_world]
                  exact ((HKy.below hb1).row _ _ |>.row _ _).drew
              case measure => simp [intOf]
            · have hq' : decide (cmpRank (ys[m+1]'hml).rank (ys[m]'hm0).rank < 0) = false := decide_eq_false hq
              go_wp2
              go_roundw
              case rel =>
                refine ⟨k + 1, ys, by omega, by omega, by go_num, HY, Rp.own_below HOy.out hb1, ?_, HKy.below hb1⟩
                have e1 := HB.out
                rw [bub, List.getD_eq_getElem?_getD, List.getD_eq_getElem?_getD, List.getElem?_eq_getElem hm0, List.getElem?_eq_getElem hml] at e1
                simp only [Option.getD_some] at e1
                rw [if_neg hq] at e1
                have e2 : xs.length - k = (xs.length - (k + 1)) + 1 := by omega
                have e3 := HI.out
                rw [e2, insFrom, ← e1] at e3
                exact e3
              case measure => simp [intOf]; omega
    · go_wp2
      go_end0
      have e3 := HI.out
      rw [show xs.length - k = 0 by omega, insFrom] at e3
      exact ⟨rfl, by rw [← e3]; exact HO.out, HK⟩
end Go.Proofs.YtnbgfpcpfknjoaaGreatDoor
