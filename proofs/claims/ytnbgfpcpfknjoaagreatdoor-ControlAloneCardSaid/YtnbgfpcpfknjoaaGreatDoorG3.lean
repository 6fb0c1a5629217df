/- The references: whether predicates, rules, tables are alike. -/
import Derived.Test.YtnbgfpcpfknjoaaGreatDoorF2
import Derived.Laws.StructEq
namespace Go.Proofs.YtnbgfpcpfknjoaaGreatDoor
set_option linter.all false
open Go.RowKit

theorem eq_of_get {α : Type} {xs ys : List α} (hl : xs.length = ys.length) (h : ∀ j, ∀ hj : j < xs.length, ∀ hk : j < ys.length, xs[j]'hj = ys[j]'hk) : xs = ys := List.ext_getElem hl fun i h1 h2 => h i h1 h2
theorem pred_ne {p q : Pred} (h : p ≠ q) : p.kind ≠ q.kind ∨ p.name ≠ q.name ∨ p.value ≠ q.value := by
  obtain ⟨a, b, c⟩ := p
  obtain ⟨a', b', c'⟩ := q
  by_cases h1 : a = a'
  · by_cases h2 : b = b'
    · exact .inr (.inr fun e => h (by simp only at e; rw [h1, h2, e]))
    · exact .inr (.inl h2)
  · exact .inl h1
theorem toList_eq (x y : ByteArray) : (x.toList = y.toList) = (x = y) := by
  have h := toList_beq x y
  rw [Bool.eq_iff_iff, beq_iff_eq, decide_eq_true_iff] at h
  exact propext h
theorem eqPred (p q : Pred) (w : World) : (Op.equalIn 10000 68 (.agg #[.int .i64 p.kind, .string p.name, .string p.value]) (.agg #[.int .i64 q.kind, .string q.name, .string q.value])).run Tryz.prog w = .ok (decide (p = q)) w := by
  have u3 := Tryz.underlying3
  have u9 := Tryz.underlying9
  have hS : Tryz.prog.underlying 68 = some (.struct (Tryz.prog.fieldsOf 68)) := by kernel_rfl
  have hp : Tryz.prog.stoodInHeld 68 = false := by kernel_rfl
  have c3 : Tryz.prog.cellsOf 3 = 1 := by kernel_rfl
  have c9 : Tryz.prog.cellsOf 9 = 1 := by kernel_rfl
  rw [show (10000 : Nat) = 9999 + 1 from rfl, run_equalIn_agg w 9999 68 _ _ hS hp]
  simp only [Program.fieldsOf, Tryz.underlying68]
  go_simp
  obtain ⟨a, b, c⟩ := p
  obtain ⟨a', b', c'⟩ := q
  simp only [toList_eq, Pred.mk.injEq]
  by_cases h1 : a = a' <;> by_cases h2 : b = b' <;> by_cases h3 : c = c' <;> simp [h1, h2, h3]
theorem neqPred (p q : Pred) (w : World) : (binOp .neq 68 (.agg #[.int .i64 p.kind, .string p.name, .string p.value]) (.agg #[.int .i64 q.kind, .string q.name, .string q.value])).run Tryz.prog w = .ok (.bool (!decide (p = q))) w := by
  rw [run_neq_struct, eqPred]; rfl

set_option maxRecDepth 100000 in
set_option maxHeartbeats 2000000 in
theorem predsSame_any (xs ys : List Pred) (S S' : Nat → Prop) (A B : Option Addr) (c d : Nat) (w : World) (hx : predR.sl w S (.slice A xs.length c) xs) (hy : predR.sl w S' (.slice B ys.length d) ys) :
    Calls Tryz.prog 71 #[.slice A xs.length c, .slice B ys.length d] w fun e w' => e = .returned (.bool (decide (xs = ys))) ∧ ∃ n, w' = w.drewN n := by
  have HX := Lib.hid hx
  have HY := Lib.hid hy
  have hm := Rp.sl_lenv hx
  have hm2 := Rp.sl_lenv hy
  unfold maxLen at hm hm2
  clear hx hy
  by_cases hl : xs.length = ys.length
  · have hl' : ((xs.length : Int) != (ys.length : Int)) = false := by rw [bne_eq_false_iff_eq]; omega
    have HL := Lib.hid hl
    have hle : xs.length ≤ ys.length := by omega
    clear hl
    go_enter Tryz.func71, Tryz.ntmps71
    go_wp2
    go_loopw [5] (fun i wr => ∃ k : Nat, k ≤ xs.length ∧ i = .int .i64 k ∧ Hid (∀ j, j < k → ∀ hj : j < xs.length, ∀ hk : j < ys.length, xs[j]'hj = ys[j]'hk) ∧ ∃ n, wr = w.drewN n) (fun i _ => xs.length - (intOf i).toNat)
    case atStart => exact ⟨0, Nat.zero_le _, rfl, (fun j hj => by omega), 0, rfl⟩
    case round =>
      obtain ⟨k, hk, rfl, HI, n, rfl⟩ := hrel
      by_cases hlt : k < xs.length
      · have hlt2 : k < ys.length := by omega
        obtain ⟨b, o, rfl, a0, a1, a2, -, -, -⟩ := predR_at HX.out hlt
        obtain ⟨b', o', rfl, b0, b1, b2, -, -, -⟩ := predR_at HY.out hlt2
        have k0 : (0 : Int) ≤ (k : Int) := by omega
        have k1 : (k : Int) < (xs.length : Int) := by omega
        have k2 : (k : Int) < (ys.length : Int) := by omega
        have hgd : ∀ (x y : Operand) (us vs : Array Value) (W : World), (eqGuard .neq 68 x y (.agg us) (.agg vs)).run Tryz.prog W = .ok () W := fun x y us vs W => run_eqGuard_agg W .neq 68 x y us vs (by kernel_rfl)
        by_cases hq : xs[k]'hlt = ys[k]'hlt2
        · have hnq : ∀ W : World, (binOp .neq 68 (.agg #[.int .i64 (xs[k]'hlt).kind, .string (xs[k]'hlt).name, .string (xs[k]'hlt).value]) (.agg #[.int .i64 (ys[k]'hlt2).kind, .string (ys[k]'hlt2).name, .string (ys[k]'hlt2).value])).run Tryz.prog W = .ok (.bool false) W := fun W => by rw [neqPred, decide_eq_true hq]; rfl
          have HQ := Lib.hid hq
          clear hq
          go_wp2_with fail
          go_quiet (fail)
          go_wp2
          go_roundw
          case rel =>
            refine ⟨k + 1, by omega, by go_num, ?_, _, rfl⟩
            intro j hj h1 h2
            by_cases e : j = k
            · subst e; exact HQ.out
            · exact HI.out j (by omega) h1 h2
          case measure => simp [intOf]; omega
        · have hnq : ∀ W : World, (binOp .neq 68 (.agg #[.int .i64 (xs[k]'hlt).kind, .string (xs[k]'hlt).name, .string (xs[k]'hlt).value]) (.agg #[.int .i64 (ys[k]'hlt2).kind, .string (ys[k]'hlt2).name, .string (ys[k]'hlt2).value])).run Tryz.prog W = .ok (.bool true) W := fun W => by rw [neqPred, decide_eq_false hq]; rfl
          have HN : Hid (decide (xs = ys) = false) := decide_eq_false fun e => hq (by subst e; rfl)
          clear hq
          go_wp2_with fail
          go_quiet (fail)
          go_wp2
          go_ret
          exact ⟨ret_bool HN.out.symm, _, World.drewN_drewN _ _ _⟩
      · have HN : Hid (decide (xs = ys) = true) := decide_eq_true (eq_of_get HL.out fun j hj hk => HI.out j (by omega) hj hk)
        go_wp2
        go_ret
        exact ⟨ret_bool HN.out.symm, n, rfl⟩
  · have hl' : ((xs.length : Int) != (ys.length : Int)) = true := by rw [bne_iff_ne]; omega
    have HN : Hid (decide (xs = ys) = false) := decide_eq_false fun e => hl (by rw [e])
    clear hl
    go_enter Tryz.func71, Tryz.ntmps71
    go_wp2
    go_ret
    exact ⟨ret_bool HN.out.symm, 0, rfl⟩

theorem rule_eq {a b : Rule} : a = b ↔ a.rank = b.rank ∧ a.preds = b.preds ∧ a.target = b.target ∧ a.abortPct = b.abortPct ∧ a.abortStatus = b.abortStatus ∧ a.delayPct = b.delayPct ∧ a.delayTicks = b.delayTicks ∧ a.mirrorPct = b.mirrorPct ∧ a.mirror = b.mirror ∧ a.sample = b.sample := by
  obtain ⟨⟩ := a
  obtain ⟨⟩ := b
  simp
set_option maxRecDepth 100000 in
set_option maxHeartbeats 4000000 in
theorem one_any (a b : Rule) (S S' : Nat → Prop) (A B : Option Addr) (c d : Nat) (w : World) (hx : predR.sl w S (.slice A a.preds.length c) a.preds) (hy : predR.sl w S' (.slice B b.preds.length d) b.preds) :
    Calls Tryz.prog 49 #[.agg #[.int .i64 a.rank, .slice A a.preds.length c, .string a.target, .int .i64 a.abortPct, .int .i64 a.abortStatus, .int .i64 a.delayPct, .int .i64 a.delayTicks, .int .i64 a.mirrorPct, .string a.mirror, .int .i64 a.sample], .agg #[.int .i64 b.rank, .slice B b.preds.length d, .string b.target, .int .i64 b.abortPct, .int .i64 b.abortStatus, .int .i64 b.delayPct, .int .i64 b.delayTicks, .int .i64 b.mirrorPct, .string b.mirror, .int .i64 b.sample]] w fun e w' => e = .returned (.bool (decide (a = b))) ∧ Below w.heap.size w w' := by
  have HX := Lib.hid hx
  have HY := Lib.hid hy
  clear hx hy
  obtain ⟨q, hq⟩ : ∃ q, decide (a = b) = q := ⟨_, rfl⟩
  rw [hq]
  have HQ := Lib.hid hq
  clear hq
  by_cases h0 : a.rank = b.rank
  · have h0' : (a.rank == b.rank) = true := beq_iff_eq.2 h0
    have H0 := Lib.hid h0
    clear h0
    go_enter Tryz.func49, Tryz.ntmps49
    go_wp2_with fail
    refine (predsSame_any a.preds b.preds S S' A B c d _ (Rp.sl_below HX.out (bel (bel (Below.refl _ _) _) _)) (Rp.sl_below HY.out (bel (bel (Below.refl _ _) _) _))).mono ?_
    rintro e w1 ⟨rfl, n, hw1⟩
    have hb : Below ((w.alloc (.cells (a.cells (.slice A a.preds.length c)).toArray 65)).alloc (.cells (b.cells (.slice B b.preds.length d)).toArray 65)).heap.size ((w.alloc (.cells (a.cells (.slice A a.preds.length c)).toArray 65)).alloc (.cells (b.cells (.slice B b.preds.length d)).toArray 65)) w1 := by
      rw [hw1]; exact belDrewN (Below.refl _ _) _
    have hc0 : ∀ j u, (a.cells (.slice A a.preds.length c))[j]? = some u → w1.cell? ⟨w.heap.size, j, none⟩ = some u := fun j u hu => by
      refine (hb.cell (p := ⟨w.heap.size, j, none⟩) (by simp; omega)).trans ((Below.cell (p := ⟨w.heap.size, j, none⟩) (bel (Below.refl _ (w.alloc _)) _) (by simp)).trans ?_)
      rw [World.cell?_alloc_at _ _ _ _ rfl]; simpa using hu
    have hc1 : ∀ j u, (b.cells (.slice B b.preds.length d))[j]? = some u → w1.cell? ⟨w.heap.size + 1, j, none⟩ = some u := fun j u hu => by
      refine (hb.cell (p := ⟨w.heap.size + 1, j, none⟩) (by simp)).trans ?_
      rw [World.cell?_alloc_at _ _ _ _ (by simp)]; simpa using hu
    have HB : Hid (Below w.heap.size w w1) := belTrans (bel (bel (Below.refl _ _) _) _) hb
    have hl : w.heap.size + 1 < w1.heap.size := by have := hb.size; simp at this; omega
    have hl0 : w.heap.size < w1.heap.size := by omega
    have x2 := hc0 2 _ rfl
    have x3 := hc0 3 _ rfl
    have x4 := hc0 4 _ rfl
    have x5 := hc0 5 _ rfl
    have x6 := hc0 6 _ rfl
    have x7 := hc0 7 _ rfl
    have x8 := hc0 8 _ rfl
    have x9 := hc0 9 _ rfl
    have y2 := hc1 2 _ rfl
    have y3 := hc1 3 _ rfl
    have y4 := hc1 4 _ rfl
    have y5 := hc1 5 _ rfl
    have y6 := hc1 6 _ rfl
    have y7 := hc1 7 _ rfl
    have y8 := hc1 8 _ rfl
    have y9 := hc1 9 _ rfl
    clear hw1 hb hc0 hc1
    by_cases hp : a.preds = b.preds
    · have hp' := decide_eq_true hp
      rw [hp']
      have HP := Lib.hid hp
      clear hp hp'
      go_wp2
      all_goals
        go_ret
        refine ⟨ret_bool ?_, HB.out⟩
        rw [← HQ.out, Bool.eq_iff_iff, decide_eq_true_iff, rule_eq]
        simp only [toList_eq, beq_iff_eq, beq_eq_false_iff_ne, ne_eq, Bool.false_eq_true, false_iff] at *
        simp [*, H0.out, HP.out]
    · have hp' := decide_eq_false hp
      have HF : Hid (q = false) := by unfold Hid; rw [← HQ.out]; exact decide_eq_false fun e => hp (by rw [e])
      rw [hp']
      clear hp hp'
      go_wp2
      go_ret
      exact ⟨ret_bool HF.out.symm, HB.out⟩
  · have h0' : (a.rank == b.rank) = false := beq_eq_false_iff_ne.2 h0
    have HF : Hid (q = false) := by unfold Hid; rw [← HQ.out]; exact decide_eq_false fun e => h0 (by rw [e])
    clear h0
    go_enter Tryz.func49, Tryz.ntmps49
    go_wp2
    go_ret
    exact ⟨ret_bool HF.out.symm, bel (bel (Below.refl _ _) _) _⟩
end Go.Proofs.YtnbgfpcpfknjoaaGreatDoor
