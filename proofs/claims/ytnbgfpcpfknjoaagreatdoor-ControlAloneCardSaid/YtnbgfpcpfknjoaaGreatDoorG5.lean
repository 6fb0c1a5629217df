/- The reference's order, of rules that stand in order. -/
import Derived.Test.YtnbgfpcpfknjoaaGreatDoorG4
import Derived.Laws.AppendOwnNone
namespace Go.Proofs.YtnbgfpcpfknjoaaGreatDoor
set_option linter.all false
open Go.RowKit

/-- The greatest rank first. -/
def Desc (xs : List Rule) : Prop := ∀ i j, ∀ hi : i < xs.length, ∀ hj : j < xs.length, i < j → (xs[j]'hj).rank ≤ (xs[i]'hi).rank

theorem chunks_all {P : Value → Prop} {inner : List Value} {n sz : Nat} (hp : 0 < sz) (hl : inner.length = n * sz) (h : ∀ i, i < n → ∀ u ∈ (inner.drop (i * sz)).take sz, P u) : ∀ u ∈ inner, P u := by
  intro u hu
  obtain ⟨p, hpl, rfl⟩ := List.getElem_of_mem hu
  have h1 : p / sz < n := by rw [Nat.div_lt_iff_lt_mul hp]; omega
  refine h (p / sz) h1 _ ?_
  have hm := Nat.mod_lt p hp
  have hd := Nat.div_add_mod p sz
  have hc : p / sz * sz = sz * (p / sz) := Nat.mul_comm _ _
  rw [List.mem_iff_getElem?]
  refine ⟨p % sz, ?_⟩
  rw [List.getElem?_take, if_pos hm, List.getElem?_drop, show p / sz * sz + p % sz = p by omega, List.getElem?_eq_getElem hpl]
theorem rules_one {w : World} {S : Nat → Prop} {j : Nat} {xs : List Rule} {inner : List Value} (hl : inner.length = j * 10) (hj : j ≤ xs.length) (hrel : ∀ i x, (xs.take j)[i]? = some x → ruleR.rel w S x ((inner.drop (i * 10)).take 10)) : ∀ u ∈ inner, u.oneCell' = true :=
  chunks_all (by decide) hl fun i hi u hu => by
    have hi' : i < xs.length := by omega
    exact ruleR.one (hrel i (xs[i]'hi') (by rw [List.getElem?_take, if_pos hi, List.getElem?_eq_getElem hi'])) u hu
theorem order_below {w1 w2 w3 w4 : World} {e : Nat} {o : Obj} {v2 v3 : Value} {n2 n3 : Nat} {l2 l3 : List Value} (hg2 : w1.grownBy w2 (Value.slice none 0 0).ownBlock) (hown2 : w2.ownsRow w1.heap.size e 10 v2 n2 l2) (hg3 : (w2.alloc o).grownBy w3 v2.ownBlock) (hown3 : w3.ownsRow w1.heap.size e 10 v3 n3 l3) (hg4 : w3.grownBy w4 v3.ownBlock) : Below w1.heap.size w1 w4 := by
  have h2 : Below w1.heap.size w1 w2 := (Below.refl _ w1).grown hg2 (Nat.le_refl _) (fun k hk => by simp [Value.ownBlock] at hk)
  have h3 : Below w1.heap.size w1 w3 := (bel h2 o).grown hg3 (by have := hg2.size; simp; omega) (fun k hk => (hown2.lt k hk).1)
  exact h3.grown hg4 h3.size (fun k hk => (hown3.lt k hk).1)
theorem hid_far {w w2 : World} {b : Nat} (hg : w.grownBy w2 (Value.slice none 0 0).ownBlock) (hb : b < w.heap.size) : Hid (∀ i u, w.cell? ⟨b, i, none⟩ = some u → w2.cell? ⟨b, i, none⟩ = some u) :=
  fun i u h => (hg.cell_far ⟨b, i, none⟩ hb (by simp [Value.ownBlock])).trans h
theorem order_step {w1 w4 : World} {S : Nat → Prop} {base B j : Nat} {xs : List Rule} {v : Value} {inner cs : List Value} {n : Nat} (hB : base ≤ B) (hown : w4.ownsRow B 65 10 v n (inner ++ cs)) (hn : n = j + 1)
    (hrel : ∀ i x, (xs.take j)[i]? = some x → ruleR.rel w1 S x ((inner.drop (i * 10)).take 10)) (hlt : j < xs.length) (hx : ruleR.rel w1 S (xs[j]'hlt) cs) (hb : Below w1.heap.size w1 w4) : ruleR.own w4 S base 65 v (xs.take (j + 1)) := by
  subst hn
  have htl : (xs.take j).length = j := by rw [List.length_take]; omega
  rw [List.take_succ_eq_append_getElem hlt]
  refine Rp.own_lower (S := S) (base := B) (Rp.own_of_append (R := ruleR) (w := w1) (xs := xs.take j) (ys := [xs[j]'hlt]) (inner := inner) (news := cs) ?_ ?_ (fun i x hi => ruleR.frame (hrel i x hi) fun k _ hk => hb.block k hk) (fun i x hi => ?_)) hB fun k hk _ => hk
  · have h1 := hown.1
    have h2 := ruleR.len hx
    rw [List.length_append] at h1
    rw [htl]
    show inner.length = j * 10
    have h3 : cs.length = 10 := h2
    omega
  · rw [htl]; exact hown
  · rcases i with _ | i
    · have : xs[j]'hlt = x := by simpa using hi
      subst this
      have := ruleR.frame hx fun k _ hk => hb.block k hk
      have hl := ruleR.len hx
      rw [Nat.zero_mul, List.drop_zero, List.take_of_length_le (by omega)]
      exact this
    · simp at hi

set_option maxRecDepth 100000 in
set_option maxHeartbeats 8000000 in
theorem refOrder_any (xs : List Rule) (S : Nat → Prop) (A : Option Addr) (c : Nat) (w : World) (h : ruleR.sl w S (.slice A xs.length c) xs) (hd : Desc xs) (hfew : xs.length ≤ 16) :
    Calls Tryz.prog 48 #[.slice A xs.length c] w fun e w' => (∃ v, e = .returned v ∧ ruleR.own w' (fun k => S k ∧ k < w.heap.size) w.heap.size 65 v xs) ∧ Below w.heap.size w w' := by
  have HH := Lib.hid (Rp.sl_mono (S' := fun k => S k ∧ k < w.heap.size) h fun k hk hl => ⟨hk, hl⟩)
  have HD := Lib.hid hd
  clear h hd
  go_enter Tryz.func48, Tryz.ntmps48
  go_wp2
  go_loopw [3, 4] (fun v i wr => ∃ k : Nat, k ≤ xs.length ∧ i = .int .i64 k ∧ Hid (ruleR.own wr (fun k => S k ∧ k < w.heap.size) w.heap.size 65 v (xs.take k)) ∧ Hid (Below w.heap.size w wr)) (fun _ i _ => xs.length - (intOf i).toNat)
  case atStart => exact ⟨0, Nat.zero_le _, rfl, ⟨[], World.ownsRow_nil _ _ _ _, fun i x hx => by simp at hx⟩, Below.refl _ _⟩
  case round =>
    obtain ⟨k, hk, rfl, HO, HB⟩ := hrel
    by_cases hlt : k < xs.length
    · obtain ⟨b, o, Ap, cp, rfl, hb, hcx⟩ := RuleCells.of (Rp.sl_below HH.out HB.out) hlt
      have htl : (xs.take k).length = k := by rw [List.length_take]; omega
      obtain ⟨A1, c1, rfl, hc1, hc2⟩ := Rp.own_slice HO.out
      rw [htl] at hc1 HO ⊢
      have HCX := Lib.hid hcx
      have x0 := hcx.c0
      clear hcx
      have HTL := Lib.hid htl
      have hk16 : k < 16 := by omega
      clear htl
      obtain ⟨i0, hi0, hz0, hz1, hz2⟩ := info_parts3 infoRule
      go_wp2_with fail
      go_loopw [5] (fun m wq => ∃ j : Nat, j ≤ k ∧ m = .int .i64 j ∧ ∃ n, wq = wr.drewN n) (fun m _ => k - (intOf m).toNat)
      case atStart => exact ⟨0, Nat.zero_le _, rfl, 0, rfl⟩
      case round =>
        obtain ⟨j, hj, rfl, n, rfl⟩ := hrel
        by_cases hjk : j < k
        · obtain ⟨g, cap, hv, -, hgl, -, -⟩ := Rp.own_form HO.out (by intro e; have := HTL.out; rw [e] at this; simp at this; omega)
          injection hv with e1 e2 e3
          subst e1
          clear e2 e3
          have hjl : j < (xs.take k).length := by rw [HTL.out]; exact hjk
          obtain ⟨Aj, cj, hcs, -, -⟩ := ruleOwn_at HO.out hjl
          have hrk : ((xs.take k)[j]'hjl).rank = (xs[j]'(by omega)).rank := by rw [List.getElem_take]
          have r0 : wr.cell? ⟨g, j * 10, none⟩ = some (.int .i64 (xs[j]'(by omega)).rank) := by rw [← hrk]; exact hcs 0 _ rfl
          have hle := HD.out j k (by omega) hlt hjk
          have j0 : (0 : Int) ≤ (j : Int) := by omega
          have j1 : (j : Int) < (k : Int) := by omega
          have j2 : decide ((j : Int) < (k : Int)) = true := decide_eq_true j1
          have k0 : (0 : Int) ≤ (k : Int) := by omega
          have k1 : (k : Int) < (xs.length : Int) := by omega
          clear hcs hrk
          go_wp2_with fail
          go_quiet (fail)
          go_wp2
          go_roundw
          case rel => exact ⟨j + 1, by omega, by go_num, _, rfl⟩
          case measure => simp [intOf]; omega
        · have hjk' : j = k := by omega
          subst hjk'
          have j2 : decide ((j : Int) < (j : Int)) = false := decide_eq_false (by omega)
          go_wp2_with fail
          go_quiet (fail)
          obtain ⟨w1, hw1⟩ : ∃ w1, w1 = (wr.drewN n).drewN nq := ⟨_, rfl⟩
          have HB1 : Hid (Below wr.heap.size wr w1) := by rw [hw1]; exact belDrewN (belDrewN (Below.refl _ _) _) _
          try rw [← hw1]
          have HO1 := Lib.hid (Rp.own_below HO.out HB1.out)
          have HCY := HCX.out
          have hcel : ∀ i u, ((xs[j]'hlt).cells (.slice Ap (xs[j]'hlt).preds.length cp))[i]? = some u → w1.cell? ⟨b, o + j * 10 + i, none⟩ = some u := fun i u hu => by
            have hbl : (⟨b, o + j * 10 + i, none⟩ : Addr).block < wr.heap.size := hb
            rw [HB1.out.cell hbl]
            rcases i with _ | _ | _ | _ | _ | _ | _ | _ | _ | _ | i
            · simp [Rule.cells] at hu; rw [← hu]; exact HCY.c0
            · simp [Rule.cells] at hu; rw [← hu]; exact HCY.c1
            · simp [Rule.cells] at hu; rw [← hu]; exact HCY.c2
            · simp [Rule.cells] at hu; rw [← hu]; exact HCY.c3
            · simp [Rule.cells] at hu; rw [← hu]; exact HCY.c4
            · simp [Rule.cells] at hu; rw [← hu]; exact HCY.c5
            · simp [Rule.cells] at hu; rw [← hu]; exact HCY.c6
            · simp [Rule.cells] at hu; rw [← hu]; exact HCY.c7
            · simp [Rule.cells] at hu; rw [← hu]; exact HCY.c8
            · simp [Rule.cells] at hu; rw [← hu]; exact HCY.c9
            · simp [Rule.cells] at hu
          have HCEL := Lib.hid hcel
          have HBW : Hid (Below w.heap.size w w1) := belTrans HB.out HB1.out
          have HREL : Hid (ruleR.rel w1 (fun k => S k ∧ k < w.heap.size) (xs[j]'hlt) ((xs[j]'hlt).cells (.slice Ap (xs[j]'hlt).preds.length cp))) := ⟨_, rfl, Rp.sl_below HCX.out.pr HB1.out, HCX.out.ok⟩
          have HONE : Hid (∀ u ∈ (xs[j]'hlt).cells (.slice Ap (xs[j]'hlt).preds.length cp), u.oneCell' = true) := ruleR.one (w := w1) (S := fun k => S k ∧ k < w.heap.size) HREL.out
          have hbw1 : b < w1.heap.size := Nat.lt_of_lt_of_le hb HB1.out.size
          clear hw1 x0 hcel HCY
          have k0 : (0 : Int) ≤ (j : Int) := by omega
          have k1 : (j : Int) < (xs.length : Int) := by omega
          have r0 := HCEL.out 0 _ rfl
          have r1 := HCEL.out 1 _ rfl
          have r2 := HCEL.out 2 _ rfl
          have r3 := HCEL.out 3 _ rfl
          have r4 := HCEL.out 4 _ rfl
          have r5 := HCEL.out 5 _ rfl
          have r6 := HCEL.out 6 _ rfl
          have r7 := HCEL.out 7 _ rfl
          have r8 := HCEL.out 8 _ rfl
          have r9 := HCEL.out 9 _ rfl
          rw [Nat.add_zero] at r0
          obtain ⟨inner, hown, hrel⟩ := HO1.out
          rcases hown.2 with ⟨hv, h0⟩ | ⟨g, cap, cur, hv, -, -, -, -, -, -⟩
          · injection hv with e1 e2 e3
            subst e1 e2 e3
            clear hown hrel h0
            simp only [Nat.zero_mul, Nat.add_zero] at r0 r1 r2 r3 r4 r5 r6 r7 r8 r9
            go_wp2_with (first
              | (at_builtin; refine wpList_append_own_none rfl (.tmp 32) (.tmp 35) 30 rfl w1.heap.size 65 i0 10 Tryz.underlying30 hi0 (.slice none 0 0) 0 [] rfl (World.ownsRow_nil _ _ _ _) rfl ?_)
              | (at_builtin; refine wpList_append_own_at _ rfl (.tmp 37) (.tmp 42) 30 rfl w1.heap.size 65 i0 _ 10 112 Tryz.underlying30 hi0 hz0 hz1 hz2 rfl (by decide) (.slice none 0 0) 0 [] rfl (World.ownsRow_nil _ _ _ _) ⟨w1.heap.size, 0, none⟩ 1 1 [.int .i64 (xs[0]'hlt).rank, .slice Ap (xs[0]'hlt).preds.length cp, .string (xs[0]'hlt).target, .int .i64 (xs[0]'hlt).abortPct, .int .i64 (xs[0]'hlt).abortStatus, .int .i64 (xs[0]'hlt).delayPct, .int .i64 (xs[0]'hlt).delayTicks, .int .i64 (xs[0]'hlt).mirrorPct, .string (xs[0]'hlt).mirror, .int .i64 (xs[0]'hlt).sample] rfl rfl (by exact World.news_of_block (cs := #[.int .i64 (xs[0]'hlt).rank, .slice Ap (xs[0]'hlt).preds.length cp, .string (xs[0]'hlt).target, .int .i64 (xs[0]'hlt).abortPct, .int .i64 (xs[0]'hlt).abortStatus, .int .i64 (xs[0]'hlt).delayPct, .int .i64 (xs[0]'hlt).delayTicks, .int .i64 (xs[0]'hlt).mirrorPct, .string (xs[0]'hlt).mirror, .int .i64 (xs[0]'hlt).sample]) (t := 65) (fr := (0, 0)) (heap_at _ _ _ (by first | rfl | simp))) HONE.out (by unfold maxLen; omega) (by omega) (by first | exact Nat.le_refl _ | simp) ?_; intro v2 w2 hown2 hg2 _ _)
              | (at_builtin; refine wpList_append_own_none rfl (.tmp 44) (.tmp 47) 30 rfl w1.heap.size 65 i0 10 Tryz.underlying30 hi0 v2 1 _ rfl hown2 rfl ?_))
            refine ⟨⟨1, by omega, rfl, ?_, ?_⟩, by simp [intOf]; omega⟩
            · refine order_step (w1 := w1) (j := 0) HBW.out.size hown2 rfl (fun i x hi => by simp at hi) hlt HREL.out ?_
              exact (bel (Below.refl _ _) _).grown hg2 (by simp) (fun k hk => by simp [Value.ownBlock] at hk)
            · exact belTrans HBW.out ((bel (Below.refl _ _) _).grown hg2 (by simp) (fun k hk => by simp [Value.ownBlock] at hk))
          · injection hv with e1 e2 e3
            subst e1 e3
            clear e2
            have hcel1 := hown.cells (g := g) rfl
            have hlen1 : inner.length = j * 10 := by rw [hown.1, HTL.out]; rfl
            have hone1 : ∀ u ∈ inner, u.oneCell' = true := rules_one hlen1 hk hrel
            have hgl : g < w1.heap.size := (hown.lt g (by simp [Value.ownBlock])).2
            have HCL := Lib.hid hcel1
            have HIO := Lib.hid hone1
            have HIL := Lib.hid hlen1
            have HRL := Lib.hid hrel
            clear hown hrel hcel1 hone1 hlen1
            have hjc : (j : Int) ≤ (c1 : Int) := by omega
            clear hc2
            by_cases hcap : c1 = j
            · obtain hcap3 : j = c1 := hcap.symm
              clear hcap
              subst hcap3
              go_wp2_with (first
                | (at_builtin; refine wpList_append_own_at _ rfl (.tmp 32) (.tmp 35) 30 rfl w1.heap.size 65 i0 _ 10 112 Tryz.underlying30 hi0 hz0 hz1 hz2 rfl (by decide) (.slice none 0 0) 0 [] rfl (World.ownsRow_nil _ _ _ _) ⟨g, 0, none⟩ _ _ inner rfl HIL.out (by exact HCL.out) HIO.out (by unfold maxLen; omega) (by omega) (by exact Nat.le_refl _) ?_; intro v2 w2 hown2 hg2 _ _; have hq2 := hid_far hg2 hbw1; have s0 := hq2.out _ _ r0; have s1 := hq2.out _ _ r1; have s2 := hq2.out _ _ r2; have s3 := hq2.out _ _ r3; have s4 := hq2.out _ _ r4; have s5 := hq2.out _ _ r5; have s6 := hq2.out _ _ r6; have s7 := hq2.out _ _ r7; have s8 := hq2.out _ _ r8; have s9 := hq2.out _ _ r9)
                | (at_builtin; refine wpList_append_own_at _ rfl (.tmp 37) (.tmp 42) 30 rfl w1.heap.size 65 i0 _ 10 112 Tryz.underlying30 hi0 hz0 hz1 hz2 rfl (by decide) v2 _ _ rfl (hown2.alloc _) ⟨w2.heap.size, 0, none⟩ 1 1 [.int .i64 (xs[j]'hlt).rank, .slice Ap (xs[j]'hlt).preds.length cp, .string (xs[j]'hlt).target, .int .i64 (xs[j]'hlt).abortPct, .int .i64 (xs[j]'hlt).abortStatus, .int .i64 (xs[j]'hlt).delayPct, .int .i64 (xs[j]'hlt).delayTicks, .int .i64 (xs[j]'hlt).mirrorPct, .string (xs[j]'hlt).mirror, .int .i64 (xs[j]'hlt).sample] rfl rfl (by exact World.news_of_block (cs := #[.int .i64 (xs[j]'hlt).rank, .slice Ap (xs[j]'hlt).preds.length cp, .string (xs[j]'hlt).target, .int .i64 (xs[j]'hlt).abortPct, .int .i64 (xs[j]'hlt).abortStatus, .int .i64 (xs[j]'hlt).delayPct, .int .i64 (xs[j]'hlt).delayTicks, .int .i64 (xs[j]'hlt).mirrorPct, .string (xs[j]'hlt).mirror, .int .i64 (xs[j]'hlt).sample]) (t := 65) (fr := (0, 0)) (heap_at _ _ _ (by first | rfl | simp))) HONE.out (by unfold maxLen; omega) (by omega) (by have := hg2.size; simp; omega) ?_; intro v3 w3 hown3 hg3 _ _)
                | (at_builtin; refine wpList_append_own_at _ rfl (.tmp 44) (.tmp 47) 30 rfl w1.heap.size 65 i0 _ 10 112 Tryz.underlying30 hi0 hz0 hz1 hz2 rfl (by decide) v3 _ _ rfl hown3 _ 0 _ [] rfl rfl (by intro j u hu; simp at hu) (by simp) (by unfold maxLen; omega) (by omega) (by have h1 := hg2.size; have h2 := hg3.size; simp at h2; omega) ?_; intro v4 w4 hown4 hg4 _ _))
              refine ⟨⟨j + 1, by omega, by go_num, ?_, ?_⟩, by simp [intOf]; omega⟩
              · refine order_step (w1 := w1) (j := j) (cs := (xs[j]'hlt).cells (.slice Ap (xs[j]'hlt).preds.length cp)) HBW.out.size (by have := hown4; rw [List.append_nil] at this; exact this) (by have := HTL.out; omega) HRL.out hlt HREL.out ?_
                exact order_below hg2 hown2 hg3 hown3 hg4
              · exact belTrans HBW.out (order_below hg2 hown2 hg3 hown3 hg4)
            · have hcap2 : ¬ j = c1 := fun e => hcap e.symm
              go_wp2_with (first
                | (at_builtin; refine wpList_append_own_at _ rfl (.tmp 32) (.tmp 35) 30 rfl w1.heap.size 65 i0 _ 10 112 Tryz.underlying30 hi0 hz0 hz1 hz2 rfl (by decide) (.slice none 0 0) 0 [] rfl (World.ownsRow_nil _ _ _ _) ⟨g, 0, none⟩ _ _ inner rfl HIL.out (by exact HCL.out) HIO.out (by unfold maxLen; omega) (by omega) (by exact Nat.le_refl _) ?_; intro v2 w2 hown2 hg2 _ _; have hq2 := hid_far hg2 hbw1; have s0 := hq2.out _ _ r0; have s1 := hq2.out _ _ r1; have s2 := hq2.out _ _ r2; have s3 := hq2.out _ _ r3; have s4 := hq2.out _ _ r4; have s5 := hq2.out _ _ r5; have s6 := hq2.out _ _ r6; have s7 := hq2.out _ _ r7; have s8 := hq2.out _ _ r8; have s9 := hq2.out _ _ r9)
                | (at_builtin; refine wpList_append_own_at _ rfl (.tmp 37) (.tmp 42) 30 rfl w1.heap.size 65 i0 _ 10 112 Tryz.underlying30 hi0 hz0 hz1 hz2 rfl (by decide) v2 _ _ rfl (hown2.alloc _) ⟨w2.heap.size, 0, none⟩ 1 1 [.int .i64 (xs[j]'hlt).rank, .slice Ap (xs[j]'hlt).preds.length cp, .string (xs[j]'hlt).target, .int .i64 (xs[j]'hlt).abortPct, .int .i64 (xs[j]'hlt).abortStatus, .int .i64 (xs[j]'hlt).delayPct, .int .i64 (xs[j]'hlt).delayTicks, .int .i64 (xs[j]'hlt).mirrorPct, .string (xs[j]'hlt).mirror, .int .i64 (xs[j]'hlt).sample] rfl rfl (by exact World.news_of_block (cs := #[.int .i64 (xs[j]'hlt).rank, .slice Ap (xs[j]'hlt).preds.length cp, .string (xs[j]'hlt).target, .int .i64 (xs[j]'hlt).abortPct, .int .i64 (xs[j]'hlt).abortStatus, .int .i64 (xs[j]'hlt).delayPct, .int .i64 (xs[j]'hlt).delayTicks, .int .i64 (xs[j]'hlt).mirrorPct, .string (xs[j]'hlt).mirror, .int .i64 (xs[j]'hlt).sample]) (t := 65) (fr := (0, 0)) (heap_at _ _ _ (by first | rfl | simp))) HONE.out (by unfold maxLen; omega) (by omega) (by have := hg2.size; simp; omega) ?_; intro v3 w3 hown3 hg3 _ _)
                | (at_builtin; refine wpList_append_own_at _ rfl (.tmp 44) (.tmp 47) 30 rfl w1.heap.size 65 i0 _ 10 112 Tryz.underlying30 hi0 hz0 hz1 hz2 rfl (by decide) v3 _ _ rfl hown3 _ 0 _ [] rfl rfl (by intro j u hu; simp at hu) (by simp) (by unfold maxLen; omega) (by omega) (by have h1 := hg2.size; have h2 := hg3.size; simp at h2; omega) ?_; intro v4 w4 hown4 hg4 _ _))
              refine ⟨⟨j + 1, by omega, by go_num, ?_, ?_⟩, by simp [intOf]; omega⟩
              · refine order_step (w1 := w1) (j := j) (cs := (xs[j]'hlt).cells (.slice Ap (xs[j]'hlt).preds.length cp)) HBW.out.size (by have := hown4; rw [List.append_nil] at this; exact this) (by have := HTL.out; omega) HRL.out hlt HREL.out ?_
                exact order_below hg2 hown2 hg3 hown3 hg4
              · exact belTrans HBW.out (order_below hg2 hown2 hg3 hown3 hg4)
    · have hkk : k = xs.length := by omega
      have HX : Hid (xs.take k = xs) := by unfold Hid; rw [hkk, List.take_length]
      go_wp2
      go_ret
      rw [HX.out] at HO
      exact ⟨⟨_, rfl, HO.out⟩, HB.out⟩
end Go.Proofs.YtnbgfpcpfknjoaaGreatDoor
