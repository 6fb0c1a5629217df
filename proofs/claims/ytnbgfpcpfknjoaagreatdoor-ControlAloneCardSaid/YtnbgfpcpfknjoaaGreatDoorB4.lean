/- rule.copied. -/
import Derived.Test.YtnbgfpcpfknjoaaGreatDoorRP
namespace Go.Proofs.YtnbgfpcpfknjoaaGreatDoor
set_option linter.all false
open Go.RowKit

/-- Where rules that were copied lie: in blocks as before, or in new ones; not in the row's own. -/
def cpS (S : Nat → Prop) (B : Nat) (v : Value) : Nat → Prop := fun k => ((S k ∧ k < B) ∨ B ≤ k) ∧ v.ownBlock ≠ some k
theorem setCell_below {w wr : World} {g : Nat} (hb : Below w.heap.size w wr) (hg : w.heap.size ≤ g) (j : Nat) (u : Value) : Below w.heap.size w (wr.setCell ⟨g, j, none⟩ u) := hb.setCell (p := ⟨g, j, none⟩) hg u

theorem ruleOwn_at {w : World} {S : Nat → Prop} {base e g n c : Nat} {xs : List Rule} (h : ruleR.own w S base e (.slice (some ⟨g, 0, none⟩) n c) xs) {i : Nat} (hi : i < xs.length) :
    ∃ Ap cp, (∀ j u, ((xs[i]'hi).cells (.slice Ap (xs[i]'hi).preds.length cp))[j]? = some u → w.cell? ⟨g, i * 10 + j, none⟩ = some u) ∧ predR.sl w S (.slice Ap (xs[i]'hi).preds.length cp) (xs[i]'hi).preds ∧ (xs[i]'hi).Ok := by
  obtain ⟨_, cs, ⟨v, rfl, hp, hok⟩, hc⟩ := Rp.own_at h hi
  obtain ⟨Ap, cp, rfl, h1, h2, h3⟩ := hp
  exact ⟨Ap, cp, hc, ⟨Ap, cp, rfl, h1, h2, h3⟩, hok⟩

set_option maxRecDepth 100000 in
set_option maxHeartbeats 1000000 in
theorem copied_any (xs : List Rule) (S : Nat → Prop) (A : Option Addr) (c : Nat) (w : World) (h : ruleR.sl w S (.slice A xs.length c) xs) (HB : Cap (xs.length * 112)) (HP : Hid (∀ i, ∀ hi : i < xs.length, Cap ((xs[i]'hi).preds.length * 40))) :
    Calls Tryz.prog 67 #[.slice A xs.length c] w fun e w' => (∃ v, e = .returned v ∧ ruleR.own w' (cpS S w.heap.size v) w.heap.size 65 v xs) ∧ Below w.heap.size w w' := by
  have HM := Rp.sl_lenv h
  unfold maxLen at HM
  have HH := Lib.hid h
  clear h
  go_enter Tryz.func67, Tryz.ntmps67
  go_wp2_with fail
  refine (cloneRule_any xs S A c w HH.out HB).mono ?_
  rintro e w1 ⟨⟨v, rfl, hown⟩, hb⟩
  obtain ⟨A1, c1, rfl, hc1, hc2⟩ := Rp.own_slice hown
  have HO1 : Hid (ruleR.own w1 (cpS S w.heap.size (.slice A1 xs.length c1)) w.heap.size 65 (.slice A1 xs.length c1) xs) := by
    obtain ⟨inner, ho, hr⟩ := hown
    refine ⟨inner, ho, fun i x hx => ruleR.mono (hr i x hx) fun k hk _ => ⟨.inl hk, fun e => ?_⟩⟩
    have := (ho.lt k e).1
    omega
  clear hown hc1 hc2
  go_wp2
  go_loopw [10] (fun i wr => ∃ k : Nat, k ≤ xs.length ∧ i = .int .i64 k ∧ Hid (ruleR.own wr (cpS S w.heap.size (.slice A1 xs.length c1)) w.heap.size 65 (.slice A1 xs.length c1) xs) ∧ Below w.heap.size w wr) (fun i _ => xs.length - (intOf i).toNat)
  case atStart => exact ⟨0, Nat.zero_le _, rfl, HO1, hb⟩
  case round =>
    obtain ⟨k, hk, rfl, HO, HB'⟩ := hrel
    clear hb HO1
    by_cases hlt : k < xs.length
    · obtain ⟨g, cap, hv, hbg, hgl, hnc, hcm⟩ := Rp.own_form HO.out (by intro e; rw [e] at hlt; simp at hlt)
      injection hv with e1 e2 e3
      subst e1
      clear e2 e3 hnc hcm
      obtain ⟨Ap, cp, hcs, hps, hok⟩ := ruleOwn_at HO.out hlt
      have HPS := Lib.hid hps
      have hfz := Rp.own_frozen HO.out (k * 10 + 1)
      have HOK := Lib.hid hok
      have r0 := hcs 0 _ rfl
      have r1 := hcs 1 _ rfl
      have r2 := hcs 2 _ rfl
      have r3 := hcs 3 _ rfl
      have r4 := hcs 4 _ rfl
      have r5 := hcs 5 _ rfl
      have r6 := hcs 6 _ rfl
      have r7 := hcs 7 _ rfl
      have r8 := hcs 8 _ rfl
      have r9 := hcs 9 _ rfl
      rw [Nat.add_zero] at r0
      clear hcs hps hok
      go_wp2_with fail
      refine (clonePred_any _ _ _ _ _ (Rp.sl_alloc HPS.out _) (HP.out k hlt)).mono ?_
      rintro e w2 ⟨⟨v2, rfl, ho2⟩, hb2⟩
      obtain ⟨A2, c2, rfl, -, -⟩ := Rp.own_slice ho2
      have HO2 := Lib.hid ho2
      have s1 : w2.cell? ⟨g, k * 10 + 1, none⟩ = some (.slice Ap (xs[k]'hlt).preds.length cp) := (hb2.cell (p := ⟨g, k * 10 + 1, none⟩) (by simp; omega)).trans ((World.cell?_alloc_past _ _ _ hgl).trans r1)
      have s2 : w2.frozen? ⟨g, k * 10 + 1, none⟩ = false := (hb2.frozen (p := ⟨g, k * 10 + 1, none⟩) (by simp; omega)).trans (((bel (Below.refl _ wr) _).frozen (p := ⟨g, k * 10 + 1, none⟩) hgl).trans hfz)
      clear r0 r1 r2 r3 r4 r5 r6 r7 r8 r9 ho2 hfz
      go_wp2
      go_roundw
      case rel =>
        have hbb : Below wr.heap.size wr w2 := belTrans (bel (Below.refl _ _) _) hb2
        refine ⟨k + 1, by omega, by go_num, ?_, setCell_below (belTrans HB' hbb) hbg _ _⟩
        have hset := Rp.own_set (k := k) (j := 1) (Rp.own_below HO.out hbb) (by intro hc; exact hc.2 rfl) hlt (by decide) (.slice A2 (xs[k]'hlt).preds.length c2) (xs[k]'hlt) (by
          rintro cs ⟨vp, rfl, _, hok⟩
          refine ⟨_, rfl, ?_, hok⟩
          refine Rp.own_sl HO2.out (fun q hq _ => hq.1) (fun q hq _ => ?_)
          have hsz := HB'.size
          simp only [World.size_alloc] at hq
          exact ⟨.inr (by omega), by simp only [Value.ownBlock, ne_eq, Option.some.injEq]; omega⟩)
        rw [List.set_getElem_self] at hset
        exact hset
      case measure => simp [intOf]; omega
    · go_wp2
      go_ret
      exact ⟨⟨_, rfl, HO.out⟩, HB'⟩
end Go.Proofs.YtnbgfpcpfknjoaaGreatDoor
