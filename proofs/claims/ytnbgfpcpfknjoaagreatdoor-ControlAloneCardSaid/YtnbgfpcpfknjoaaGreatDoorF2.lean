/- control: tables; the state of a plane; the table of a version. -/
import Derived.Test.YtnbgfpcpfknjoaaGreatDoorF1
import Derived.Test.YtnbgfpcpfknjoaaGreatDoorB4
namespace Go.Proofs.YtnbgfpcpfknjoaaGreatDoor
set_option linter.all false
open Go.RowKit

theorem Rp.sl_frame2 {α : Type} {R : Rp α} {w w' : World} {S : Nat → Prop} {v : Value} {xs : List α} (h : R.sl w S v xs) (hf : ∀ k, S k → k < w.heap.size → w'.heap[k]? = w.heap[k]?) : R.sl w' S v xs := by
  obtain ⟨A, c, rfl, h1, h2, h3⟩ := h
  refine ⟨A, c, rfl, h1, h2, fun hne => ?_⟩
  obtain ⟨b, o, hA, hs, hlt, hr⟩ := h3 hne
  refine ⟨b, o, hA, hs, ?_, Rp.row_frame hr hs hlt hf⟩
  have hb := hf b hs hlt
  rcases Nat.lt_or_ge b w'.heap.size with h | h
  · exact h
  · rw [Array.getElem?_eq_none h, Array.getElem?_eq_getElem hlt] at hb; cases hb

/-- A table. -/
structure Tab where
  version : Int
  rules : List Rule
  format : ByteArray
  deriving DecidableEq
instance : Inhabited Tab := ⟨⟨0, [], ⟨#[]⟩⟩⟩
def Tab.cells (t : Tab) (v : Value) : List Value := [.int .i64 t.version, v, .string t.format]
def tabR : Rp Tab where
  sz := 3
  pos := by decide
  rel := fun w S t cs => ∃ v, cs = t.cells v ∧ ruleR.sl w S v t.rules ∧ t.format.size ≤ maxLen ∧ i64ok t.version
  len := by rintro w S x cs ⟨v, rfl, _⟩; rfl
  one := by
    rintro w S x cs ⟨v, rfl, ⟨A, c, rfl, _⟩, _⟩ u hu
    simp [Tab.cells] at hu
    rcases hu with rfl | rfl | rfl <;> rfl
  frame := by
    rintro w w' S x cs ⟨v, rfl, h, hok⟩ hf
    exact ⟨v, rfl, Rp.sl_frame2 h hf, hok⟩
  mono := by
    rintro w S S' x cs ⟨v, rfl, h, hok⟩ hs
    exact ⟨v, rfl, Rp.sl_mono h hs, hok⟩
theorem infoTab : (Tryz.prog.info? 32).map (fun i => (i.zero, i.size, i.bytes)) = some (some (.agg #[.int .i64 0, .slice none 0 0, .string ⟨#[]⟩]), 3, 48) := by kernel_rfl
theorem tabOwn_at {w : World} {S : Nat → Prop} {base e g n c : Nat} {xs : List Tab} (h : tabR.own w S base e (.slice (some ⟨g, 0, none⟩) n c) xs) {i : Nat} (hi : i < xs.length) :
    ∃ Ap cp, w.cell? ⟨g, i * 3, none⟩ = some (.int .i64 (xs[i]'hi).version) ∧ w.cell? ⟨g, i * 3 + 1, none⟩ = some (.slice Ap (xs[i]'hi).rules.length cp) ∧ w.cell? ⟨g, i * 3 + 2, none⟩ = some (.string (xs[i]'hi).format) ∧ ruleR.sl w S (.slice Ap (xs[i]'hi).rules.length cp) (xs[i]'hi).rules ∧ (xs[i]'hi).format.size ≤ maxLen ∧ i64ok (xs[i]'hi).version := by
  obtain ⟨hn, cs, ⟨v, rfl, hr, hf, hv⟩, hc⟩ := Rp.own_at h hi
  obtain ⟨A, c, rfl, h1, h2, h3⟩ := hr
  exact ⟨A, c, hc 0 _ rfl, hc 1 _ rfl, hc 2 _ rfl, ⟨A, c, rfl, h1, h2, h3⟩, hf, hv⟩

/-- A plane in memory: what it only reads lies in S, its tables in the row of vt. -/
structure Plane (w : World) (S : Nat → Prop) (b : Nat) (names : List ByteArray) (vt : Value) (tabs : List Tab) (nr : Nat) : Prop where
  nm : ∃ An cn, w.cell? ⟨b, 0, none⟩ = some (.slice An names.length cn) ∧ strR.sl w S (.slice An names.length cn) names
  c1 : w.cell? ⟨b, 1, none⟩ = some vt
  own : tabR.own w S 0 32 vt tabs
  c2 : w.cell? ⟨b, 2, none⟩ = some (.int .i64 tabs.length)
  c3 : w.cell? ⟨b, 3, none⟩ = some (.int .i64 nr)
  fz : ∀ j, w.frozen? ⟨b, j, none⟩ = false
  nS : ¬ S b
  ng : ∀ g, vt.ownBlock = some g → ¬ S g ∧ g ≠ b ∧ 0 < g
  few : tabs.length ≤ 16
  nr1 : nr ≤ 1000
  pos : 0 < b
theorem Plane.lt {w : World} {S : Nat → Prop} {b : Nat} {names : List ByteArray} {vt : Value} {tabs : List Tab} {nr : Nat} (h : Plane w S b names vt tabs nr) : b < w.heap.size := World.block_lt_of_cell? w _ h.c1
theorem Plane.frame {w w' : World} {S S' : Nat → Prop} {b : Nat} {names : List ByteArray} {vt : Value} {tabs : List Tab} {nr : Nat} (h : Plane w S b names vt tabs nr)
    (hf : ∀ k, k < w.heap.size → (S k ∨ k = b ∨ vt.ownBlock = some k) → w'.heap[k]? = w.heap[k]?) (hS : ∀ k, S k → k < w.heap.size → S' k) (hb : ¬ S' b) (hg : ∀ g, vt.ownBlock = some g → ¬ S' g) : Plane w' S' b names vt tabs nr := by
  have hB := hf b h.lt (.inr (.inl rfl))
  obtain ⟨An, cn, n0, n1⟩ := h.nm
  have m1 := Rp.sl_mono (S' := fun k => S k ∧ k < w.heap.size) n1 fun k hk hl => ⟨hk, hl⟩
  have m2 := Rp.own_lower (S' := fun k => S k ∧ k < w.heap.size) h.own (Nat.le_refl _) fun k hk hl => ⟨hk, hl⟩
  refine ⟨⟨An, cn, (World.cell?_of_block (a := ⟨b, 0, none⟩) hB).trans n0, ?_⟩, (World.cell?_of_block (a := ⟨b, 1, none⟩) hB).trans h.c1, ?_, (World.cell?_of_block (a := ⟨b, 2, none⟩) hB).trans h.c2, (World.cell?_of_block (a := ⟨b, 3, none⟩) hB).trans h.c3, fun j => (World.frozen?_of_block (a := ⟨b, j, none⟩) hB).trans (h.fz j), hb, fun g e => ⟨hg g e, (h.ng g e).2⟩, h.few, h.nr1, h.pos⟩
  · exact Rp.sl_mono (Rp.sl_frame2 m1 fun k hk hl => hf k hl (.inl hk.1)) fun k hk _ => hS k hk.1 hk.2
  · exact Rp.own_lower (Rp.own_frame m2 (fun k hk hl => hf k hl (.inl hk.1)) fun k hk => hf k (Rp.own_base m2 k hk).2 (.inr (.inr hk))) (Nat.le_refl _) fun k hk _ => hS k hk.1 hk.2
theorem Plane.below {w w' : World} {S : Nat → Prop} {b : Nat} {names : List ByteArray} {vt : Value} {tabs : List Tab} {nr : Nat} (h : Plane w S b names vt tabs nr) (hb : Below w.heap.size w w') : Plane w' S b names vt tabs nr :=
  h.frame (fun k hk _ => hb.block k hk) (fun _ hk _ => hk) h.nS fun g e => (h.ng g e).1

/-- A table that was handed out: a value, and what it reads as; all of it lies in S. -/
def TabAt (w : World) (S : Nat → Prop) (vr : Value) (t : Tab) : Prop := ruleR.sl w S vr t.rules ∧ t.format.size ≤ maxLen ∧ i64ok t.version

set_option maxHeartbeats 1000000 in
theorem at_out (S : Nat → Prop) (b : Nat) (names : List ByteArray) (vt : Value) (tabs : List Tab) (nr : Nat) (n : Int) (w : World) (hp : Plane w S b names vt tabs nr) (hn : n < 1 ∨ (tabs.length : Int) < n) :
    Calls Tryz.prog 10 #[.pointer (some ⟨b, 0, none⟩), .int .i64 n] w fun e w' => e = .returned (.tuple #[.agg #[.int .i64 0, .slice none 0 0, .string ⟨#[]⟩], .bool false]) ∧ Below w.heap.size w w' := by
  obtain ⟨At, ct, rfl, -, -⟩ := Rp.own_slice hp.own
  have c1 := hp.c1
  have hbl := hp.lt
  have hf := hp.few
  clear hp
  rcases hn with hn | hn
  · go_enter Tryz.func10, Tryz.ntmps10
    go_wp2
    exact bodyPost_ret (v := .tuple #[.agg #[.int .i64 0, .slice none 0 0, .string ⟨#[]⟩], .bool false]) (by simp [results, Tryz.results10, go_sem]) rfl ⟨rfl, by repeat first | exact Below.refl _ _ | refine bel ?_ _ | refine belSet ?_ (by simp) _⟩
  · have h1 : ¬ n < 1 := by omega
    go_enter Tryz.func10, Tryz.ntmps10
    go_wp2
    exact bodyPost_ret (v := .tuple #[.agg #[.int .i64 0, .slice none 0 0, .string ⟨#[]⟩], .bool false]) (by simp [results, Tryz.results10, go_sem]) rfl ⟨rfl, by repeat first | exact Below.refl _ _ | refine bel ?_ _ | refine belSet ?_ (by simp) _⟩
set_option maxHeartbeats 1000000 in
theorem at_nil (n : Int) (w : World) :
    Calls Tryz.prog 10 #[.pointer none, .int .i64 n] w fun e w' => e = .returned (.tuple #[.agg #[.int .i64 0, .slice none 0 0, .string ⟨#[]⟩], .bool false]) ∧ Below w.heap.size w w' := by
  go_enter Tryz.func10, Tryz.ntmps10
  go_wp2
  exact bodyPost_ret (v := .tuple #[.agg #[.int .i64 0, .slice none 0 0, .string ⟨#[]⟩], .bool false]) (by simp [results, Tryz.results10, go_sem]) rfl ⟨rfl, by repeat first | exact Below.refl _ _ | refine bel ?_ _ | refine belSet ?_ (by simp) _⟩

set_option maxRecDepth 100000 in
set_option maxHeartbeats 4000000 in
theorem at_in (S : Nat → Prop) (b : Nat) (names : List ByteArray) (vt : Value) (tabs : List Tab) (nr : Nat) (i : Nat) (n : Int) (w : World) (hp : Plane w S b names vt tabs nr) (hi : i < tabs.length) (hn : n = (i : Int) + 1) (HC : RulesCap (tabs[i]'hi).rules) :
    Calls Tryz.prog 10 #[.pointer (some ⟨b, 0, none⟩), .int .i64 n] w fun e w' => ∃ vr, e = .returned (.tuple #[.agg #[.int .i64 (tabs[i]'hi).version, vr, .string (tabs[i]'hi).format], .bool true]) ∧ TabAt w' (fun k => (S k ∧ k < w.heap.size) ∨ (w.heap.size ≤ k ∧ k < w'.heap.size)) vr (tabs[i]'hi) ∧ Below w.heap.size w w' := by
  obtain ⟨g, cap, rfl, -, hgl, hle, hcm⟩ := Rp.own_form hp.own (by intro e; rw [e] at hi; simp at hi)
  obtain ⟨Ap, cp, t0, t1, t2, trl, tf, tv⟩ := tabOwn_at hp.own hi
  have c1 := hp.c1
  have hbl := hp.lt
  have hf := hp.few
  obtain ⟨T, hT⟩ : ∃ T, tabs[i]'hi = T := ⟨_, rfl⟩
  rw [hT] at t0 t1 t2 trl tf tv HC ⊢
  have HTR := Lib.hid (Rp.sl_mono (S' := fun k => S k ∧ k < w.heap.size) trl fun k hk hl => ⟨hk, hl⟩)
  have HTF := Lib.hid tf
  have HTV := Lib.hid tv
  have h1 : ¬ n < 1 := by omega
  have h2 : ¬ (tabs.length : Int) < n := by omega
  have h3 : n - 1 = (i : Int) := by omega
  have h4 : (0 : Int) ≤ (i : Int) := by omega
  have h5 : (i : Int) < (tabs.length : Int) := by omega
  have hn1 : 1 ≤ n := by omega
  have hn2 : n ≤ 17 := by omega
  clear hp hT trl tf tv hn
  go_enter Tryz.func10, Tryz.ntmps10
  go_wp2_with fail
  refine (cloneRule_any T.rules _ Ap cp _ (Rp.sl_alloc (Rp.sl_alloc HTR.out _) _) HC.cap).mono ?_
  rintro e w2 ⟨⟨v, rfl, hown⟩, hb2⟩
  obtain ⟨A1, c1', rfl, hc1, hc2⟩ := Rp.own_slice hown
  have hl2 : w.heap.size + 1 < w2.heap.size := by have := hb2.size; simp at this; omega
  have hl1 : w.heap.size < w2.heap.size := by omega
  have u0 : w2.cell? ⟨w.heap.size + 1, 0, none⟩ = some (.int .i64 T.version) := (hb2.cell (p := ⟨w.heap.size + 1, 0, none⟩) (by simp)).trans (by go_simp)
  have u1 : w2.cell? ⟨w.heap.size + 1, 1, none⟩ = some (.slice Ap T.rules.length cp) := (hb2.cell (p := ⟨w.heap.size + 1, 1, none⟩) (by simp)).trans (by go_simp)
  have u2 : w2.cell? ⟨w.heap.size + 1, 2, none⟩ = some (.string T.format) := (hb2.cell (p := ⟨w.heap.size + 1, 2, none⟩) (by simp)).trans (by go_simp)
  have uf : w2.frozen? ⟨w.heap.size + 1, 1, none⟩ = false := (hb2.frozen (p := ⟨w.heap.size + 1, 1, none⟩) (by simp)).trans (by go_simp)
  have v0 : w2.cell? ⟨w.heap.size, 0, none⟩ = some (.int .i64 0) := (hb2.cell (p := ⟨w.heap.size, 0, none⟩) (by simp; omega)).trans (by go_simp)
  have v1 : w2.cell? ⟨w.heap.size, 1, none⟩ = some (.slice none 0 0) := (hb2.cell (p := ⟨w.heap.size, 1, none⟩) (by simp; omega)).trans (by go_simp)
  have v2 : w2.cell? ⟨w.heap.size, 2, none⟩ = some (.string ⟨#[]⟩) := (hb2.cell (p := ⟨w.heap.size, 2, none⟩) (by simp; omega)).trans (by go_simp)
  have vf : ∀ j, w2.frozen? ⟨w.heap.size, j, none⟩ = false := fun j => (hb2.frozen (p := ⟨w.heap.size, j, none⟩) (by simp; omega)).trans (by go_simp)
  have hB2 : Below w.heap.size w w2 := (bel (bel (Below.refl _ w) _) _).trans (hb2.mono (by simp; omega))
  have HV := Lib.hid (And.intro v0 (And.intro v1 (And.intro v2 vf)))
  have HB2 := Lib.hid hB2
  have HOWN := Lib.hid hown
  clear hb2 hB2 hown hc1 hc2 v0 v1 v2 vf t0 t1 t2 c1
  go_wp2_with fail
  obtain ⟨w3, hw3⟩ : ∃ w3, w3 = w2.setCell ⟨w.heap.size + 1, 1, none⟩ (.slice A1 T.rules.length c1') := ⟨_, rfl⟩
  rw [← hw3]
  have u0' : w3.cell? ⟨w.heap.size + 1, 0, none⟩ = some (.int .i64 T.version) := by rw [hw3]; exact (cell_setCell_ne _ (by decide)).trans u0
  have u1' : w3.cell? ⟨w.heap.size + 1, 1, none⟩ = some (.slice A1 T.rules.length c1') := by rw [hw3]; exact cell_setCell_eq _ u1
  have u2' : w3.cell? ⟨w.heap.size + 1, 2, none⟩ = some (.string T.format) := by rw [hw3]; exact (cell_setCell_ne _ (by decide)).trans u2
  have HU := Lib.hid (And.intro u0' (And.intro u1' u2'))
  have hne : ∀ k, k ≠ w.heap.size + 1 → w3.heap[k]? = w2.heap[k]? := fun k hk => by rw [hw3]; exact Below.heap_setCell _ _ _ _ hk
  have HV3 : Hid (w3.cell? ⟨w.heap.size, 0, none⟩ = some (.int .i64 0) ∧ w3.cell? ⟨w.heap.size, 1, none⟩ = some (.slice none 0 0) ∧ w3.cell? ⟨w.heap.size, 2, none⟩ = some (.string ⟨#[]⟩) ∧ ∀ j, w3.frozen? ⟨w.heap.size, j, none⟩ = false) := by
    have hq := hne w.heap.size (by omega)
    exact ⟨(World.cell?_of_block (a := ⟨w.heap.size, 0, none⟩) hq).trans HV.out.1, (World.cell?_of_block (a := ⟨w.heap.size, 1, none⟩) hq).trans HV.out.2.1, (World.cell?_of_block (a := ⟨w.heap.size, 2, none⟩) hq).trans HV.out.2.2.1, fun j => (World.frozen?_of_block (a := ⟨w.heap.size, j, none⟩) hq).trans (HV.out.2.2.2 j)⟩
  have HB3 : Hid (Below w.heap.size w w3) := by rw [hw3]; exact belSet HB2.out (by simp) _
  have hs3 : w3.heap.size = w2.heap.size := by rw [hw3]; simp [World.setCell]
  have hbs := Rp.own_base HOWN.out
  have HO3 : Hid (ruleR.own w3 (cpS (fun k => S k ∧ k < w.heap.size) (w.heap.size + 1 + 1) (.slice A1 T.rules.length c1')) (w.heap.size + 1 + 1) 65 (.slice A1 T.rules.length c1') T.rules) := by
    refine Rp.own_lower (Rp.own_frame (w' := w3) HOWN.out (fun k hk _ => hne k (by have := hk.1.2; omega)) (fun k hk => hne k (by have := (hbs k hk).1; simp at this; omega))) (by simp) fun k hk _ => ⟨.inl ⟨hk.1, by have := hk.1.2; omega⟩, fun e => ?_⟩
    have := (hbs k e).1
    have := hk.1.2
    simp at *
    omega
  have hl3 : w.heap.size + 1 < w3.heap.size := by omega
  clear hw3 u0' u1' u2' hne u0 u1 u2 uf hs3 hbs HV HB2 HOWN
  clear hcm hle
  go_loopw [40] (fun i wr => ∃ k : Nat, k ≤ T.rules.length ∧ i = .int .i64 k ∧ Hid (ruleR.own wr (cpS (fun k => S k ∧ k < w.heap.size) (w.heap.size + 1 + 1) (.slice A1 T.rules.length c1')) (w.heap.size + 1 + 1) 65 (.slice A1 T.rules.length c1') T.rules) ∧ Below (w.heap.size + 1 + 1) w3 wr) (fun i _ => T.rules.length - (intOf i).toNat)
  case atStart => exact ⟨0, Nat.zero_le _, rfl, HO3, Below.refl _ _⟩
  case round =>
    obtain ⟨k, hk, rfl, HO, HBr⟩ := hrel
    have hlr : w.heap.size + 1 < wr.heap.size := Nat.lt_of_lt_of_le hl3 HBr.size
    have hx0 : wr.cell? ⟨w.heap.size + 1, 0, none⟩ = some (.int .i64 T.version) := (HBr.cell (p := ⟨w.heap.size + 1, 0, none⟩) (by show w.heap.size + 1 < _; omega)).trans HU.out.1
    have hx1 : wr.cell? ⟨w.heap.size + 1, 1, none⟩ = some (.slice A1 T.rules.length c1') := (HBr.cell (p := ⟨w.heap.size + 1, 1, none⟩) (by show w.heap.size + 1 < _; omega)).trans HU.out.2.1
    have hx2 : wr.cell? ⟨w.heap.size + 1, 2, none⟩ = some (.string T.format) := (HBr.cell (p := ⟨w.heap.size + 1, 2, none⟩) (by show w.heap.size + 1 < _; omega)).trans HU.out.2.2
    have HBH := Lib.hid HBr
    clear HO3 HBr
    have hfew := HC.few
    by_cases hlt : k < T.rules.length
    · obtain ⟨g1, cap1, hv, hbg, hgl1, hnc, hcm⟩ := Rp.own_form HO.out (by intro e; rw [e] at hlt; simp at hlt)
      injection hv with e1 e2 e3
      subst e1
      clear e2 e3 hnc hcm
      obtain ⟨Ap, cp, hcs, hps, hok⟩ := ruleOwn_at HO.out hlt
      have HPS := Lib.hid hps
      have hfz := Rp.own_frozen HO.out (k * 10 + 1)
      have HOK := Lib.hid hok
      have r0 := hcs 0 _ rfl
      have r1 := hcs 1 _ rfl
      have r2 := hcs 2 _ rfl
      have r3 := hcs 3 _ rfl
      have r4 := hcs 4 _ rfl
      have r5 := hcs 5 _ rfl
      have r6 := hcs 6 _ rfl
      have r7 := hcs 7 _ rfl
      have r8 := hcs 8 _ rfl
      have r9 := hcs 9 _ rfl
      rw [Nat.add_zero] at r0
      have k0 : (0 : Int) ≤ (k : Int) := by omega
      have k1 : (k : Int) < (T.rules.length : Int) := by omega
      have HBX := HBH
      clear hcs hps hok
      go_wp2_with fail
      go_region_held3 (fun w' => w'.cell? ⟨w.heap.size + 1, 1, none⟩ = some (.slice (some ⟨g1, 0, none⟩) T.rules.length c1') ∧ w'.cell? ⟨wr.heap.size, 1, none⟩ = some (.slice Ap (T.rules[k]'hlt).preds.length cp))
        (first
          | go_keep
          | (go_split_ands
             refine ⟨?_, ?_⟩
             all_goals (refine (Below.cell hb (by simp; try omega)).trans ?_; assumption))
          | (go_split_ands
             refine ⟨?_, ?_⟩
             · exact (World.cell?_of_block (a := ⟨w.heap.size + 1, 1, none⟩) (Below.heap_setCell _ _ _ _ (by show w.heap.size + 1 ≠ g1; omega))).trans (by assumption)
             · exact (World.cell?_of_block (a := ⟨wr.heap.size, 1, none⟩) (Below.heap_setCell _ _ _ _ (by show wr.heap.size ≠ g1; omega))).trans (by assumption)))
        ((go_at_call 29; refine (clonePred_any _ _ _ _ _ (Rp.sl_below HPS.out (by repeat first | exact Below.refl _ _ | refine bel ?_ _ | refine belDrew ?_)) (HC.preds k hlt)).mono ?_; rintro e w4 ⟨⟨v2, rfl, ho2⟩, hb⟩; obtain ⟨A2, c2, rfl, -, -⟩ := Rp.own_slice ho2; have s1 := (hb.cell (p := ⟨g1, k * 10 + 1, none⟩) (by simp; omega)).trans ((World.cell?_alloc_past _ _ _ hgl1).trans r1); have s2 := (hb.frozen (p := ⟨g1, k * 10 + 1, none⟩) (by simp; omega)).trans (((bel (Below.refl _ wr) _).frozen (p := ⟨g1, k * 10 + 1, none⟩) hgl1).trans hfz)))
      all_goals
        have hbb : Below wr.heap.size wr w4 := belTrans (by repeat first | exact Below.refl _ _ | refine bel ?_ _ | refine belDrew ?_) hb
        have HBB := Lib.hid hbb
        have HO2 := Lib.hid ho2
        clear hb hbb ho2 r0 r1 r2 r3 r4 r5 r6 r7 r8 r9 hfz s1 s2 hx0 hx1 hx2
        go_wp2
        go_roundw
        case rel =>
          refine ⟨k + 1, by omega, by go_num, ?_, (HBH.out.trans (HBB.out.mono (by omega))).setCell (p := ⟨g1, k * 10 + 1, none⟩) hbg _⟩
          have hset := Rp.own_set (k := k) (j := 1) (Rp.own_below HO.out HBB.out) (by intro hc; exact hc.2 rfl) hlt (by decide) (.slice A2 (T.rules[k]'hlt).preds.length c2) (T.rules[k]'hlt) (by
            rintro cs ⟨vp, rfl, _, hok⟩
            refine ⟨_, rfl, ?_, hok⟩
            refine Rp.own_sl HO2.out (fun q hq _ => hq.1) (fun q hq _ => ?_)
            simp at hq
            exact ⟨.inr (by omega), by simp only [Value.ownBlock, ne_eq, Option.some.injEq]; omega⟩)
          rw [List.set_getElem_self] at hset
          exact hset
        case measure => simp [intOf]; omega
    · have HVr : Hid (wr.cell? ⟨w.heap.size, 0, none⟩ = some (.int .i64 0) ∧ wr.cell? ⟨w.heap.size, 1, none⟩ = some (.slice none 0 0) ∧ wr.cell? ⟨w.heap.size, 2, none⟩ = some (.string ⟨#[]⟩) ∧ ∀ j, wr.frozen? ⟨w.heap.size, j, none⟩ = false) :=
        ⟨(HBH.out.cell (p := ⟨w.heap.size, 0, none⟩) (by show w.heap.size < _; omega)).trans HV3.out.1, (HBH.out.cell (p := ⟨w.heap.size, 1, none⟩) (by show w.heap.size < _; omega)).trans HV3.out.2.1, (HBH.out.cell (p := ⟨w.heap.size, 2, none⟩) (by show w.heap.size < _; omega)).trans HV3.out.2.2.1, fun j => (HBH.out.frozen (p := ⟨w.heap.size, j, none⟩) (by show w.heap.size < _; omega)).trans (HV3.out.2.2.2 j)⟩
      have v0 := HVr.out.1
      have v1 := HVr.out.2.1
      have v2 := HVr.out.2.2.1
      have vf0 := HVr.out.2.2.2 0
      have vf1 := HVr.out.2.2.2 1
      have vf2 := HVr.out.2.2.2 2
      have hlr0 : w.heap.size < wr.heap.size := by omega
      have k1 : ¬ (k : Int) < (T.rules.length : Int) := by omega
      go_wp2
      have hB : Below w.heap.size w wr := HB3.out.trans (HBH.out.mono (by omega))
      refine bodyPost_ret (v := .tuple #[.agg #[.int .i64 T.version, .slice A1 T.rules.length c1', .string T.format], .bool true]) (by simp [results, Tryz.results10, go_sem, v0, v1, v2]) rfl ⟨_, rfl, ⟨?_, HTF.out, HTV.out⟩, ?_⟩
      · have hq := Rp.own_sl (S' := fun k => (S k ∧ k < w.heap.size) ∨ (w.heap.size < k ∧ k < wr.heap.size)) HO.out (fun k hk hl => by
          rcases hk.1 with h | h
          · exact .inl h.1
          · exact .inr ⟨by omega, hl⟩) (fun k hk hl => by right; omega)
        have hfar : ∀ k, k ≠ w.heap.size → ∀ u v x : Value, ((((wr.setCell ⟨w.heap.size, 0, none⟩ u).setCell ⟨w.heap.size, 0 + 1, none⟩ v).setCell ⟨w.heap.size, 0 + 1 + 1, none⟩ x).heap[k]?) = wr.heap[k]? := fun k hk u v x => ((Below.heap_setCell _ _ _ _ hk).trans (Below.heap_setCell _ _ _ _ hk)).trans (Below.heap_setCell _ _ _ _ hk)
        refine Rp.sl_mono (Rp.sl_frame hq (by simp [World.setCell]) fun k hk _ => hfar k (by rcases hk with h | h <;> omega) _ _ _) fun k hk _ => ?_
        rcases hk with h | h
        · exact .inl h
        · exact .inr ⟨by omega, by simp [World.setCell]; omega⟩
      · repeat' first
          | exact hB
          | refine belSet ?_ (by simp) _
end Go.Proofs.YtnbgfpcpfknjoaaGreatDoor
