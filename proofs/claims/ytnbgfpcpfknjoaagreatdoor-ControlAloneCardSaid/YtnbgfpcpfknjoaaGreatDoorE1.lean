/- conf's reader: a rule. -/
import Derived.Test.YtnbgfpcpfknjoaaGreatDoorD9
import Derived.ScopeJumps
import Derived.WalkMore
namespace Go.Proofs.YtnbgfpcpfknjoaaGreatDoor
set_option linter.all false
open Go.RowKit

def RulePost (w : World) (b : Nat) (Al : Option Addr) (cl : Nat) (lines : List ByteArray) (f : ByteArray) (rules : List Rule) (o : Nat × Option Rule) (e : Ending) (w' : World) : Prop :=
  ∃ vr', Rdr w' b (fun k => k < b) Al cl lines o.1 vr' f ∧ Below b w w' ∧ MaxCell w' ∧
    match o.2 with
    | some r => e = .returned (.bool true) ∧ RR w' b w'.heap.size vr' (rules ++ [r])
    | none => e = .returned (.bool false)
theorem rule_fail {w wx : World} {b bx : Nat} {Al : Option Addr} {cl : Nat} {lines : List ByteArray} {at_ : Nat} {vr : Value} {f : ByteArray} {r : Rule} {v : Value} {rules : List Rule} {o : Nat × Option Rule} (h : LS w wx b bx Al cl lines at_ vr f r v rules) (ho : o = (at_, none)) : RulePost w b Al cl lines f rules o (.returned (.bool false)) wx := by
  subst ho
  exact ⟨vr, h.rdr, h.bb, h.mc, rfl⟩
theorem Rp.own_sl2 {α : Type} {R : Rp α} {w : World} {S S' : Nat → Prop} {base e : Nat} {v : Value} {xs : List α} (h : R.own w S base e v xs) (hs : ∀ k, S k → k < w.heap.size → S' k) (hb : ∀ k, v.ownBlock = some k → S' k) : R.sl w S' v xs := by
  obtain ⟨inner, ho, hr⟩ := h
  rcases ho.2 with ⟨rfl, h0⟩ | ⟨g, cap, cur, rfl, hg, hh, hn, hm, hc, ht⟩
  · have : xs = [] := List.eq_nil_of_length_eq_zero h0
    subst this
    exact Rp.sl_nil R w S'
  · have hlt : g < w.heap.size := (Array.getElem?_eq_some_iff.1 hh).1
    refine ⟨_, cap, rfl, hn, hm, fun _ => ⟨g, 0, rfl, hb g (by simp [Value.ownBlock]), hlt, fun i x hx => ⟨_, R.mono (hr i x hx) hs, fun j u hu => ?_⟩⟩⟩
    have := ho.cells (g := g) rfl (i * R.sz + j) u (chunk_get hu)
    rw [Nat.zero_add]
    have ha : (⟨g, 0, none⟩ : Addr).add (i * R.sz + j) = ⟨g, i * R.sz + j, none⟩ := by unfold Addr.add; split <;> simp_all
    rwa [ha] at this
theorem LS.one {w wx : World} {b bx : Nat} {Al : Option Addr} {cl : Nat} {lines : List ByteArray} {at_ : Nat} {vr : Value} {f : ByteArray} {r : Rule} {v : Value} {rules : List Rule} (h : LS w wx b bx Al cl lines at_ vr f r v rules) : ∀ u ∈ r.cells v, u.oneCell' = true := by
  obtain ⟨A, c, hv, _, _⟩ := Rp.own_slice h.pr
  intro u hu
  subst hv
  simp [Rule.cells] at hu
  rcases hu with rfl | rfl | rfl | rfl | rfl | rfl | rfl | rfl | rfl | rfl <;> rfl
theorem Rdr.setRules {w : World} {b : Nat} {S : Nat → Prop} {Al : Option Addr} {cl : Nat} {lines : List ByteArray} {at_ : Nat} {vr : Value} {f : ByteArray} (h : Rdr w b S Al cl lines at_ vr f) (vr' : Value) : Rdr (w.setCell ⟨b, 2, none⟩ vr') b S Al cl lines at_ vr' f :=
  ⟨(cell_setCell_ne _ (by decide)).trans h.c0, (cell_setCell_ne _ (by decide)).trans h.c1, cell_setCell_eq _ h.c2, (cell_setCell_ne _ (by decide)).trans h.c3, fun j => (frozen_setCell _ _ _ _).trans (h.fz j), Rp.sl_frame h.sl (by simp [World.setCell]) (fun k hk _ => Below.heap_setCell _ _ _ _ (by rintro rfl; exact h.nS hk)), h.nS, h.small, h.few, h.atm⟩
theorem rule_done {w w4 W w5 : World} {b bx : Nat} {Al : Option Addr} {cl : Nat} {lines : List ByteArray} {at_ : Nat} {vr : Value} {f : ByteArray} {r : Rule} {v : Value} {rules : List Rule} {inner : List Value} {g cap : Nat} (h : LS w w4 b bx Al cl lines at_ vr f r v rules)
    (hown : w4.ownsRow (b + 1) 65 10 vr rules.length inner) (hrel : ∀ i x, rules[i]? = some x → ruleR.rel w4 (fun k => b < k ∧ k < bx ∧ vr.ownBlock ≠ some k) x ((inner.drop (i * 10)).take 10)) (hW : Below w4.heap.size w4 W) (hg : W.grownBy w5 vr.ownBlock)
    (hown5 : w5.ownsRow (b + 1) 65 10 (.slice (some ⟨g, 0, none⟩) (rules.length + 1) cap) (rules.length + 1) (inner ++ r.cells v)) (hat : vr.ownBlock = some g ∨ g = w4.heap.size + 1) (hok : r.Ok) :
    RulePost w b Al cl lines f rules (at_, some r) (.returned (.bool true)) (w5.setCell ⟨b, 2, none⟩ (.slice (some ⟨g, 0, none⟩) (rules.length + 1) cap)) := by
  have hbl := h.rdr.lt
  have hlt := h.lt
  have hxl := h.xr.lt
  have hne : some b ≠ vr.ownBlock := fun e => by have := (hown.lt b e.symm).1; omega
  have hsame : ∀ k, k < w4.heap.size → some k ≠ vr.ownBlock → w5.heap[k]? = w4.heap[k]? := fun k hk hn => (hg.block k (Nat.lt_of_lt_of_le hk hW.size) hn).trans (hW.block k hk)
  have hlow : ∀ k, k < b → some k ≠ vr.ownBlock := fun k hk e => by have := (hown.lt k e.symm).1; omega
  have hsz : w4.heap.size ≤ w5.heap.size := Nat.le_trans hW.size hg.size
  have hgb : b + 1 ≤ g ∧ g < w5.heap.size := hown5.lt g (by simp [Value.ownBlock])
  have hgn : ∀ k, k < bx → vr.ownBlock ≠ some k → g ≠ k := by
    rintro k hk hn rfl
    rcases hat with e | e
    · exact hn e
    · omega
  have hvx : ∀ k, v.ownBlock = some k → bx + 1 ≤ k ∧ k < w4.heap.size := Rp.own_base h.pr
  have hgv : ∀ k, v.ownBlock = some k → g ≠ k := by
    rintro k hk rfl
    have := hvx _ hk
    rcases hat with e | e
    · have := h.vrb _ e; omega
    · omega
  have hvs : ∀ k, v.ownBlock = some k → w5.heap[k]? = w4.heap[k]? := fun k hk => by
    have := hvx k hk
    exact hsame k this.2 fun e => by have := h.vrb k e.symm; omega
  refine ⟨_, (h.rdr.frame hsz (hsame b hbl hne) (fun k hk hkl => hsame k hkl (hlow k hk))).setRules _, ?_, ?_, rfl, ?_⟩
  · refine Below.setCell (p := ⟨b, 2, none⟩) ?_ (Nat.le_refl _) _
    exact ((h.bb.trans (hW.mono (by omega))).grown hg (by have := hW.size; omega) (fun k hk => by have := (hown.lt k hk).1; omega))
  · exact h.mc.keep ((Below.heap_setCell _ _ _ _ (by have := h.pos; show 0 ≠ b; omega)).trans (hsame 0 (by omega) (hlow 0 h.pos)))
  · have hrow : ruleR.own w5 (fun k => b < k ∧ k < w5.heap.size ∧ (Value.slice (some ⟨g, 0, none⟩) (rules.length + 1) cap).ownBlock ≠ some k) (b + 1) 65 (.slice (some ⟨g, 0, none⟩) (rules.length + 1) cap) (rules ++ [r]) := by
      refine Rp.own_of_append (R := ruleR) (w := w4) (ys := [r]) (news := r.cells v) hown.1 hown5 (fun i x hi => ?_) (fun i x hi => ?_)
      · refine ruleR.mono (ruleR.frame (hrel i x hi) fun k hk hkl => hsame k hkl (fun e => hk.2.2 e.symm)) fun k hk hkl => ⟨hk.1, hkl, ?_⟩
        simp only [Value.ownBlock, ne_eq, Option.some.injEq]
        exact hgn k hk.2.1 hk.2.2
      · rcases i with _ | i
        · have : r = x := by simpa using hi
          subst this
          refine ⟨v, rfl, ?_, hok⟩
          refine Rp.own_sl2 (Rp.own_frame h.pr (fun k hk _ => hk.elim) hvs) (fun k hk _ => hk.elim) fun k hk => ?_
          have := hvx k hk
          refine ⟨by omega, by omega, ?_⟩
          simp only [Value.ownBlock, ne_eq, Option.some.injEq]
          exact hgv k hk
        · simp at hi
    have hbs : ∀ k, b < k → (w5.setCell ⟨b, 2, none⟩ (.slice (some ⟨g, 0, none⟩) (rules.length + 1) cap)).heap[k]? = w5.heap[k]? := fun k hk => Below.heap_setCell _ _ _ _ (by show k ≠ b; omega)
    refine Rp.own_lower (Rp.own_frame hrow (fun k hk _ => hbs k hk.1) (fun k hk => hbs k (by have := Rp.own_base hrow k hk; omega))) (Nat.le_refl _) fun k hk _ => ⟨hk.1, by simp [World.setCell]; exact hk.2.1, hk.2.2⟩
theorem scope_jumps {P : Program} {a : Act} {w : World} {Q : Exit → Act → World → Prop} {c rest : Code} (l : Nat) (J : Act → World → Prop) (μ : Act → World → Nat) (hf : findLabel c l = some (Code.skip.seq rest))
    (pass : ∀ a w, J a w → rest.wp P (Exit.jump l (fun a' w' => J a' w' ∧ μ a' w' < μ a w) Q) a w) (first : (∀ a w, J a w → rest.wp P (Exit.jump l J Q) a w) → c.wp P (Exit.jump l J Q) a w) : (Code.scope c).wp P Q a w := by
  refine wp_scope_jumps l J μ hf (first fun a w h => wp_mono (pass a w h) ?_) fun a w h => wp_seq (wp_skip (pass a w h))
  intro e a' w' he
  cases e <;> first
    | exact he
    | exact ⟨he.1, he.2.1⟩
theorem optF_zero {r : Rule} {lines : List ByteArray} {at_ : Nat} (h : (optF r lines at_).1 = 0) : optF r lines at_ = (0, false, r) := by
  unfold optF at h ⊢
  dsimp only at h ⊢
  split at h
  · split at h <;> simp at h
  · split at h
    · split at h <;> simp at h
    · split at h
      · split at h <;> simp at h
      · split at h
        · simp at h
        · rename_i h1 h2 h3 h4
          rw [if_neg h1, if_neg h2, if_neg h3, if_neg h4]
theorem optF_empty {r : Rule} {lines : List ByteArray} {at_ : Nat} (h : (wordF lines at_).1 = empty) : optF r lines at_ = (0, false, r) := by
  unfold optF
  simp only [h]
  rw [if_neg (by decide), if_neg (by decide), if_neg (by decide), if_neg (by decide)]
theorem optF_le (r : Rule) (lines : List ByteArray) (at_ : Nat) : (optF r lines at_).1 ≤ 4 := by
  unfold optF
  dsimp only
  split
  · split <;> simp
  · split
    · split <;> simp
    · split
      · split <;> simp
      · split <;> simp
theorem predF_empty {lines : List ByteArray} {at_ : Nat} (h : (wordF lines at_).1 = empty) : predF lines at_ = none := by
  unfold predF
  simp only [h]
  rw [if_neg (by decide), if_neg (by decide), if_neg (by decide), if_neg (by decide), if_neg (by decide), if_neg (by decide)]
theorem LS.start {w w1 : World} {b : Nat} {Al : Option Addr} {cl : Nat} {lines : List ByteArray} {at_ : Nat} {vr : Value} {f : ByteArray} {rules : List Rule} (rank : Int) (hr : Rdr w1 b (fun k => k < b) Al cl lines at_ vr f) (hlt : at_ < lines.length) (hb1 : Below w.heap.size w w1) (hE : w1.heap.size = w.heap.size) (hrr : RR w b w.heap.size vr rules) (hm : MaxCell w1) (hpos : 0 < b) :
    LS w ((w1.setCell ⟨b, 1, none⟩ (.int .i64 ((at_ : Int) + 1))).alloc (.cells #[.int .i64 rank, .slice none 0 0, .string ⟨#[]⟩, .int .i64 0, .int .i64 0, .int .i64 0, .int .i64 0, .int .i64 0, .string ⟨#[]⟩, .int .i64 0] 65)) b w1.heap.size Al cl lines (at_ + 1) vr f (newRule rank [] empty) (.slice none 0 0) rules := by
  have hblt := hr.lt
  have hal : Below (w1.setCell ⟨b, 1, none⟩ (.int .i64 ((at_ : Int) + 1))).heap.size _ _ := bel (Below.refl _ (w1.setCell ⟨b, 1, none⟩ (.int .i64 ((at_ : Int) + 1)))) (.cells #[.int .i64 rank, .slice none 0 0, .string ⟨#[]⟩, .int .i64 0, .int .i64 0, .int .i64 0, .int .i64 0, .int .i64 0, .string ⟨#[]⟩, .int .i64 0] 65)
  have hs1 : (w1.setCell ⟨b, 1, none⟩ (.int .i64 ((at_ : Int) + 1))).heap.size = w1.heap.size := by simp [World.setCell]
  have hvr : ∀ k, vr.ownBlock = some k → k < w1.heap.size := fun k hk => by have := (Rp.own_base hrr k hk).2; omega
  have hr1 : RR w1 b w1.heap.size vr rules := by
    have := hrr.frame (w' := w1) (fun k _ hk _ => hb1.block k hk) (fun k hk => by have := hvr k hk; omega)
    rw [← hE] at this
    exact this
  have hne : ∀ k, b < k → (w1.setCell ⟨b, 1, none⟩ (.int .i64 ((at_ : Int) + 1))).heap[k]? = w1.heap[k]? := fun k hk => Below.heap_setCell _ _ _ _ (by show k ≠ b; omega)
  refine ⟨(hr.next hlt).below hal, ?_, ⟨[], World.ownsRow_nil _ _ _ _, fun i x hx => by simp [newRule] at hx⟩, ?_, ?_, by omega, hvr, hE, ?_, hpos⟩
  · refine ⟨?_, ?_, ?_, ?_, ?_, ?_, ?_, ?_, ?_, ?_, ?_⟩
    all_goals first
      | (intro j; exact World.frozen?_alloc_at _ _ _ _ hs1.symm)
      | (rw [World.cell?_alloc_at _ _ _ _ hs1.symm]; rfl)
  · exact RR.frame (w := w1) hr1 (fun k hk hlt' _ => (hal.block k (by omega)).trans (hne k hk)) hvr
  · exact ((hb1.mono (B' := b) (by omega)).setCell (p := ⟨b, 1, none⟩) (Nat.le_refl _) _).trans (hal.mono (by omega))
  · exact (hm.keep (Below.heap_setCell _ _ _ _ (by show 0 ≠ b; omega))).below hal

def tabV (f : Nat → Value) : Nat → Nat → List Value
  | 0, _ => []
  | n + 1, k => f k :: tabV f n (k + 1)
theorem tabV_getD (l : List Value) (f : Nat → Value) (k : Nat) (h : ∀ i, i < l.length → l[i]? = some (f (k + i))) : l = tabV f l.length k := by
  induction l generalizing k with
  | nil => rfl
  | cons x l ih =>
    have h0 := h 0 (by simp)
    simp at h0
    show x :: l = f k :: tabV f l.length (k + 1)
    rw [h0, ← ih (k + 1) fun i hi => by have := h (i + 1) (by simp; omega); simp at this; rw [this, show k + (i + 1) = k + 1 + i by omega]]
set_option maxRecDepth 100000 in
theorem ruleFrame {a : Act} {b bx : Nat} (hs : a.tmps.size = 98) (h0 : a.tmps[0]? = some (.pointer (some ⟨b, 0, none⟩))) (h1 : a.tmps[1]? = some undef) (h2 : a.tmps[2]? = some (.bool false)) (h7 : a.tmps[7]? = some (.pointer (some ⟨bx, 0, none⟩))) (hd : a.defers = []) :
    ∃ us : Nat → Value, a = { tmps := #[.pointer (some ⟨b, 0, none⟩), undef, .bool false, us 3, us 4, us 5, us 6, .pointer (some ⟨bx, 0, none⟩), us 8, us 9, us 10, us 11, us 12, us 13, us 14, us 15, us 16, us 17, us 18, us 19, us 20, us 21, us 22, us 23, us 24, us 25, us 26, us 27, us 28, us 29, us 30, us 31, us 32, us 33, us 34, us 35, us 36, us 37, us 38, us 39, us 40, us 41, us 42, us 43, us 44, us 45, us 46, us 47, us 48, us 49, us 50, us 51, us 52, us 53, us 54, us 55, us 56, us 57, us 58, us 59, us 60, us 61, us 62, us 63, us 64, us 65, us 66, us 67, us 68, us 69, us 70, us 71, us 72, us 73, us 74, us 75, us 76, us 77, us 78, us 79, us 80, us 81, us 82, us 83, us 84, us 85, us 86, us 87, us 88, us 89, us 90, us 91, us 92, us 93, us 94, us 95, us 96, us 97], defers := [] } := by
  obtain ⟨⟨l⟩, ds⟩ := a
  dsimp only at hs h0 h1 h2 h7 hd
  subst hd
  refine ⟨fun n => l.getD n undef, ?_⟩
  have hl : l.length = 98 := hs
  have e := tabV_getD l (fun n => l.getD n undef) 0 (fun i hi => by simp [hi])
  rw [hl] at e
  have g : ∀ i x, (Array.mk l)[i]? = some x → l.getD i undef = x := fun i x hx => by simp at hx; simp [hx]
  have e0 := g 0 _ h0
  have e1 := g 1 _ h1
  have e2 := g 2 _ h2
  have e7 := g 7 _ h7
  simp only [tabV, Nat.zero_add, Nat.reduceAdd, e0, e1, e2, e7] at e
  simp only [Act.mk.injEq, and_true, Array.mk.injEq]
  exact e

def RuleMu (b : Nat) (lines : List ByteArray) (_a : Act) (wx : World) : Nat := lines.length - (match wx.cell? ⟨b, 1, none⟩ with | some v => (intOf v).toNat | none => 0)
def RuleJ (w : World) (b bx : Nat) (Al : Option Addr) (cl : Nat) (lines : List ByteArray) (Ar : Option Addr) (cr : Nat) (f : ByteArray) (rules : List Rule) (rank : Int) (T : Nat × Option Rule) : Act → World → Prop := (fun a' wx => ∃ (at_ : Nat) (r : Rule) (v : Value), (a'.tmps.size = 98 ∧ a'.tmps[0]? = some (.pointer (some ⟨b, 0, none⟩)) ∧ a'.tmps[1]? = some (undef) ∧ a'.tmps[2]? = some (.bool false) ∧ a'.tmps[7]? = some (.pointer (some ⟨bx, 0, none⟩)) ∧ a'.defers = []) ∧ LS w wx b bx Al cl lines at_ (.slice Ar rules.length cr) f r v rules ∧ newRule rank r.preds empty = r ∧ r.preds.length ≤ at_ ∧ ∃ fuel, lines.length - at_ < fuel ∧ behindF lines rank (predsF lines fuel at_ r.preds) = T)
theorem RuleMu_at {b : Nat} {lines : List ByteArray} {a : Act} {wx : World} {n : Nat} (h : wx.cell? ⟨b, 1, none⟩ = some (.int .i64 (n : Int))) : RuleMu b lines a wx = lines.length - n := by
  unfold RuleMu
  rw [h]
  simp [intOf]
theorem RuleMu_lt {b : Nat} {lines : List ByteArray} {a a' : Act} {wx w' : World} {n : Nat} (h : wx.cell? ⟨b, 1, none⟩ = some (.int .i64 (n : Int))) (h' : w'.cell? ⟨b, 1, none⟩ = some (.int .i64 ((n + 1 : Nat) : Int))) (hlt : n < lines.length) : RuleMu b lines a' w' < RuleMu b lines a wx := by
  rw [RuleMu_at h, RuleMu_at h']
  omega

set_option maxRecDepth 100000 in
set_option maxHeartbeats 8000000 in
theorem rule_good (b : Nat) (Al : Option Addr) (cl : Nat) (lines : List ByteArray) (at0 : Nat) (Ar : Option Addr) (cr : Nat) (f : ByteArray) (rules : List Rule) (w : World) (hr : Rdr w b (fun k => k < b) Al cl lines at0 (.slice Ar rules.length cr) f) (hm : MaxCell w) (hrr : RR w b w.heap.size (.slice Ar rules.length cr) rules) (hrf : rules.length ≤ 5000) (hpos : 0 < b) (hlt0 : at0 < lines.length) (hn : (numF (wordF lines at0).2).2 = true) (rank : Int) (hrank : (numF (wordF lines at0).2).1 = rank) (T : Nat × Option Rule) (hT : behindF lines rank (predsF lines (lines.length + 1) (at0 + 1) []) = T) (bx : Nat) (hbx : w.heap.size = bx) (HOK : Hid (∀ r, T.2 = some r → r.Ok)) :
    Calls Tryz.prog 64 #[.pointer (some ⟨b, 0, none⟩)] w (RulePost w b Al cl lines f rules T) := by
  have HR := Lib.hid hr
  have HM := Lib.hid hm
  have HRR := Lib.hid hrr
  have HN := Lib.hid hn
  have HK := Lib.hid hrank
  have HT := Lib.hid hT
  have HX := Lib.hid hbx
  have hsz : Hid ((wordF lines at0).2.size ≤ maxLen) := by
    unfold Hid wordF; rw [dif_pos hlt0]; exact Nat.le_trans (cutS_len _).2 (by have := hr.small at0 hlt0; unfold maxLen; omega)
  have hfew := hr.few
  have HLEN : Hid (rules.length + 1 ≤ maxLen ∧ (rules.length + 1) * 112 ≤ 140737488355328) := ⟨by unfold maxLen; omega, by omega⟩
  clear hr hm hrr hn hrank hT hbx
  go_enter Tryz.func64, Tryz.ntmps64
  go_wp2
  refine scope_jumps 0 (RuleJ w b bx Al cl lines Ar cr f rules rank T) (RuleMu b lines) rfl ?_ (fun hrest => ?_)
  · intro a wx hJ
    obtain ⟨at_, r, v, ⟨hsz, hf0, hf1, hf2, hf7, hdf⟩, hLS, hform0, hpl, fuel0, hfu0, hFE0⟩ := hJ
    obtain ⟨us, rfl⟩ := ruleFrame hsz hf0 hf1 hf2 hf7 hdf
    clear hsz hf0 hf1 hf2 hf7 hdf
    have HL := Lib.hid hLS
    have hform : Hid (∀ x, { r with target := x } = newRule rank r.preds x) := fun x => by
      have := congrArg (fun q : Rule => { q with target := x }) hform0
      exact this.symm
    have HFORM0 := Lib.hid hform0
    have HF : ∃ fuel, lines.length - at_ < fuel ∧ Hid (behindF lines rank (predsF lines fuel at_ r.preds) = T) := ⟨fuel0, hfu0, hFE0⟩
    clear hLS hform0 hfu0 hFE0
    go_wp2_with fail
    refine (word_any b _ Al cl lines (at_) (.slice Ar rules.length cr) f _ HL.out.rdr HL.out.mc).mono ?_
    rintro e w2 ⟨rfl, n2, hw2⟩
    have HL2 : Hid (LS w w2 b (bx) Al cl lines (at_) (.slice Ar rules.length cr) f (r) (v) rules) := by rw [hw2]; exact HL.out.below (belDrewN (Below.refl _ _) _)
    clear hw2
    obtain ⟨fuel, hfu, HFE⟩ := HF
    obtain ⟨fuel, rfl⟩ : ∃ g, fuel = g + 1 := ⟨fuel - 1, by omega⟩
    have hat := HL2.out.rdr.atm
    have hfw := HL2.out.rdr.few
    by_cases hto : (wordF lines (at_)).1 = kTo
    · have hlt := word_lt (lines := lines) (at_ := at_) (by rw [hto]; decide)
      have HE : Hid (behindF lines rank ((at_), some (r).preds) = T) := by have := HFE.out; rw [predsF, if_pos hto] at this; exact this
      have HTO := Lib.hid hto
      clear hto HFE
      rw [show (wordF lines (at_)).1 = ⟨#[116, 111]⟩ from HTO.out]
      go_wp2_with fail
      refine (single_any b _ Al cl lines (at_) (.slice Ar rules.length cr) f _ _ HL2.out.rdr hlt).mono ?_
      rintro e w3 ⟨rfl, n3, hw3⟩
      have HL3 : Hid (LS w w3 b (bx) Al cl lines (at_) (.slice Ar rules.length cr) f (r) (v) rules) := by rw [hw3]; exact HL2.out.below (belDrewN (Below.refl _ _) _)
      clear hw3 HL2
      cases hs : singleF (lines[at_]'hlt) (wordF lines (at_)).2
      · have HE2 : Hid (T = ((at_), none)) := by have := HE.out; rw [behindF, getD_lt hlt, hs, if_pos rfl] at this; exact this.symm
        go_wp2
        go_ret
        exact rule_fail HL3.out HE2.out
      · have HE2 : Hid (optsF lines 5 (at_ + 1) 0 (newRule rank (r).preds (wordF lines (at_)).2) = T) := by have := HE.out; rw [behindF, getD_lt hlt, hs, if_neg (by decide)] at this; exact this
        clear HE
        have c1 := HL3.out.rdr.c1
        have f1 := HL3.out.rdr.fz 1
        have x2 := HL3.out.xr.c2
        have g2 := HL3.out.xr.fz 2
        have hbb := HL3.out.lt
        have hlb := HL3.out.xr.lt
        go_wp2_with fail
        have HL4 := Lib.hid ((HL3.out.target (wordF lines (at_)).2).next hlt)
        have HE3 : Hid (optsF lines 5 (at_ + 1) 0 { (r) with target := (wordF lines (at_)).2 } = T) := by have := HE2.out; rw [hform.out]; exact this
        clear c1 f1 x2 g2 HL3 HE2
        go_loopw [10] (fun l wr => ∃ (last at_ : Nat) (r : Rule), l = .int .i64 last ∧ Hid (LS w wr b (bx) Al cl lines at_ (.slice Ar rules.length cr) f r (v) rules) ∧ last ≤ 4 ∧ ∃ fuel, 4 - last < fuel ∧ Hid (optsF lines fuel at_ last r = T)) (fun l _ => 4 - (intOf l).toNat)
        case atStart => exact ⟨0, at_ + 1, _, rfl, HL4, by omega, 5, by omega, HE3⟩
        case round =>
          obtain ⟨last, at_, r, rfl, HLr, hl4, fu, hfu2, HEr⟩ := hrel
          obtain ⟨fu, rfl⟩ : ∃ g, fu = g + 1 := ⟨fu - 1, by omega⟩
          clear HL4 HE3 hform
          have hc := optR_any b (bx) Al cl lines at_ (.slice Ar rules.length cr) f r (v) wr HLr.out.rdr HLr.out.mc HLr.out.xr HLr.out.lt
          by_cases h0 : (optF r lines at_).1 = 0
          · have HEX : Hid (T = (at_, some r)) := by have := HEr.out; rw [optsF, if_pos h0] at this; exact this.symm
            have hz : optF r lines at_ = (0, false, r) := optF_zero h0
            rw [hz] at hc
            clear h0 HEr
            go_wp2_with fail
            refine hc.mono ?_
            rintro e w4 ⟨rfl, hopt⟩
            have HL5 := Lib.hid (HLr.out.opt rfl hopt)
            clear hc hopt hz HLr
            obtain ⟨inner, hown, hrel⟩ := HL5.out.rr
            have HOC : Hid (∀ u ∈ r.cells (v), u.oneCell' = true) := LS.one HL5.out
            have HOWN := Lib.hid hown
            have HREL := Lib.hid hrel
            clear hown hrel
            obtain ⟨i0', hi0', hz0, hz1, hz2⟩ := info_parts3 infoRule
            have x0 := HL5.out.xr.c0
            have x1 := HL5.out.xr.c1
            have x2 := HL5.out.xr.c2
            have x3 := HL5.out.xr.c3
            have x4 := HL5.out.xr.c4
            have x5 := HL5.out.xr.c5
            have x6 := HL5.out.xr.c6
            have x7 := HL5.out.xr.c7
            have x8 := HL5.out.xr.c8
            have x9 := HL5.out.xr.c9
            have b2 := HL5.out.rdr.c2
            have f2 := HL5.out.rdr.fz 2
            have hbl4 := HL5.out.rdr.lt
            have hne : some b ≠ (Value.slice Ar rules.length cr).ownBlock := fun e => by have := (HOWN.out.lt b e.symm).1; omega
            go_wp2_with fail
            go_region_law (refine step_append_lies _ rfl (.tmp 91) (.tmp 93) 30 rfl (b + 1) 65 i0' _ 10 112 Tryz.underlying30 hi0' hz0 hz1 hz2 rfl (by decide) (.slice Ar rules.length cr) rules.length inner (by simp [Act.eval, Act.put]) (by exact ownsRow_below HOWN.out (by repeat first | exact Below.refl _ _ | refine bel ?_ _ | refine belDrew ?_ | refine belDrewN ?_ _)) ⟨w4.heap.size, 0, none⟩ 1 1 [.int .i64 r.rank, (v), .string r.target, .int .i64 r.abortPct, .int .i64 r.abortStatus, .int .i64 r.delayPct, .int .i64 r.delayTicks, .int .i64 r.mirrorPct, .string r.mirror, .int .i64 r.sample] (by simp [Act.eval, Act.put]) rfl (by exact World.news_of_block (cs := #[.int .i64 r.rank, (v), .string r.target, .int .i64 r.abortPct, .int .i64 r.abortStatus, .int .i64 r.delayPct, .int .i64 r.delayTicks, .int .i64 r.mirrorPct, .string r.mirror, .int .i64 r.sample]) (t := 65) (fr := (0, 0)) (heap_at _ _ _ (by simp))) (by exact HOC.out) (by decide) HLEN.out.1 HLEN.out.2 (by simp; omega) (w4.heap.size + 1) (by simp) ?_; intro g cap w5 hown5 hg hat5 hlt5; have s1 := (hg.cell_far ⟨b, 2, none⟩ (by simp; omega) hne).trans ((Below.cell (w := w4) (B := w4.heap.size) (by repeat first | exact Below.refl _ _ | refine bel ?_ _ | refine belDrew ?_ | refine belDrewN ?_ _) hbl4).trans b2); have s2 := (hg.frozen_far ⟨b, 2, none⟩ (by simp; omega) hne).trans ((Below.frozen (w := w4) (B := w4.heap.size) (by repeat first | exact Below.refl _ _ | refine bel ?_ _ | refine belDrew ?_ | refine belDrewN ?_ _) hbl4).trans f2))
            all_goals
              have HG := Lib.hid hg
              have HO5 := Lib.hid hown5
              have HAT := Lib.hid hat5
              clear hg hown5 hat5 hlt5 x0 x1 x2 x3 x4 x5 x6 x7 x8 x9 b2 f2
              go_wp2
              go_ret
              rw [HEX.out]
              exact rule_done HL5.out HOWN.out HREL.out (by repeat first | exact Below.refl _ _ | refine bel ?_ _ | refine belDrew ?_ | refine belDrewN ?_ _) HG.out HO5.out HAT.out (HOK.out r (by rw [HEX.out]))
          · have hz : (((optF r lines at_).1 : Int) == 0) = false := beq_eq_false_iff_ne.2 (by omega)
            have hlt2 : at_ < lines.length := by
              refine word_lt (lines := lines) (at_ := at_) fun he => h0 ?_
              rw [optF_empty he]
            have HO0 := Lib.hid h0
            clear h0
            by_cases hk : (optF r lines at_).2.1 = false ∨ (optF r lines at_).1 ≤ last
            · have HEX : Hid (T = (at_, none)) := by have := HEr.out; rw [optsF, if_neg HO0.out, if_pos hk] at this; exact this.symm
              rcases hk with hk | hk
              · go_wp2_with fail
                refine hc.mono ?_
                rintro e w4 ⟨rfl, hopt⟩
                have HL5 := Lib.hid (HLr.out.opt (optF_preds r lines at_) hopt)
                clear hc hopt HLr
                go_wp2
                go_ret
                exact rule_fail HL5.out HEX.out
              · cases hk2 : (optF r lines at_).2.1
                · go_wp2_with fail
                  refine hc.mono ?_
                  rintro e w4 ⟨rfl, hopt⟩
                  have HL5 := Lib.hid (HLr.out.opt (optF_preds r lines at_) hopt)
                  clear hc hopt HLr
                  go_wp2
                  go_ret
                  exact rule_fail HL5.out HEX.out
                · have hk' : ((optF r lines at_).1 : Int) ≤ (last : Int) := by omega
                  go_wp2_with fail
                  refine hc.mono ?_
                  rintro e w4 ⟨rfl, hopt⟩
                  have HL5 := Lib.hid (HLr.out.opt (optF_preds r lines at_) hopt)
                  clear hc hopt HLr
                  go_wp2
                  go_ret
                  exact rule_fail HL5.out HEX.out
            · have hk2 : (optF r lines at_).2.1 = true := by cases h : (optF r lines at_).2.1 <;> simp [h] at hk ⊢
              have hk' : ¬ ((optF r lines at_).1 : Int) ≤ (last : Int) := by omega
              have HEX : Hid (optsF lines fu (at_ + 1) (optF r lines at_).1 (optF r lines at_).2.2 = T) := by have := HEr.out; rw [optsF, if_neg HO0.out, if_neg hk] at this; exact this
              have h4 := optF_le r lines at_
              clear hk
              have hat2 := HLr.out.rdr.few
              go_wp2_with fail
              refine hc.mono ?_
              rintro e w4 ⟨rfl, hopt⟩
              have HL5 := Lib.hid (HLr.out.opt (optF_preds r lines at_) hopt)
              clear hc hopt HLr
              have c1 := HL5.out.rdr.c1
              have f1 := HL5.out.rdr.fz 1
              go_wp2
              go_roundw
              case rel => exact ⟨(optF r lines at_).1, at_ + 1, _, rfl, HL5.out.next hlt2, h4, fu, by omega, HEX⟩
              case measure => simp [intOf]; omega
    · have hto' : ((wordF lines (at_)).1.toList == [116, 111]) = false := by
        have e1 : kTo.toList = [116, 111] := by rw [toList_bs]; rfl
        rw [← e1]; exact ne_of_toList hto
      have HTO := Lib.hid hto
      clear hto
      go_wp2_with fail
      have hc := predR_any b (bx) Al cl lines (at_) (.slice Ar rules.length cr) f (r) (v) w2 HL2.out.rdr HL2.out.mc HL2.out.xr HL2.out.pr HL2.out.lt (Nat.le_trans hpl (by omega))
      cases hp : predF lines (at_) with
      | none =>
        rw [hp] at hc
        have HE2 : Hid (T = ((at_), none)) := by have := HFE.out; rw [predsF, if_neg HTO.out, hp] at this; exact this.symm
        refine hc.mono ?_
        rintro e w3 ⟨rfl, hb3⟩
        have HL3 := Lib.hid (HL2.out.below hb3)
        clear hc hb3 HL2 HFE
        go_wp2
        go_ret
        exact rule_fail HL3.out HE2.out
      | some p =>
        rw [hp] at hc
        have HE2 : Hid (behindF lines rank (predsF lines fuel (at_ + 1) ((r).preds ++ [p])) = T) := by have := HFE.out; rw [predsF, if_neg HTO.out, hp] at this; exact this
        refine hc.mono ?_
        rintro e w3 ⟨rfl, hnp⟩
        obtain ⟨v3, hl3⟩ := HL2.out.pred hnp
        have HL3 := Lib.hid hl3
        have hlt : at_ < lines.length := by
          refine word_lt (lines := lines) (at_ := at_) ?_
          intro he
          have : predF lines (at_) = none := predF_empty he
          rw [this] at hp; cases hp
        clear hc hnp hl3 HL2 HFE
        have c1 := HL3.out.rdr.c1
        have f1 := HL3.out.rdr.fz 1
        go_wp2_with fail
        have hc1 : w3.cell? ⟨b, 1, none⟩ = some (.int .i64 (at_ : Int)) := HL3.out.rdr.c1
        have hnx := HL3.out.next hlt
        have HNX := Lib.hid hnx
        clear hnx
        go_step3
        refine ⟨rfl, ⟨at_ + 1, { r with preds := r.preds ++ [p] }, v3, ⟨rfl, rfl, rfl, rfl, rfl, rfl⟩, HNX.out, ?_, ?_, fuel, by omega, HE2.out⟩, ?_⟩
        · show newRule rank (r.preds ++ [p]) empty = { r with preds := r.preds ++ [p] }
          rw [← HFORM0.out]; rfl
        · simp; omega
        · exact RuleMu_lt HL.out.rdr.c1 HNX.out.rdr.c1 hlt
  · go_wp2_with fail
    refine (word_any b _ Al cl lines at0 (.slice Ar rules.length cr) f w HR.out HM.out).mono ?_
    rintro e w1 ⟨rfl, n, hw1⟩
    have hb1 : Below w.heap.size w w1 := by rw [hw1]; exact belDrewN (Below.refl _ _) _
    have E : w1.heap.size = bx := by rw [hw1]; exact HX.out
    clear hw1
    subst E
    go_wp2_with fail
    refine (number_any _ _ hsz.out).mono ?_
    rintro e w2 ⟨rfl, rfl⟩
    rw [HN.out, HK.out]
    have HR1 := Lib.hid (HR.out.below hb1)
    have c1 := HR1.out.c1
    have f1 := HR1.out.fz 1
    have hbl := HR1.out.lt
    go_wp2_with fail
    have HL := Lib.hid (LS.start (rules := rules) rank HR1.out hlt0 hb1 HX.out.symm HRR.out (HM.out.below hb1) hpos)
    go_step3
    rename_i hK
    refine hK _ _ (hrest _ _ ?_)
    exact ⟨at0 + 1, newRule rank [] empty, .slice none 0 0, ⟨rfl, rfl, rfl, rfl, rfl, rfl⟩, HL.out, rfl, Nat.zero_le _, lines.length + 1, by omega, HT.out⟩
end Go.Proofs.YtnbgfpcpfknjoaaGreatDoor
