/- control.Publish. -/
import Derived.Test.YtnbgfpcpfknjoaaGreatDoorF2
import Derived.Test.YtnbgfpcpfknjoaaGreatDoorE1
namespace Go.Proofs.YtnbgfpcpfknjoaaGreatDoor
set_option linter.all false
open Go.RowKit

theorem firstErr_all {α : Type} {f : α → Int} : ∀ {l : List α}, firstErr f l = 0 → ∀ i, ∀ hi : i < l.length, f (l[i]'hi) = 0
  | [], _, i, hi => by simp at hi
  | a :: l, h, 0, _ => by
    unfold firstErr at h
    split at h
    · assumption
    · exact h
  | a :: l, h, i + 1, hi => by
    unfold firstErr at h
    split at h
    · exact firstErr_all h i (by simpa using hi)
    · rename_i h'; exact absurd h h'
theorem tabErr_ok {rules : List Rule} {f : ByteArray} {names : List ByteArray} (h : tabErr rules f names = 0) : formatOk f = true ∧ rules.length ≤ 16 ∧ ∀ i, ∀ hi : i < rules.length, ruleChk (rules[i]'hi) names = 0 := by
  unfold tabErr cfgChk at h
  split at h
  · cases h
  · rename_i h1
    split at h
    · cases h
    · exact ⟨by simpa using h1, by omega, firstErr_all h⟩
theorem ruleChk_preds {r : Rule} {names : List ByteArray} (h : ruleChk r names = 0) : r.preds.length ≤ 4 := by
  unfold ruleChk at h
  split at h
  · cases h
  · split at h
    · cases h
    · omega
theorem tabErr_cap {rules : List Rule} {f : ByteArray} {names : List ByteArray} (h : tabErr rules f names = 0) : RulesCap rules := by
  obtain ⟨_, h1, h2⟩ := tabErr_ok h
  exact ⟨h1, ⟨by omega⟩, fun i hi => ⟨by have := ruleChk_preds (h2 i hi); omega⟩⟩
theorem judgeF_zero {names : List ByteArray} {n : Nat} {s : ByteArray} {rules : List Rule} {f : ByteArray} (h : judgeF names n s = (0, rules, f)) : tabErr rules f names = 0 ∧ n < 16 := by
  unfold judgeF at h
  dsimp only at h
  split at h
  · rename_i h1; injection h with h2; exact absurd h2 h1
  · split at h
    · rename_i h1; injection h with h2; exact absurd h2 h1
    · rename_i h1
      split at h
      · injection h with h2; cases h2
      · injection h with h2 h3
        injection h3 with h3 h4
        subst h3 h4
        exact ⟨by simpa using h1, by omega⟩

/-- What a plane does with a text: the error, or the table. -/
def pubF (names : List ByteArray) (n : Nat) (s : ByteArray) : Int × Option Tab :=
  let j := judgeF names n s
  if j.1 = 0 then (0, some ⟨(n : Int) + 1, orderF j.2.1, j.2.2⟩) else (j.1, none)

/-- Only the plane's block and its tables' row may have been turned. -/
structure Touch (w w' : World) (b : Nat) (vt vt' : Value) : Prop where
  os : w'.os = w.os
  tape : w'.tape = w.tape
  output : w'.output = w.output
  size : w.heap.size ≤ w'.heap.size
  block : ∀ k, k < w.heap.size → k ≠ b → vt.ownBlock ≠ some k → w'.heap[k]? = w.heap[k]?
  fresh : ∀ g, vt'.ownBlock = some g → g < w'.heap.size ∧ (vt.ownBlock = some g ∨ w.heap.size ≤ g)
def PubPost (w : World) (S : Nat → Prop) (b : Nat) (names : List ByteArray) (vt : Value) (tabs : List Tab) (nr : Nat) (o : Int × Option Tab) (e : Ending) (w' : World) : Prop :=
  ∃ vt', Touch w w' b vt vt' ∧ match o.2 with
    | some t => e = .returned (.tuple #[.int .i64 ((tabs.length + 1 : Nat) : Int), .int .i64 0]) ∧ Plane w' (fun k => (S k ∧ k < w.heap.size) ∨ (w.heap.size ≤ k ∧ k < w'.heap.size ∧ vt'.ownBlock ≠ some k)) b names vt' (tabs ++ [t]) nr
    | none => e = .returned (.tuple #[.int .i64 0, .int .i64 o.1]) ∧ Plane w' (fun k => (S k ∧ k < w.heap.size) ∨ (w.heap.size ≤ k ∧ k < w'.heap.size ∧ vt'.ownBlock ≠ some k)) b names vt' tabs (nr + 1)
theorem Plane.refuse {w w1 : World} {S : Nat → Prop} {b : Nat} {names : List ByteArray} {vt : Value} {tabs : List Tab} {nr : Nat} (h : Plane w S b names vt tabs nr) (hb : Below w.heap.size w w1) (hr : nr < 1000) {o : Int × Option Tab} {e : Int} (ho : o = (e, none)) :
    PubPost w S b names vt tabs nr o (.returned (.tuple #[.int .i64 0, .int .i64 e])) (w1.setCell ⟨b, 3, none⟩ (.int .i64 ((nr + 1 : Nat) : Int))) := by
  subst ho
  have hbl := h.lt
  have h1 := h.below hb
  have hbs := Rp.own_base h.own
  have hne : ∀ k, k ≠ b → (w1.setCell ⟨b, 3, none⟩ (.int .i64 ((nr + 1 : Nat) : Int))).heap[k]? = w1.heap[k]? := fun k hk => Below.heap_setCell _ _ _ _ hk
  refine ⟨vt, ⟨?_, ?_, ?_, ?_, fun k hk hkb _ => (hne k hkb).trans (hb.block k hk), fun g e => ⟨?_, .inl e⟩⟩, rfl, ?_⟩
  · exact hb.os
  · exact hb.tape
  · exact hb.output
  · simp only [World.setCell, Array.size_modify]; exact hb.size
  · have := (hbs g e).2; have := hb.size; simp only [World.setCell, Array.size_modify]; omega
  · obtain ⟨An, cn, n0, n1⟩ := (h.frame (w' := w1) (S' := fun k => S k ∧ k < w.heap.size) (fun k hk _ => hb.block k hk) (fun k hk hl => ⟨hk, hl⟩) (fun hc => h.nS hc.1) (fun g e hc => (h.ng g e).1 hc.1)).nm
    have ow := (h.frame (w' := w1) (S' := fun k => S k ∧ k < w.heap.size) (fun k hk _ => hb.block k hk) (fun k hk hl => ⟨hk, hl⟩) (fun hc => h.nS hc.1) (fun g e hc => (h.ng g e).1 hc.1)).own
    refine ⟨⟨An, cn, (cell_setCell_ne _ (by decide)).trans n0, ?_⟩, (cell_setCell_ne _ (by decide)).trans h1.c1, ?_, (cell_setCell_ne _ (by decide)).trans h1.c2, cell_setCell_eq _ h1.c3, fun j => (frozen_setCell _ _ _ _).trans (h1.fz j), ?_, ?_, h.few, by omega, h.pos⟩
    · exact Rp.sl_mono (Rp.sl_frame2 n1 fun k hk _ => hne k (by rintro rfl; exact h.nS hk.1)) fun k hk _ => .inl hk
    · exact Rp.own_lower (Rp.own_frame ow (fun k hk _ => hne k (by rintro rfl; exact h.nS hk.1)) fun k hk => hne k (h.ng k hk).2.1) (Nat.le_refl _) fun k hk _ => .inl hk
    · rintro (hc | hc)
      · exact h.nS hc.1
      · omega
    · intro g e
      refine ⟨?_, (h.ng g e).2⟩
      rintro (hc | hc)
      · exact (h.ng g e).1 hc.1
      · exact hc.2.2 e
theorem ownsRow_len {w : World} {base e size : Nat} {v : Value} {n : Nat} {xs : List Value} (h : w.ownsRow base e size v n xs) : xs.length = n * size := h.1
/-- A table has been added. -/
theorem Plane.add {w w3 W w5 : World} {S S3 : Nat → Prop} {b : Nat} {names : List ByteArray} {vt : Value} {tabs : List Tab} {nr : Nat} (h : Plane w S b names vt tabs nr) (hb3 : Below w.heap.size w w3) {inner : List Value} {t : Tab} {v : Value} {g cap : Nat}
    (hown : w3.ownsRow 0 32 3 vt tabs.length inner) (hrel : ∀ i x, tabs[i]? = some x → tabR.rel w3 (fun k => S k ∧ k < w.heap.size) x ((inner.drop (i * 3)).take 3))
    (ht : tabR.rel w3 S3 t (t.cells v)) (hS3 : ∀ k, S3 k → w.heap.size ≤ k ∧ k < w3.heap.size) (hW : Below w3.heap.size w3 W) (hg : W.grownBy w5 vt.ownBlock)
    (hown5 : w5.ownsRow 0 32 3 (.slice (some ⟨g, 0, none⟩) (tabs.length + 1) cap) (tabs.length + 1) (inner ++ t.cells v)) (hat : vt.ownBlock = some g ∨ g = w3.heap.size + 1) (hn : tabs.length < 16) {o : Int × Option Tab} (ho : o = (0, some t)) {n1 : Int} (hn1 : n1 = (tabs.length : Int) + 1) :
    PubPost w S b names vt tabs nr o (.returned (.tuple #[.int .i64 n1, .int .i64 0])) ((w5.setCell ⟨b, 1, none⟩ (.slice (some ⟨g, 0, none⟩) (tabs.length + 1) cap)).setCell ⟨b, 2, none⟩ (.int .i64 n1)) := by
  subst ho
  have hbl := h.lt
  have hbs := Rp.own_base h.own
  have hsz3 := hb3.size
  have hnb : vt.ownBlock ≠ some b := fun e => (h.ng b e).2.1 rfl
  have hsame : ∀ k, k < w3.heap.size → vt.ownBlock ≠ some k → w5.heap[k]? = w3.heap[k]? := fun k hk hn => (hg.block k (Nat.lt_of_lt_of_le hk hW.size) (fun e => hn e.symm)).trans (hW.block k hk)
  have hsize : w3.heap.size ≤ w5.heap.size := Nat.le_trans hW.size hg.size
  have hgl : g < w5.heap.size := (hown5.lt g (by simp [Value.ownBlock])).2
  have hset : ∀ k, k ≠ b → ((w5.setCell ⟨b, 1, none⟩ (.slice (some ⟨g, 0, none⟩) (tabs.length + 1) cap)).setCell ⟨b, 2, none⟩ (.int .i64 n1)).heap[k]? = w5.heap[k]? := fun k hk => (Below.heap_setCell _ _ _ _ hk).trans (Below.heap_setCell _ _ _ _ hk)
  have hss : ((w5.setCell ⟨b, 1, none⟩ (.slice (some ⟨g, 0, none⟩) (tabs.length + 1) cap)).setCell ⟨b, 2, none⟩ (.int .i64 n1)).heap.size = w5.heap.size := by simp [World.setCell]
  have hob : (Value.slice (some ⟨g, 0, none⟩) (tabs.length + 1) cap).ownBlock = some g := by simp [Value.ownBlock]
  have hgS : ∀ k, S k → k < w.heap.size → g ≠ k := by
    rintro k hk hl rfl
    rcases hat with e | e
    · exact (h.ng _ e).1 hk
    · omega
  have hgb : g ≠ b := by
    rcases hat with e | e
    · exact (h.ng _ e).2.1
    · omega
  have hg3 : ∀ k, S3 k → g ≠ k := by
    rintro k hk rfl
    have := hS3 _ hk
    rcases hat with e | e
    · have := (hbs _ e).2; omega
    · omega
  have h5b : w5.heap[b]? = w.heap[b]? := (hsame b (by omega) hnb).trans (hb3.block b hbl)
  obtain ⟨An, cn, n0, n2⟩ := h.nm
  have m1 := Rp.sl_mono (S' := fun k => S k ∧ k < w.heap.size) n2 fun k hk hl => ⟨hk, hl⟩
  have hSv : ∀ k, S k → vt.ownBlock ≠ some k := fun k hk e => (h.ng k e).1 hk
  refine ⟨.slice (some ⟨g, 0, none⟩) (tabs.length + 1) cap, ⟨?_, ?_, ?_, ?_, fun k hk hkb hkv => (hset k hkb).trans ((hsame k (by omega) hkv).trans (hb3.block k hk)), fun g' e => ?_⟩, by rw [hn1]; rfl, ?_⟩
  · show w5.os = w.os; rw [hg.os, hW.os, hb3.os]
  · show w5.tape = w.tape; rw [hg.tape, hW.tape, hb3.tape]
  · show w5.output = w.output; rw [hg.output, hW.output, hb3.output]
  · omega
  · rw [hob] at e
    injection e with e
    subst e
    refine ⟨by omega, ?_⟩
    rcases hat with e | e
    · exact .inl e
    · exact .inr (by omega)
  · refine ⟨⟨An, cn, (cell_setCell_ne _ (by decide)).trans ((cell_setCell_ne _ (by decide)).trans ((World.cell?_of_block (a := ⟨b, 0, none⟩) h5b).trans n0)), ?_⟩, (cell_setCell_ne _ (by decide)).trans (cell_setCell_eq _ ((World.cell?_of_block (a := ⟨b, 1, none⟩) h5b).trans h.c1)), ?_, ?_, (cell_setCell_ne _ (by decide)).trans ((cell_setCell_ne _ (by decide)).trans ((World.cell?_of_block (a := ⟨b, 3, none⟩) h5b).trans h.c3)), fun j => (frozen_setCell _ _ _ _).trans ((frozen_setCell _ _ _ _).trans ((World.frozen?_of_block (a := ⟨b, j, none⟩) h5b).trans (h.fz j))), ?_, ?_, by simp; omega, h.nr1, h.pos⟩
    · exact Rp.sl_mono (Rp.sl_frame2 m1 fun k hk _ => (hset k (by rintro rfl; exact h.nS hk.1)).trans ((hsame k (by omega) (hSv k hk.1)).trans (hb3.block k hk.2))) fun k hk _ => .inl hk
    · have hrow : tabR.own w5 (fun k => (S k ∧ k < w.heap.size) ∨ S3 k) 0 32 (.slice (some ⟨g, 0, none⟩) (tabs.length + 1) cap) (tabs ++ [t]) := by
        refine Rp.own_of_append (R := tabR) (w := w3) (ys := [t]) (news := t.cells v) (ownsRow_len hown) hown5 (fun i x hi => ?_) (fun i x hi => ?_)
        · exact tabR.mono (tabR.frame (hrel i x hi) fun k hk hkl => hsame k hkl (hSv k hk.1)) fun k hk _ => .inl hk
        · rcases i with _ | i
          · have : t = x := by simpa using hi
            subst this
            exact tabR.mono (tabR.frame ht fun k hk hkl => hsame k hkl (fun e => by have := (hbs k e).2; have := (hS3 k hk).1; omega)) fun k hk _ => .inr hk
          · simp at hi
      refine Rp.own_lower (Rp.own_frame hrow (fun k hk _ => hset k ?_) (fun k hk => hset k ?_)) (Nat.le_refl _) fun k hk _ => ?_
      · rcases hk with hk | hk
        · rintro rfl; exact h.nS hk.1
        · have := (hS3 k hk).1; omega
      · rw [hob] at hk; injection hk with hk; omega
      · rcases hk with hk | hk
        · exact .inl hk
        · have := hS3 k hk
          refine .inr ⟨this.1, by omega, ?_⟩
          rw [hob]
          intro e; injection e with e
          exact hg3 k hk e
    · rw [hn1]
      exact cell_setCell_eq _ ((cell_setCell_ne _ (by decide)).trans ((World.cell?_of_block (a := ⟨b, 2, none⟩) h5b).trans h.c2)) |>.trans (by simp)
    · rintro (hc | hc)
      · exact h.nS hc.1
      · omega
    · intro g' e
      rw [hob] at e
      injection e with e
      subst e
      refine ⟨?_, hgb, ?_⟩
      · rintro (hc | hc)
        · exact hgS _ hc.1 hc.2 rfl
        · exact hc.2.2 hob
      · rcases hat with e | e
        · exact (h.ng _ e).2.2
        · omega

theorem publish_nil (s : ByteArray) (w : World) :
    Calls Tryz.prog 9 #[.pointer none, .string s] w fun e w' => e = .returned (.tuple #[.int .i64 0, .int .i64 1]) ∧ w = w' := by
  go_enter Tryz.func9, Tryz.ntmps9
  go_wp2
  go_ret2
  exact ⟨rfl, rfl⟩

set_option maxRecDepth 100000 in
set_option maxHeartbeats 8000000 in
theorem publish_any (S : Nat → Prop) (b : Nat) (names : List ByteArray) (vt : Value) (tabs : List Tab) (nr : Nat) (s : ByteArray) (w : World) (hp : Plane w S b names vt tabs nr) (hm : MaxCell w) (hs : s.size ≤ maxLen) (hr : nr < 1000) :
    Calls Tryz.prog 9 #[.pointer (some ⟨b, 0, none⟩), .string s] w (PubPost w S b names vt tabs nr (pubF names tabs.length s)) := by
  obtain ⟨O, hO⟩ : ∃ O, pubF names tabs.length s = O := ⟨_, rfl⟩
  rw [hO]
  have HO := Lib.hid hO
  obtain ⟨At, ct, rfl, -, -⟩ := Rp.own_slice hp.own
  obtain ⟨An, cn, n0, n1⟩ := hp.nm
  obtain ⟨J, hJ⟩ : ∃ J, judgeF names tabs.length s = J := ⟨_, rfl⟩
  have HC := Lib.hid (judge_any b An At cn tabs.length ct names S s w hm hs n0 hp.c1 n1 (by have := hp.few; omega))
  rw [hJ] at HC
  have HJ := Lib.hid hJ
  have HP := Lib.hid hp
  have HM := Lib.hid hm
  have hbl := hp.lt
  have c0 := Lib.hid n0
  have c1 := Lib.hid hp.c1
  have HN := Lib.hid n1
  obtain ⟨er, rules, fmt⟩ := J
  clear hO hJ hp hm n0 n1
  go_enter Tryz.func9, Tryz.ntmps9
  go_wp2_with fail
  refine HC.out.mono ?_
  intro e w1 hq
  obtain ⟨A, c, rfl, hsl, hfm, hb1, hm1⟩ := hq
  dsimp only at hsl hfm
  have hl1 : w.heap.size ≤ w1.heap.size := hb1.size
  have HSL := Lib.hid hsl
  have HFM := Lib.hid hfm
  have HB1 := Lib.hid hb1
  clear hsl hfm hb1 hm1 HC
  by_cases he : er = 0
  · subst he
    have hz := judgeF_zero HJ.out
    have HO2 : Hid (O = (0, some ⟨(tabs.length : Int) + 1, orderF rules, fmt⟩)) := by
      have := HO.out; unfold pubF at this; rw [HJ.out] at this; exact this.symm
    have HT := Lib.hid hz.1
    have hn16 := hz.2
    have e0 : w1.cell? ⟨b, 0, none⟩ = some (.slice An names.length cn) := (HB1.out.cell (p := ⟨b, 0, none⟩) hbl).trans c0.out
    have e1 : w1.cell? ⟨b, 1, none⟩ = some (.slice At tabs.length ct) := (HB1.out.cell (p := ⟨b, 1, none⟩) hbl).trans c1.out
    have hbl1 : b < w1.heap.size := by omega
    have HRC := tabErr_cap hz.1
    clear hz
    have hne1 : w1.heap.size + 1 ≠ b := by omega
    have hne2 : b ≠ w1.heap.size + 1 := by omega
    have hne3 : w1.heap.size ≠ b := by omega
    have i1 : IntKind.i64.wrap ((tabs.length : Int) + 1) = (tabs.length : Int) + 1 := IntWalk.i64_in _ (by omega)
    go_wp2_with fail
    go_region_held3 (fun w' => w'.cell? ⟨b, 0, none⟩ = some (.slice An names.length cn) ∧ w'.cell? ⟨b, 1, none⟩ = some (.slice At tabs.length ct) ∧ w'.cell? ⟨w1.heap.size, 0, none⟩ = some (.slice A rules.length c) ∧ w'.cell? ⟨w1.heap.size, 1, none⟩ = some (.string fmt))
      (first
        | go_keep
        | (go_split_ands
           refine ⟨?_, ?_, ?_, ?_⟩
           all_goals (refine (Below.cell hb (by simp; try omega)).trans ?_; assumption)))
      ((go_at_call 26; refine (compile_ok rules fmt ((tabs.length : Int) + 1) names _ S A An c cn _ (Rp.sl_below HSL.out (by repeat first | exact Below.refl _ _ | refine bel ?_ _ | refine belDrew ?_)) HFM.out (Rp.sl_below HN.out (by repeat first | exact HB1.out | refine bel ?_ _ | refine belDrew ?_)) (by unfold rangeB; simp; omega) HT.out HRC).mono ?_; rintro e w2 ⟨⟨v, rfl, ho⟩, hb⟩; obtain ⟨A1, c1', rfl, -, -⟩ := Rp.own_slice ho; have s0 : w2.cell? ⟨w1.heap.size + 1, 0, none⟩ = some (.int .i64 0) := (hb.cell (p := ⟨w1.heap.size + 1, 0, none⟩) (by simp)).trans (by go_simp); have s1 : w2.cell? ⟨w1.heap.size + 1, 1, none⟩ = some (.slice none 0 0) := (hb.cell (p := ⟨w1.heap.size + 1, 1, none⟩) (by simp)).trans (by go_simp); have s2 : w2.cell? ⟨w1.heap.size + 1, 2, none⟩ = some (.string ⟨#[]⟩) := (hb.cell (p := ⟨w1.heap.size + 1, 2, none⟩) (by simp)).trans (by go_simp); have t0 : w2.frozen? ⟨w1.heap.size + 1, 0, none⟩ = false := (hb.frozen (p := ⟨w1.heap.size + 1, 0, none⟩) (by simp)).trans (by go_simp); have t1 : w2.frozen? ⟨w1.heap.size + 1, 1, none⟩ = false := (hb.frozen (p := ⟨w1.heap.size + 1, 1, none⟩) (by simp)).trans (by go_simp); have t2 : w2.frozen? ⟨w1.heap.size + 1, 2, none⟩ = false := (hb.frozen (p := ⟨w1.heap.size + 1, 2, none⟩) (by simp)).trans (by go_simp); have hl2 : w1.heap.size + 1 < w2.heap.size := by have := hb.size; simp at this; omega))
    have hb2 : Below w1.heap.size w1 w2 := belTrans (by repeat first | exact Below.refl _ _ | refine bel ?_ _ | refine belDrew ?_) hb
    have HOW : Hid (ruleR.sl w2 (fun k => (w.heap.size ≤ k ∧ k < w1.heap.size) ∨ (w1.heap.size + 1 + 1 ≤ k ∧ k < w2.heap.size)) (.slice A1 (orderF rules).length c1') (orderF rules)) :=
      Rp.own_sl ho (fun k hk hl => by
        rcases hk.1 with h | h
        · exact .inl ⟨h.1.1, h.1.2⟩
        · simp at h; exact .inr ⟨by omega, hl⟩) (fun k hk hl => by simp at hk; exact .inr ⟨by omega, hl⟩)
    have HB2 : Hid (Below w.heap.size w w2) := HB1.out.trans (hb2.mono hl1)
    clear hb hb2 ho
    have htl : ¬ (tabs.length = 17) := by omega
    go_wp2_with fail
    obtain ⟨w3, hw3⟩ : ∃ w3, w3 = (((w2.setCell ⟨w1.heap.size + 1, 0, none⟩ (.int .i64 ((tabs.length : Int) + 1))).setCell ⟨w1.heap.size + 1, 1, none⟩ (.slice A1 (orderF rules).length c1')).setCell ⟨w1.heap.size + 1, 2, none⟩ (.string fmt)) := ⟨_, rfl⟩
    rw [← hw3]
    have x0 : w3.cell? ⟨w1.heap.size + 1, 0, none⟩ = some (.int .i64 ((tabs.length : Int) + 1)) := by rw [hw3]; exact (cell_setCell_ne _ (by decide)).trans ((cell_setCell_ne _ (by decide)).trans (cell_setCell_eq _ s0))
    have x1 : w3.cell? ⟨w1.heap.size + 1, 1, none⟩ = some (.slice A1 (orderF rules).length c1') := by rw [hw3]; exact (cell_setCell_ne _ (by decide)).trans (cell_setCell_eq _ ((cell_setCell_ne _ (by decide)).trans s1))
    have x2 : w3.cell? ⟨w1.heap.size + 1, 2, none⟩ = some (.string fmt) := by rw [hw3]; exact cell_setCell_eq _ ((cell_setCell_ne _ (by decide)).trans ((cell_setCell_ne _ (by decide)).trans s2))
    have hfar : ∀ k, k ≠ w1.heap.size + 1 → w3.heap[k]? = w2.heap[k]? := fun k hk => by rw [hw3]; exact (Below.heap_setCell _ _ _ _ hk).trans ((Below.heap_setCell _ _ _ _ hk).trans (Below.heap_setCell _ _ _ _ hk))
    have hz3 : w3.heap.size = w2.heap.size := by rw [hw3]; simp [World.setCell]
    have hb3 : Below w.heap.size w w3 := by rw [hw3]; exact belSet (belSet (belSet HB2.out (by show _ ≤ w1.heap.size + 1; omega) _) (by show _ ≤ w1.heap.size + 1; omega) _) (by show _ ≤ w1.heap.size + 1; omega) _
    have HT3 : Hid (tabR.rel w3 (fun k => (w.heap.size ≤ k ∧ k < w1.heap.size) ∨ (w1.heap.size + 1 + 1 ≤ k ∧ k < w2.heap.size)) ⟨(tabs.length : Int) + 1, orderF rules, fmt⟩ (Tab.cells ⟨(tabs.length : Int) + 1, orderF rules, fmt⟩ (.slice A1 (orderF rules).length c1'))) :=
      ⟨_, rfl, Rp.sl_frame2 HOW.out fun k hk _ => hfar k (by omega), HFM.out, by unfold i64ok; dsimp only; omega⟩
    have b1 : w3.cell? ⟨b, 1, none⟩ = some (.slice At tabs.length ct) := (hb3.cell (p := ⟨b, 1, none⟩) hbl).trans c1.out
    have g1 : w3.frozen? ⟨b, 1, none⟩ = false := (hb3.frozen (p := ⟨b, 1, none⟩) hbl).trans (HP.out.fz 1)
    have b2 : w3.cell? ⟨b, 2, none⟩ = some (.int .i64 tabs.length) := (hb3.cell (p := ⟨b, 2, none⟩) hbl).trans HP.out.c2
    have g2 : w3.frozen? ⟨b, 2, none⟩ = false := (hb3.frozen (p := ⟨b, 2, none⟩) hbl).trans (HP.out.fz 2)
    have HB3 := Lib.hid hb3
    have hl3 : w1.heap.size + 1 < w3.heap.size := by omega
    have hbl3 : b < w3.heap.size := by omega
    have hz23 : w2.heap.size ≤ w3.heap.size := by omega
    clear hw3 hfar hz3 hb3 s0 s1 s2 t0 t1 t2
    obtain ⟨inner, hown, hrel⟩ := Rp.own_below (Rp.own_lower (S' := fun k => S k ∧ k < w.heap.size) HP.out.own (Nat.le_refl _) fun k hk hl => ⟨hk, hl⟩) HB3.out
    have HOWN := Lib.hid hown
    have HREL := Lib.hid hrel
    clear hown hrel
    obtain ⟨i0', hi0', hz0, hz1, hz2⟩ := info_parts3 infoTab
    have hne : some b ≠ (Value.slice At tabs.length ct).ownBlock := fun e => (HP.out.ng b e.symm).2.1 rfl
    go_region_law (refine step_append_lies _ rfl (.tmp 40) (.tmp 42) 26 rfl 0 32 i0' _ 3 48 Tryz.underlying26 hi0' hz0 hz1 hz2 rfl (by decide) (.slice At tabs.length ct) tabs.length inner (by simp [Act.eval, Act.put]) (by exact ownsRow_below HOWN.out (by repeat first | exact Below.refl _ _ | refine bel ?_ _ | refine belDrew ?_ | refine belDrewN ?_ _)) ⟨w3.heap.size, 0, none⟩ 1 1 [.int .i64 ((tabs.length : Int) + 1), .slice A1 (orderF rules).length c1', .string fmt] (by simp [Act.eval, Act.put]) rfl (by exact World.news_of_block (cs := #[.int .i64 ((tabs.length : Int) + 1), .slice A1 (orderF rules).length c1', .string fmt]) (t := 32) (fr := (0, 0)) (heap_at _ _ _ (by simp))) (by simp [Value.oneCell']) (by decide) (by unfold maxLen; omega) (by omega) (by simp) (w3.heap.size + 1) (by simp) ?_; intro g cap w5 hown5 hg hat5 hlt5; have y1 := (hg.cell_far ⟨b, 1, none⟩ (by simp; omega) hne).trans ((Below.cell (w := w3) (B := w3.heap.size) (by repeat first | exact Below.refl _ _ | refine bel ?_ _ | refine belDrew ?_ | refine belDrewN ?_ _) hbl3).trans b1); have y2 := (hg.frozen_far ⟨b, 1, none⟩ (by simp; omega) hne).trans ((Below.frozen (w := w3) (B := w3.heap.size) (by repeat first | exact Below.refl _ _ | refine bel ?_ _ | refine belDrew ?_ | refine belDrewN ?_ _) hbl3).trans g1))
    all_goals
      have z2 := (hg.cell_far ⟨b, 2, none⟩ (by simp; omega) hne).trans ((Below.cell (w := w3) (B := w3.heap.size) (by repeat first | exact Below.refl _ _ | refine bel ?_ _ | refine belDrew ?_ | refine belDrewN ?_ _) hbl3).trans b2)
      have z3 := (hg.frozen_far ⟨b, 2, none⟩ (by simp; omega) hne).trans ((Below.frozen (w := w3) (B := w3.heap.size) (by repeat first | exact Below.refl _ _ | refine bel ?_ _ | refine belDrew ?_ | refine belDrewN ?_ _) hbl3).trans g2)
      have q2 : (w5.setCell ⟨b, 1, none⟩ (.slice (some ⟨g, 0, none⟩) (tabs.length + 1) cap)).cell? ⟨b, 2, none⟩ = some (.int .i64 tabs.length) := (cell_setCell_ne _ (by decide)).trans z2
      have q3 : (w5.setCell ⟨b, 1, none⟩ (.slice (some ⟨g, 0, none⟩) (tabs.length + 1) cap)).frozen? ⟨b, 2, none⟩ = false := (frozen_setCell _ _ _ _).trans z3
      have HG := Lib.hid hg
      have HO5 := Lib.hid hown5
      have HAT := Lib.hid hat5
      clear hg hown5 hat5 hlt5 x0 x1 x2 b1 g1 b2 g2 y1 y2 z2 z3
      go_wp2_with fail
      refine (atomicAdd b 2 tabs.length ((tabs.length : Int) + 1) _ q2 q3 (by omega) (by omega) rfl).mono ?_
      rintro e w6 ⟨rfl, rfl⟩
      go_wp2
      go_ret2
      exact HP.out.add HB3.out HOWN.out HREL.out HT3.out (fun k hk => by rcases hk with h | h <;> omega) (by repeat first | exact Below.refl _ _ | refine bel ?_ _ | refine belDrew ?_ | refine belDrewN ?_ _) HG.out HO5.out HAT.out hn16 HO2.out rfl
  · have he' : (er == 0) = false := by simp [he]
    have HO2 : Hid (O = (er, none)) := by
      have := HO.out; unfold pubF at this; rw [HJ.out] at this; dsimp only at this; rw [if_neg he] at this; exact this.symm
    clear he
    have hB := bel HB1.out (.cells #[.slice A rules.length c, .string fmt] 40)
    have q3 := (hB.cell (p := ⟨b, 3, none⟩) hbl).trans HP.out.c3
    have qf := (hB.frozen (p := ⟨b, 3, none⟩) hbl).trans (HP.out.fz 3)
    have HB := Lib.hid hB
    clear hB
    have hnr : ((nr : Nat) : Int) ≤ 1000000 := by omega
    go_wp2_with fail
    refine (atomicAdd b 3 nr ((nr + 1 : Nat) : Int) _ q3 qf (by omega) hnr (by omega)).mono ?_
    rintro e w2 ⟨rfl, rfl⟩
    go_wp2
    go_ret2
    exact HP.out.refuse HB.out hr HO2.out
end Go.Proofs.YtnbgfpcpfknjoaaGreatDoor
