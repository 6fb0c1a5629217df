/- Rows of the call's own; slices.Clone. -/
import Derived.Test.YtnbgfpcpfknjoaaGreatDoorRB
import Derived.Maps.AppendAt
import Derived.Lib.SliceRun
namespace Go.Proofs.YtnbgfpcpfknjoaaGreatDoor
set_option linter.all false
open Go.RowKit

/-- So many bytes can be appended to. -/
structure Cap (n : Nat) : Prop where
  out : n ≤ 140737488355328

/-- A row of the call's own, from block 'base' on: its cells, and what they say. -/
def Rp.own {α : Type} (R : Rp α) (w : World) (S : Nat → Prop) (base e : Nat) (v : Value) (xs : List α) : Prop :=
  ∃ inner, w.ownsRow base e R.sz v xs.length inner ∧ ∀ i x, xs[i]? = some x → R.rel w S x ((inner.drop (i * R.sz)).take R.sz)

theorem chunk_get {l : List Value} {i sz j : Nat} {u : Value} (h : ((l.drop (i * sz)).take sz)[j]? = some u) : l[i * sz + j]? = some u := by
  rw [List.getElem?_take] at h
  split at h
  · rw [List.getElem?_drop] at h; exact h
  · cases h

theorem Rp.own_sl {α : Type} {R : Rp α} {w : World} {S S' : Nat → Prop} {base e : Nat} {v : Value} {xs : List α} (h : R.own w S base e v xs) (hs : ∀ k, S k → k < w.heap.size → S' k) (hb : ∀ k, base ≤ k → k < w.heap.size → S' k) : R.sl w S' v xs := by
  obtain ⟨inner, ho, hr⟩ := h
  have hlen := ho.1
  rcases ho.2 with ⟨rfl, h0⟩ | ⟨g, cap, cur, rfl, hg, hh, hn, hm, hc, ht⟩
  · have : xs = [] := List.eq_nil_of_length_eq_zero h0
    subst this
    exact Rp.sl_nil R w S'
  · have hlt : g < w.heap.size := (Array.getElem?_eq_some_iff.1 hh).1
    refine ⟨_, cap, rfl, hn, hm, fun _ => ⟨g, 0, rfl, hb g hg hlt, hlt, fun i x hx => ⟨_, R.mono (hr i x hx) hs, fun j u hu => ?_⟩⟩⟩
    have := ho.cells (g := g) rfl (i * R.sz + j) u (chunk_get hu)
    rw [Nat.zero_add]
    have ha : (⟨g, 0, none⟩ : Addr).add (i * R.sz + j) = ⟨g, i * R.sz + j, none⟩ := by unfold Addr.add; split <;> simp_all
    rwa [ha] at this

/-- The cells of a slice that is read, in line. -/
theorem Rp.row_inner {α : Type} {R : Rp α} {w : World} {S : Nat → Prop} {b o : Nat} : ∀ {xs : List α}, R.row w S b o xs →
    ∃ inner : List Value, inner.length = xs.length * R.sz ∧ (∀ j u, inner[j]? = some u → w.cell? ⟨b, o + j, none⟩ = some u) ∧ (∀ u ∈ inner, u.oneCell' = true) ∧ ∀ i x, xs[i]? = some x → R.rel w S x ((inner.drop (i * R.sz)).take R.sz) := by
  intro xs
  induction xs generalizing o with
  | nil => intro _; exact ⟨[], by simp, fun j u h => by simp at h, fun u h => by simp at h, fun i x h => by simp at h⟩
  | cons a l ih =>
    intro h
    obtain ⟨cs, hr, hc⟩ := h 0 a rfl
    have hlen := R.len hr
    obtain ⟨inner, h1, h2, h3, h4⟩ := ih (o := o + R.sz) (fun i x hx => by
      obtain ⟨cs', hr', hc'⟩ := h (i + 1) x (by simpa using hx)
      exact ⟨cs', hr', fun j u hu => by have := hc' j u hu; rw [Nat.add_mul, Nat.one_mul] at this; rw [show o + R.sz + i * R.sz + j = o + (i * R.sz + R.sz) + j by omega]; exact this⟩)
    refine ⟨cs ++ inner, by rw [List.length_append, hlen, h1, List.length_cons, Nat.add_mul, Nat.one_mul, Nat.add_comm], fun j u hu => ?_, fun u hu => ?_, fun i x hx => ?_⟩
    · rcases Nat.lt_or_ge j cs.length with hj | hj
      · rw [List.getElem?_append_left hj] at hu
        have := hc j u hu
        simpa using this
      · rw [List.getElem?_append_right hj] at hu
        have := h2 _ u hu
        rw [hlen] at this hj
        rw [show o + R.sz + (j - R.sz) = o + j by omega] at this
        exact this
    · rcases List.mem_append.1 hu with hu | hu
      · exact R.one hr u hu
      · exact h3 u hu
    · rcases i with _ | i
      · have : a = x := by simpa using hx
        subst this
        rw [Nat.zero_mul, List.drop_zero, List.take_append_of_le_length (by omega), List.take_of_length_le (by omega)]
        exact hr
      · have := h4 i x (by simpa using hx)
        rw [show (i + 1) * R.sz = cs.length + i * R.sz by rw [hlen, Nat.add_mul, Nat.one_mul, Nat.add_comm]]
        rw [List.drop_append]
        simpa [List.drop_of_length_le] using this
theorem Rp.sl_inner {α : Type} {R : Rp α} {w : World} {S : Nat → Prop} {ad : Addr} {n c : Nat} {xs : List α} (h : R.sl w S (.slice (some ad) n c) xs) :
    ∃ inner : List Value, inner.length = n * R.sz ∧ (∀ j u, inner[j]? = some u → w.cell? (ad.add j) = some u) ∧ (∀ u ∈ inner, u.oneCell' = true) ∧ ∀ i x, xs[i]? = some x → R.rel w S x ((inner.drop (i * R.sz)).take R.sz) := by
  obtain ⟨A', c', he, h1, h2, h3⟩ := h
  injection he with e1 e2 e3
  subst e1 e2
  rcases Nat.eq_zero_or_pos xs.length with h0 | h0
  · have : xs = [] := List.eq_nil_of_length_eq_zero h0
    subst this
    exact ⟨[], by simp, fun j u h => by simp at h, fun u h => by simp at h, fun i x h => by simp at h⟩
  · obtain ⟨b, o, hA, _, _, hr⟩ := h3 (by intro e; subst e; simp at h0)
    injection hA with hA
    subst hA
    obtain ⟨inner, g1, g2, g3, g4⟩ := Rp.row_inner hr
    refine ⟨inner, g1, fun j u hu => ?_, g3, g4⟩
    have ha : (⟨b, o, none⟩ : Addr).add j = ⟨b, o + j, none⟩ := by unfold Addr.add; split <;> simp_all
    rw [ha]; exact g2 j u hu
theorem ownsRow_empty (w : World) (e size : Nat) (hs : 0 < size) : (w.alloc (.cells #[] e)).ownsRow w.heap.size e size (.slice (some ⟨w.heap.size, 0, none⟩) 0 0) 0 [] := by
  have := World.ownsRow_made (base := w.heap.size) (e := e) (size := size) w #[] 0 (Nat.le_refl _) (by simp [maxLen]) (by simp)
  exact this
theorem Rp.own_frame {α : Type} {R : Rp α} {w w' : World} {S : Nat → Prop} {base e : Nat} {v : Value} {xs : List α} (h : R.own w S base e v xs) (hf : ∀ k, S k → k < w.heap.size → w'.heap[k]? = w.heap[k]?) (hb : ∀ k, v.ownBlock = some k → w'.heap[k]? = w.heap[k]?) : R.own w' S base e v xs := by
  obtain ⟨inner, ho, hr⟩ := h
  refine ⟨inner, ⟨ho.1, ?_⟩, fun i x hx => R.frame (hr i x hx) hf⟩
  rcases ho.2 with h2 | ⟨g, cap, cur, rfl, hg, hh, r⟩
  · exact .inl h2
  · exact .inr ⟨g, cap, cur, rfl, hg, (hb g (by simp [Value.ownBlock])).trans hh, r⟩
theorem Rp.own_below {α : Type} {R : Rp α} {w w' : World} {S : Nat → Prop} {base e : Nat} {v : Value} {xs : List α} (h : R.own w S base e v xs) (hb : Below w.heap.size w w') : R.own w' S base e v xs :=
  Rp.own_frame h (fun k _ hk => hb.block k hk) (fun k hk => by
    obtain ⟨inner, ho, _⟩ := h
    exact hb.block k (ho.lt k hk).2)
/-- What is owned: appended to by some more cells, by the law of append. -/
theorem Rp.own_of_append {α : Type} {R : Rp α} {w w' : World} {S : Nat → Prop} {base e : Nat} {v : Value} {xs ys : List α} {inner news : List Value}
    (hi : inner.length = xs.length * R.sz) (hown : w'.ownsRow base e R.sz v (xs.length + ys.length) (inner ++ news))
    (hx : ∀ i x, xs[i]? = some x → R.rel w' S x ((inner.drop (i * R.sz)).take R.sz)) (hy : ∀ i x, ys[i]? = some x → R.rel w' S x ((news.drop (i * R.sz)).take R.sz)) : R.own w' S base e v (xs ++ ys) := by
  refine ⟨inner ++ news, by rw [List.length_append]; exact hown, fun i x h => ?_⟩
  rcases Nat.lt_or_ge i xs.length with hlt | hge
  · rw [List.getElem?_append_left hlt] at h
    have h1 : i * R.sz + R.sz ≤ inner.length := by rw [hi, ← Nat.succ_mul]; exact Nat.mul_le_mul_right _ hlt
    rw [List.drop_append_of_le_length (by omega), List.take_append_of_le_length (by rw [List.length_drop]; omega)]
    exact hx i x h
  · rw [List.getElem?_append_right hge] at h
    have := hy _ x h
    have h1 : inner.length ≤ i * R.sz := by rw [hi]; exact Nat.mul_le_mul_right _ hge
    rw [List.drop_append, List.drop_of_length_le h1, List.nil_append, hi, ← Nat.sub_mul]
    exact this
theorem info_parts3 {P : Program} {e : Nat} {z : Value} {sz by_ : Nat} (h : (P.info? e).map (fun i => (i.zero, i.size, i.bytes)) = some (some z, sz, by_)) : ∃ i, P.info? e = some i ∧ i.zero = some z ∧ i.size = sz ∧ i.bytes = by_ := by
  obtain ⟨i, hi, h2⟩ := Option.map_eq_some_iff.1 h
  simp only [Prod.mk.injEq] at h2
  exact ⟨i, hi, h2.1, h2.2.1, h2.2.2⟩
theorem infoStr : (Tryz.prog.info? 9).map (fun i => (i.zero, i.size, i.bytes)) = some (some (.string ⟨#[]⟩), 1, 16) := by kernel_rfl
theorem infoPred : (Tryz.prog.info? 68).map (fun i => (i.zero, i.size, i.bytes)) = some (some (.agg #[.int .i64 0, .string ⟨#[]⟩, .string ⟨#[]⟩]), 3, 40) := by kernel_rfl
theorem infoRule : (Tryz.prog.info? 65).map (fun i => (i.zero, i.size, i.bytes)) = some (some (.agg #[.int .i64 0, .slice none 0 0, .string ⟨#[]⟩, .int .i64 0, .int .i64 0, .int .i64 0, .int .i64 0, .int .i64 0, .string ⟨#[]⟩, .int .i64 0]), 10, 112) := by kernel_rfl

set_option maxRecDepth 100000 in
set_option maxHeartbeats 1000000 in
theorem cloneStr_any (xs : List ByteArray) (S : Nat → Prop) (A : Option Addr) (c : Nat) (w : World) (h : strR.sl w S (.slice A xs.length c) xs) (HB : Cap (xs.length * 16)) :
    Calls Tryz.prog 24 #[.slice A xs.length c] w fun e w' => (∃ v, e = .returned v ∧ strR.own w' (fun k => S k ∧ k < w.heap.size) w.heap.size 9 v xs) ∧ Below w.heap.size w w' := by
  have HH := Lib.hid h
  rcases A with _ | ad
  · have h0 : xs = [] := by
      obtain ⟨A', c', he, h1, h2, h3⟩ := h
      by_cases hne : xs = []
      · exact hne
      · obtain ⟨b, o, hA, _⟩ := h3 hne
        rw [hA] at he; cases he
    subst h0
    clear h HH HB
    have hq := fun (W : World) (n c : Nat) => Lib.run_eql_slice_nil (P := Tryz.prog) W 22 9 none n c 0 0 Tryz.underlying22
    go_enter Tryz.func24, Tryz.ntmps24
    go_wp2
    go_ret
    exact ⟨⟨_, rfl, [], World.ownsRow_nil _ _ _ _, fun i x hx => by simp at hx⟩, Below.refl _ _⟩
  · obtain ⟨inner, hl, hcells, hone, hrel⟩ := Rp.sl_inner h
    obtain ⟨i0, hi, hz0, hz1, hz2⟩ := info_parts3 infoStr
    have HL := Lib.hid hl
    have HC := Lib.hid hcells
    have HO := Lib.hid hone
    have HR := Lib.hid hrel
    clear h hl hcells hone hrel
    have hq := fun (W : World) (n c : Nat) => Lib.run_eql_slice_nil (P := Tryz.prog) W 22 9 (some ad) n c 0 0 Tryz.underlying22
    go_enter Tryz.func24, Tryz.ntmps24
    go_wp2_with (at_builtin; refine wpList_append_own_at _ rfl _ _ 22 rfl w.heap.size 9 i0 _ 1 16 Tryz.underlying22 hi hz0 hz1 hz2 rfl (by decide) _ 0 [] rfl (ownsRow_empty w 9 1 (by decide)) ad xs.length _ inner rfl HL.out ?c1 HO.out ?c2 ?c3 ?c4 ?c5)
    case c1 => exact fun j u hu => ((bel (Below.refl _ w) _).cell (World.block_lt_of_cell? w _ (HC.out j u hu))).trans (HC.out j u hu)
    case c2 => rw [Nat.zero_add]; exact Rp.sl_lenv HH.out
    case c3 => rw [Nat.zero_add]; exact HB.out
    case c4 => simp
    case c5 =>
      intro v1 w1 hown hg _ _
      have HW := Lib.hid hown
      have hbel : Below w.heap.size w w1 := (bel (Below.refl _ w) _).grown hg (by simp) (fun k hk => by simp [Value.ownBlock] at hk; omega)
      clear hown hg
      go_wp2
      go_ret
      exact ⟨⟨_, rfl, inner, HW.out, fun i x hx => strR.frame (strR.mono (HR.out i x hx) (fun k hk hlt => ⟨hk, hlt⟩)) (fun k _ hk => hbel.block k hk)⟩, hbel⟩

set_option maxRecDepth 100000 in
set_option maxHeartbeats 1000000 in
theorem cloneRule_any (xs : List Rule) (S : Nat → Prop) (A : Option Addr) (c : Nat) (w : World) (h : ruleR.sl w S (.slice A xs.length c) xs) (HB : Cap (xs.length * 112)) :
    Calls Tryz.prog 28 #[.slice A xs.length c] w fun e w' => (∃ v, e = .returned v ∧ ruleR.own w' (fun k => S k ∧ k < w.heap.size) w.heap.size 65 v xs) ∧ Below w.heap.size w w' := by
  have HH := Lib.hid h
  rcases A with _ | ad
  · have h0 : xs = [] := by
      obtain ⟨A', c', he, h1, h2, h3⟩ := h
      by_cases hne : xs = []
      · exact hne
      · obtain ⟨b, o, hA, _⟩ := h3 hne
        rw [hA] at he; cases he
    subst h0
    clear h HH HB
    have hq := fun (W : World) (n c : Nat) => Lib.run_eql_slice_nil (P := Tryz.prog) W 30 65 none n c 0 0 Tryz.underlying30
    go_enter Tryz.func28, Tryz.ntmps28
    go_wp2
    go_ret
    exact ⟨⟨_, rfl, [], World.ownsRow_nil _ _ _ _, fun i x hx => by simp at hx⟩, Below.refl _ _⟩
  · obtain ⟨inner, hl, hcells, hone, hrel⟩ := Rp.sl_inner h
    obtain ⟨i0, hi, hz0, hz1, hz2⟩ := info_parts3 infoRule
    have HL := Lib.hid hl
    have HC := Lib.hid hcells
    have HO := Lib.hid hone
    have HR := Lib.hid hrel
    clear h hl hcells hone hrel
    have hq := fun (W : World) (n c : Nat) => Lib.run_eql_slice_nil (P := Tryz.prog) W 30 65 (some ad) n c 0 0 Tryz.underlying30
    go_enter Tryz.func28, Tryz.ntmps28
    go_wp2_with (at_builtin; refine wpList_append_own_at _ rfl _ _ 30 rfl w.heap.size 65 i0 _ 10 112 Tryz.underlying30 hi hz0 hz1 hz2 rfl (by decide) _ 0 [] rfl (ownsRow_empty w 65 10 (by decide)) ad xs.length _ inner rfl HL.out ?c1 HO.out ?c2 ?c3 ?c4 ?c5)
    case c1 => exact fun j u hu => ((bel (Below.refl _ w) _).cell (World.block_lt_of_cell? w _ (HC.out j u hu))).trans (HC.out j u hu)
    case c2 => rw [Nat.zero_add]; exact Rp.sl_lenv HH.out
    case c3 => rw [Nat.zero_add]; exact HB.out
    case c4 => simp
    case c5 =>
      intro v1 w1 hown hg _ _
      have HW := Lib.hid hown
      have hbel : Below w.heap.size w w1 := (bel (Below.refl _ w) _).grown hg (by simp) (fun k hk => by simp [Value.ownBlock] at hk; omega)
      clear hown hg
      go_wp2
      go_ret
      exact ⟨⟨_, rfl, inner, HW.out, fun i x hx => ruleR.frame (ruleR.mono (HR.out i x hx) (fun k hk hlt => ⟨hk, hlt⟩)) (fun k _ hk => hbel.block k hk)⟩, hbel⟩

set_option maxRecDepth 100000 in
set_option maxHeartbeats 1000000 in
theorem clonePred_any (xs : List Pred) (S : Nat → Prop) (A : Option Addr) (c : Nat) (w : World) (h : predR.sl w S (.slice A xs.length c) xs) (HB : Cap (xs.length * 40)) :
    Calls Tryz.prog 29 #[.slice A xs.length c] w fun e w' => (∃ v, e = .returned v ∧ predR.own w' (fun k => S k ∧ k < w.heap.size) w.heap.size 68 v xs) ∧ Below w.heap.size w w' := by
  have HH := Lib.hid h
  rcases A with _ | ad
  · have h0 : xs = [] := by
      obtain ⟨A', c', he, h1, h2, h3⟩ := h
      by_cases hne : xs = []
      · exact hne
      · obtain ⟨b, o, hA, _⟩ := h3 hne
        rw [hA] at he; cases he
    subst h0
    clear h HH HB
    have hq := fun (W : World) (n c : Nat) => Lib.run_eql_slice_nil (P := Tryz.prog) W 63 68 none n c 0 0 Tryz.underlying63
    go_enter Tryz.func29, Tryz.ntmps29
    go_wp2
    go_ret
    exact ⟨⟨_, rfl, [], World.ownsRow_nil _ _ _ _, fun i x hx => by simp at hx⟩, Below.refl _ _⟩
  · obtain ⟨inner, hl, hcells, hone, hrel⟩ := Rp.sl_inner h
    obtain ⟨i0, hi, hz0, hz1, hz2⟩ := info_parts3 infoPred
    have HL := Lib.hid hl
    have HC := Lib.hid hcells
    have HO := Lib.hid hone
    have HR := Lib.hid hrel
    clear h hl hcells hone hrel
    have hq := fun (W : World) (n c : Nat) => Lib.run_eql_slice_nil (P := Tryz.prog) W 63 68 (some ad) n c 0 0 Tryz.underlying63
    go_enter Tryz.func29, Tryz.ntmps29
    go_wp2_with (at_builtin; refine wpList_append_own_at _ rfl _ _ 63 rfl w.heap.size 68 i0 _ 3 40 Tryz.underlying63 hi hz0 hz1 hz2 rfl (by decide) _ 0 [] rfl (ownsRow_empty w 68 3 (by decide)) ad xs.length _ inner rfl HL.out ?c1 HO.out ?c2 ?c3 ?c4 ?c5)
    case c1 => exact fun j u hu => ((bel (Below.refl _ w) _).cell (World.block_lt_of_cell? w _ (HC.out j u hu))).trans (HC.out j u hu)
    case c2 => rw [Nat.zero_add]; exact Rp.sl_lenv HH.out
    case c3 => rw [Nat.zero_add]; exact HB.out
    case c4 => simp
    case c5 =>
      intro v1 w1 hown hg _ _
      have HW := Lib.hid hown
      have hbel : Below w.heap.size w w1 := (bel (Below.refl _ w) _).grown hg (by simp) (fun k hk => by simp [Value.ownBlock] at hk; omega)
      clear hown hg
      go_wp2
      go_ret
      exact ⟨⟨_, rfl, inner, HW.out, fun i x hx => predR.frame (predR.mono (HR.out i x hx) (fun k hk hlt => ⟨hk, hlt⟩)) (fun k _ hk => hbel.block k hk)⟩, hbel⟩
end Go.Proofs.YtnbgfpcpfknjoaaGreatDoor
