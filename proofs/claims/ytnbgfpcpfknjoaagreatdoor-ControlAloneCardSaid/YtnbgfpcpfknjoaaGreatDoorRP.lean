/- Rows of the call's own: what stands at a place, and is put there. -/
import Derived.Test.YtnbgfpcpfknjoaaGreatDoorRO
namespace Go.Proofs.YtnbgfpcpfknjoaaGreatDoor
set_option linter.all false
open Go.RowKit

theorem Rp.own_form {α : Type} {R : Rp α} {w : World} {S : Nat → Prop} {base e : Nat} {v : Value} {xs : List α} (h : R.own w S base e v xs) (hne : xs ≠ []) : ∃ g cap, v = .slice (some ⟨g, 0, none⟩) xs.length cap ∧ base ≤ g ∧ g < w.heap.size ∧ xs.length ≤ cap ∧ cap ≤ maxLen := by
  obtain ⟨inner, ho, hr⟩ := h
  rcases ho.2 with ⟨rfl, h0⟩ | ⟨g, cap, cur, rfl, hg, hh, hn, hm, hc, ht⟩
  · exact absurd (List.eq_nil_of_length_eq_zero h0) hne
  · exact ⟨g, cap, rfl, hg, (Array.getElem?_eq_some_iff.1 hh).1, hn, hm⟩
theorem Rp.own_slice {α : Type} {R : Rp α} {w : World} {S : Nat → Prop} {base e : Nat} {v : Value} {xs : List α} (h : R.own w S base e v xs) : ∃ A c, v = .slice A xs.length c ∧ xs.length ≤ c ∧ c ≤ maxLen := by
  obtain ⟨inner, ho, hr⟩ := h
  rcases ho.2 with ⟨rfl, h0⟩ | ⟨g, cap, cur, rfl, hg, hh, hn, hm, hc, ht⟩
  · exact ⟨none, 0, by rw [h0], by omega, by simp [maxLen]⟩
  · exact ⟨_, cap, rfl, hn, hm⟩
theorem ownsRow_frozen {w : World} {base e sz n g c : Nat} {xs : List Value} (h : w.ownsRow base e sz (.slice (some ⟨g, 0, none⟩) n c) n xs) (i : Nat) : w.frozen? ⟨g, i, none⟩ = false := by
  rcases h.2 with ⟨h', _⟩ | ⟨g', cap', cur, h', _, hh, _⟩
  · cases h'
  · have : g = g' := by injection h' with h'; injection h' with h'; injection h' with h'
    subst this
    simp [World.frozen?, hh]
theorem Rp.own_at {α : Type} {R : Rp α} {w : World} {S : Nat → Prop} {base e g n c : Nat} {xs : List α} (h : R.own w S base e (.slice (some ⟨g, 0, none⟩) n c) xs) {i : Nat} (hi : i < xs.length) :
    n = xs.length ∧ ∃ cs, R.rel w S (xs[i]'hi) cs ∧ ∀ j u, cs[j]? = some u → w.cell? ⟨g, i * R.sz + j, none⟩ = some u := by
  obtain ⟨inner, ho, hr⟩ := h
  have hn : n = xs.length := by
    rcases ho.2 with ⟨h', _⟩ | ⟨g', cap', cur, h', _⟩
    · cases h'
    · injection h' with _ h2 _
  refine ⟨hn, _, hr i _ (by simp [hi]), fun j u hu => ?_⟩
  have := ho.cells (g := g) rfl (i * R.sz + j) u (chunk_get hu)
  have ha : (⟨g, 0, none⟩ : Addr).add (i * R.sz + j) = ⟨g, i * R.sz + j, none⟩ := by unfold Addr.add; split <;> simp_all
  rwa [ha] at this
theorem Rp.own_frozen {α : Type} {R : Rp α} {w : World} {S : Nat → Prop} {base e g n c : Nat} {xs : List α} (h : R.own w S base e (.slice (some ⟨g, 0, none⟩) n c) xs) (i : Nat) : w.frozen? ⟨g, i, none⟩ = false := by
  obtain ⟨inner, ho, hr⟩ := h
  have hn : n = xs.length := by
    rcases ho.2 with ⟨h', _⟩ | ⟨g', cap', cur, h', _⟩
    · cases h'
    · injection h' with _ h2 _
  subst hn
  exact ownsRow_frozen ho i
theorem chunk_set_other {l : List Value} {i k sz j : Nat} (u : Value) (hj : j < sz) (h : i ≠ k) : ((l.set (k * sz + j) u).drop (i * sz)).take sz = (l.drop (i * sz)).take sz := by
  apply List.ext_getElem?
  intro m
  rw [List.getElem?_take, List.getElem?_take]
  split
  · rename_i hm
    rw [List.getElem?_drop, List.getElem?_drop, List.getElem?_set_ne]
    intro e
    apply h
    have h1 : i * sz + m < (i + 1) * sz := by rw [Nat.add_mul, Nat.one_mul]; omega
    have h2 : k * sz + j < (k + 1) * sz := by rw [Nat.add_mul, Nat.one_mul]; omega
    have h3 : k < i + 1 := by
      apply Nat.lt_of_mul_lt_mul_right (a := sz)
      omega
    have h4 : i < k + 1 := by
      apply Nat.lt_of_mul_lt_mul_right (a := sz)
      omega
    omega
  · rfl
theorem chunk_set_same {l : List Value} {k sz j : Nat} (u : Value) (hj : j < sz) : ((l.set (k * sz + j) u).drop (k * sz)).take sz = ((l.drop (k * sz)).take sz).set j u := by
  rw [List.drop_set, if_neg (by omega)]
  rw [show k * sz + j - k * sz = j by omega, List.take_set]
/-- A cell of one's own row is written: what the row says then. -/
theorem Rp.own_set {α : Type} {R : Rp α} {w : World} {S : Nat → Prop} {base e g n c : Nat} {xs : List α} (h : R.own w S base e (.slice (some ⟨g, 0, none⟩) n c) xs) (hS : ¬ S g) {k j : Nat} (hk : k < xs.length) (hj : j < R.sz) (u : Value) (x : α)
    (hrel : ∀ cs, R.rel w S (xs[k]'hk) cs → R.rel w S x (cs.set j u)) : R.own (w.setCell ⟨g, k * R.sz + j, none⟩ u) S base e (.slice (some ⟨g, 0, none⟩) n c) (xs.set k x) := by
  obtain ⟨inner, ho, hr⟩ := h
  have hfr : ∀ q, S q → q < w.heap.size → (w.setCell ⟨g, k * R.sz + j, none⟩ u).heap[q]? = w.heap[q]? := fun q hq _ => Below.heap_setCell _ _ _ _ (by rintro rfl; exact hS hq)
  have hn : n = xs.length := by
    rcases ho.2 with ⟨h', _⟩ | ⟨g', cap', cur, h', _⟩
    · cases h'
    · injection h' with _ h2 _
  subst hn
  refine ⟨inner.set (k * R.sz + j) u, by rw [List.length_set]; exact (ho.stored (k * R.sz + j) u).1, fun i y hy => ?_⟩
  by_cases e1 : i = k
  · subst e1
    have : y = x := by simpa [hk] using hy.symm
    subst this
    rw [chunk_set_same u hj]
    exact R.frame (hrel _ (hr i _ (by simp [hk]))) hfr
  · rw [chunk_set_other u hj e1]
    rw [List.getElem?_set_ne (by omega)] at hy
    exact R.frame (hr i y hy) hfr
/-- Cells put one behind another. -/
def setRow (w : World) (g : Nat) : Nat → List Value → World
  | _, [] => w
  | o, u :: l => setRow (w.setCell ⟨g, o, none⟩ u) g (o + 1) l
def setL (l : List Value) : Nat → List Value → List Value
  | _, [] => l
  | o, u :: us => setL (l.set o u) (o + 1) us
theorem setL_length : ∀ (us l : List Value) (o : Nat), (setL l o us).length = l.length
  | [], l, o => rfl
  | u :: us, l, o => by unfold setL; rw [setL_length us, List.length_set]
theorem setL_get : ∀ (us l : List Value) (o i : Nat), (setL l o us)[i]? = if o ≤ i ∧ i < o + us.length ∧ i < l.length then us[i - o]? else l[i]?
  | [], l, o, i => by
    unfold setL
    rw [if_neg (by simp; omega)]
  | u :: us, l, o, i => by
    unfold setL
    rw [setL_get us (l.set o u) (o + 1) i, List.length_set, List.length_cons]
    by_cases h1 : o + 1 ≤ i ∧ i < o + 1 + us.length ∧ i < l.length
    · rw [if_pos h1, if_pos (by omega), show i - o = (i - (o + 1)) + 1 by omega, List.getElem?_cons_succ]
    · rw [if_neg h1]
      by_cases h2 : o ≤ i ∧ i < o + (us.length + 1) ∧ i < l.length
      · have : i = o := by omega
        subst this
        rw [if_pos h2, Nat.sub_self, List.getElem?_cons_zero, List.getElem?_set_self h2.2.2]
      · rw [if_neg h2]
        by_cases e : o = i
        · subst e
          rw [List.getElem?_eq_none (by rw [List.length_set]; omega), List.getElem?_eq_none (by omega)]
        · rw [List.getElem?_set_ne e]
theorem ownsRow_setRow : ∀ (us : List Value) {w : World} {base e size g c n : Nat} {xs : List Value} (o : Nat), w.ownsRow base e size (.slice (some ⟨g, 0, none⟩) n c) n xs → (setRow w g o us).ownsRow base e size (.slice (some ⟨g, 0, none⟩) n c) n (setL xs o us)
  | [], _, _, _, _, _, _, _, _, _, h => h
  | u :: us, _, _, _, _, _, _, _, _, o, h => ownsRow_setRow us (o + 1) (h.stored o u).1
theorem setRow_heap : ∀ (us : List Value) (w : World) (g o k : Nat), k ≠ g → (setRow w g o us).heap[k]? = w.heap[k]?
  | [], _, _, _, _, _ => rfl
  | u :: us, w, g, o, k, h => (setRow_heap us _ g (o + 1) k h).trans (Below.heap_setCell _ _ _ _ h)
theorem setRow_size : ∀ (us : List Value) (w : World) (g o : Nat), (setRow w g o us).heap.size = w.heap.size
  | [], _, _, _ => rfl
  | u :: us, w, g, o => by rw [setRow, setRow_size us]; simp [World.setCell]
theorem setL_chunk_same {l cs : List Value} {k sz : Nat} (hl : cs.length = sz) (hk : k * sz + sz ≤ l.length) : ((setL l (k * sz) cs).drop (k * sz)).take sz = cs := by
  apply List.ext_getElem?
  intro j
  rw [List.getElem?_take]
  split
  · rename_i hj
    rw [List.getElem?_drop, setL_get, if_pos (by omega)]
    congr 1
    omega
  · rw [List.getElem?_eq_none (by omega)]
theorem setL_chunk_other {l cs : List Value} {i k sz : Nat} (hl : cs.length = sz) (h : i ≠ k) : ((setL l (k * sz) cs).drop (i * sz)).take sz = (l.drop (i * sz)).take sz := by
  apply List.ext_getElem?
  intro j
  rw [List.getElem?_take, List.getElem?_take]
  split
  · rename_i hj
    rw [List.getElem?_drop, List.getElem?_drop, setL_get, if_neg]
    intro hc
    rcases Nat.lt_or_gt_of_ne h with hlt | hgt
    · have : (i + 1) * sz ≤ k * sz := Nat.mul_le_mul_right _ hlt
      rw [Nat.add_mul, Nat.one_mul] at this
      omega
    · have : (k + 1) * sz ≤ i * sz := Nat.mul_le_mul_right _ hgt
      rw [Nat.add_mul, Nat.one_mul] at this
      omega
  · rfl
/-- An element of one's own row is put anew. -/
theorem Rp.own_setRow {α : Type} {R : Rp α} {w : World} {S : Nat → Prop} {base e g n c : Nat} {xs : List α} (h : R.own w S base e (.slice (some ⟨g, 0, none⟩) n c) xs) (hS : ¬ S g) {k : Nat} (hk : k < xs.length) (x : α) (cs : List Value) (hrel : R.rel w S x cs) :
    R.own (setRow w g (k * R.sz) cs) S base e (.slice (some ⟨g, 0, none⟩) n c) (xs.set k x) := by
  obtain ⟨inner, ho, hr⟩ := h
  have hn : n = xs.length := by
    rcases ho.2 with ⟨h', _⟩ | ⟨g', cap', cur, h', _⟩
    · cases h'
    · injection h' with _ h2 _
  subst hn
  have hfr : ∀ q, S q → q < w.heap.size → (setRow w g (k * R.sz) cs).heap[q]? = w.heap[q]? := fun q hq _ => setRow_heap _ _ _ _ _ (by rintro rfl; exact hS hq)
  have hlen := ho.1
  have hk' : k * R.sz + R.sz ≤ inner.length := by rw [hlen, ← Nat.succ_mul]; exact Nat.mul_le_mul_right _ hk
  refine ⟨setL inner (k * R.sz) cs, by rw [List.length_set]; exact ownsRow_setRow cs _ ho, fun i y hy => ?_⟩
  by_cases e1 : i = k
  · subst e1
    have : y = x := by simpa [hk] using hy.symm
    subst this
    rw [setL_chunk_same (R.len hrel) hk']
    exact R.frame hrel hfr
  · rw [setL_chunk_other (R.len hrel) e1]
    rw [List.getElem?_set_ne (by omega)] at hy
    exact R.frame (hr i y hy) hfr
theorem Rp.own_lower {α : Type} {R : Rp α} {w : World} {S S' : Nat → Prop} {base base' e : Nat} {v : Value} {xs : List α} (h : R.own w S base e v xs) (hb : base' ≤ base) (hs : ∀ k, S k → k < w.heap.size → S' k) : R.own w S' base' e v xs := by
  obtain ⟨inner, ho, hr⟩ := h
  refine ⟨inner, ⟨ho.1, ?_⟩, fun i x hx => R.mono (hr i x hx) hs⟩
  rcases ho.2 with h2 | ⟨g, cap, cur, rfl, hg, r⟩
  · exact .inl h2
  · exact .inr ⟨g, cap, cur, rfl, by omega, r⟩
theorem Rp.own_base {α : Type} {R : Rp α} {w : World} {S : Nat → Prop} {base e : Nat} {v : Value} {xs : List α} (h : R.own w S base e v xs) : ∀ k, v.ownBlock = some k → base ≤ k ∧ k < w.heap.size := by
  obtain ⟨inner, ho, hr⟩ := h
  exact ho.lt
/-- A store into a block that is none of it. -/
theorem Rp.own_far {α : Type} {R : Rp α} {w : World} {S : Nat → Prop} {base e : Nat} {v : Value} {xs : List α} (h : R.own w S base e v xs) {g : Nat} (hS : ¬ S g) (hv : v.ownBlock ≠ some g) (j : Nat) (u : Value) : R.own (w.setCell ⟨g, j, none⟩ u) S base e v xs :=
  Rp.own_frame h (fun k hk _ => Below.heap_setCell _ _ _ _ (by rintro rfl; exact hS hk)) (fun k hk => Below.heap_setCell _ _ _ _ (by rintro rfl; exact hv hk))
end Go.Proofs.YtnbgfpcpfknjoaaGreatDoor
