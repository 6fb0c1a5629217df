/- First errors; what stands at a place of predicates, of rules; a variable in memory. -/
import Derived.Test.YtnbgfpcpfknjoaaGreatDoorR
import Derived.Test.YtnbgfpcpfknjoaaGreatDoorA3
namespace Go.Proofs.YtnbgfpcpfknjoaaGreatDoor
set_option linter.all false
open Go.RowKit

/-- The first error of some, or 0. -/
def firstErr {α : Type} (f : α → Int) : List α → Int
  | [] => 0
  | a :: l => if f a = 0 then firstErr f l else f a
theorem firstErr_none {α : Type} (f : α → Int) : ∀ l : List α, (∀ j, ∀ hj : j < l.length, f (l[j]'hj) = 0) → firstErr f l = 0
  | [], _ => rfl
  | a :: l, h => by
    have h0 : f a = 0 := h 0 (by simp)
    unfold firstErr
    rw [if_pos h0]
    exact firstErr_none f l fun j hj => by have := h (j + 1) (by simpa using hj); simpa using this
theorem firstErr_hit {α : Type} (f : α → Int) : ∀ (l : List α) (k : Nat) (hk : k < l.length), (∀ j, j < k → ∀ hj : j < l.length, f (l[j]'hj) = 0) → f (l[k]'hk) ≠ 0 → firstErr f l = f (l[k]'hk)
  | [], k, hk, _, _ => by simp at hk
  | a :: l, 0, hk, _, h => by
    have h' : f a ≠ 0 := h
    unfold firstErr
    rw [if_neg h']; rfl
  | a :: l, k + 1, hk, hn, h => by
    have h0 : f a = 0 := hn 0 (by omega) (by simp)
    unfold firstErr
    rw [if_pos h0]
    exact firstErr_hit f l k (by simpa using hk) (fun j hj hl => by have := hn (j + 1) (by omega) (by simpa using hl); simpa using this) (by simpa using h)

def predErr (p : Pred) : Int := predChk p.kind p.name p.value

theorem predR_at {w : World} {S : Nat → Prop} {A : Option Addr} {n c : Nat} {xs : List Pred} (h : predR.sl w S (.slice A n c) xs) {i : Nat} (hi : i < xs.length) :
    ∃ b o, A = some ⟨b, o, none⟩ ∧ w.cell? ⟨b, o + i * 3, none⟩ = some (.int .i64 (xs[i]'hi).kind) ∧ w.cell? ⟨b, o + i * 3 + 1, none⟩ = some (.string (xs[i]'hi).name) ∧ w.cell? ⟨b, o + i * 3 + 2, none⟩ = some (.string (xs[i]'hi).value) ∧ b < w.heap.size ∧ (xs[i]'hi).name.size ≤ maxLen ∧ (xs[i]'hi).value.size ≤ maxLen := by
  obtain ⟨b, o, cs, hA, hlt, ⟨rfl, ok1, ok2, _⟩, hc⟩ := Rp.sl_at h hi
  exact ⟨b, o, hA, hc 0 _ rfl, hc 1 _ rfl, hc 2 _ rfl, hlt, ok1, ok2⟩


theorem ruleR_at {w : World} {S : Nat → Prop} {A : Option Addr} {n c : Nat} {xs : List Rule} (h : ruleR.sl w S (.slice A n c) xs) {i : Nat} (hi : i < xs.length) :
    ∃ b o Ap cp, A = some ⟨b, o, none⟩ ∧ b < w.heap.size ∧ (∀ j u, ((xs[i]'hi).cells (.slice Ap (xs[i]'hi).preds.length cp))[j]? = some u → w.cell? ⟨b, o + i * 10 + j, none⟩ = some u) ∧ predR.sl w S (.slice Ap (xs[i]'hi).preds.length cp) (xs[i]'hi).preds ∧ (xs[i]'hi).Ok := by
  obtain ⟨b, o, cs, hA, hlt, ⟨v, rfl, hp, hok⟩, hc⟩ := Rp.sl_at h hi
  obtain ⟨Ap, cp, rfl, h1, h2, h3⟩ := hp
  exact ⟨b, o, Ap, cp, hA, hlt, hc, ⟨Ap, cp, rfl, h1, h2, h3⟩, hok⟩
theorem Rp.sl_len {α : Type} {R : Rp α} {w : World} {S : Nat → Prop} {A : Option Addr} {n c : Nat} {xs : List α} (h : R.sl w S (.slice A n c) xs) : n = xs.length ∧ xs.length ≤ maxLen := by
  obtain ⟨A', c', he, h1, h2, h3⟩ := h
  injection he with e1 e2 e3
  exact ⟨e2, Nat.le_trans h1 h2⟩
theorem Rp.sl_lenv {α : Type} {R : Rp α} {w : World} {S : Nat → Prop} {v : Value} {xs : List α} (h : R.sl w S v xs) : xs.length ≤ maxLen := by
  obtain ⟨A', c', he, h1, h2, h3⟩ := h
  exact Nat.le_trans h1 h2

/-- The k-th block that was made since w holds these cells. -/
structure Bx (w wr : World) (k : Nat) (cs : List Value) : Prop where
  below : Below w.heap.size w wr
  lt : w.heap.size + k < wr.heap.size
  cells : ∀ j u, cs[j]? = some u → wr.cell? ⟨w.heap.size + k, j, none⟩ = some u
theorem Bx.next {w wr w1 : World} {k : Nat} {cs : List Value} (h : Bx w wr k cs) (hb : Below wr.heap.size wr w1) : Bx w w1 k cs :=
  ⟨belTrans h.below hb, Nat.lt_of_lt_of_le h.lt hb.size, fun j u hu => (hb.cell (p := ⟨w.heap.size + k, j, none⟩) h.lt).trans (h.cells j u hu)⟩
theorem Bx.made {w wr : World} (hb : Below w.heap.size w wr) {k : Nat} (hk : wr.heap.size = w.heap.size + k) (cs : List Value) (t : Nat) : Bx w (wr.alloc (.cells cs.toArray t)) k cs :=
  ⟨bel hb _, by simp; omega, fun j u hu => by rw [World.cell?_alloc_at _ _ _ _ hk.symm]; simpa using hu⟩
theorem Bx.lt0 {w wr : World} {cs : List Value} (h : Bx w wr 0 cs) : w.heap.size < wr.heap.size := h.lt
theorem Bx.at0 {w wr : World} {cs : List Value} (h : Bx w wr 0 cs) (j : Nat) (u : Value) (hu : cs[j]? = some u) : wr.cell? ⟨w.heap.size, j, none⟩ = some u := h.cells j u hu
end Go.Proofs.YtnbgfpcpfknjoaaGreatDoor
