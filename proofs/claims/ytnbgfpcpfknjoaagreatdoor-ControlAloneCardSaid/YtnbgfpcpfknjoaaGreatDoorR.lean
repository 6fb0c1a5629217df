/- How data lie in memory: 'Rp': of a kind of elements, what its cells say, and in which blocks (S) all of it lies. -/
import Derived.Test.YtnbgfpcpfknjoaaGreatDoor0
namespace Go.Proofs.YtnbgfpcpfknjoaaGreatDoor
set_option linter.all false
open Go.RowKit

/-- A kind of elements: how many cells, and what they say; S: the blocks in which what they point to lies. -/
structure Rp (α : Type) where
  sz : Nat
  pos : 0 < sz
  rel : World → (Nat → Prop) → α → List Value → Prop
  len : ∀ {w S x cs}, rel w S x cs → cs.length = sz
  one : ∀ {w S x cs}, rel w S x cs → ∀ u ∈ cs, u.oneCell' = true
  frame : ∀ {w w' S x cs}, rel w S x cs → (∀ k, S k → k < w.heap.size → w'.heap[k]? = w.heap[k]?) → rel w' S x cs
  mono : ∀ {w} {S S' : Nat → Prop} {x cs}, rel w S x cs → (∀ k, S k → k < w.heap.size → S' k) → rel w S' x cs

/-- Rows of elements, one behind another. -/
def Rp.row {α : Type} (R : Rp α) (w : World) (S : Nat → Prop) (b o : Nat) (xs : List α) : Prop :=
  ∀ i x, xs[i]? = some x → ∃ cs, R.rel w S x cs ∧ ∀ j u, cs[j]? = some u → w.cell? ⟨b, o + i * R.sz + j, none⟩ = some u

/-- A slice. -/
def Rp.sl {α : Type} (R : Rp α) (w : World) (S : Nat → Prop) (v : Value) (xs : List α) : Prop :=
  ∃ A c, v = .slice A xs.length c ∧ xs.length ≤ c ∧ c ≤ maxLen ∧ (xs ≠ [] → ∃ b o, A = some ⟨b, o, none⟩ ∧ S b ∧ b < w.heap.size ∧ R.row w S b o xs)

theorem cell_same {w w' : World} {a : Addr} (h : w'.heap[a.block]? = w.heap[a.block]?) : w'.cell? a = w.cell? a := World.cell?_of_block h
theorem Rp.row_frame {α : Type} {R : Rp α} {w w' : World} {S : Nat → Prop} {b o : Nat} {xs : List α} (h : R.row w S b o xs) (hb : S b) (hlt : b < w.heap.size) (hf : ∀ k, S k → k < w.heap.size → w'.heap[k]? = w.heap[k]?) : R.row w' S b o xs := by
  intro i x hx
  obtain ⟨cs, hr, hc⟩ := h i x hx
  refine ⟨cs, R.frame hr hf, fun j u hu => ?_⟩
  rw [cell_same (a := ⟨b, o + i * R.sz + j, none⟩) (hf b hb hlt)]
  exact hc j u hu
theorem Rp.row_mono {α : Type} {R : Rp α} {w : World} {S S' : Nat → Prop} {b o : Nat} {xs : List α} (h : R.row w S b o xs) (hs : ∀ k, S k → k < w.heap.size → S' k) : R.row w S' b o xs := by
  intro i x hx
  obtain ⟨cs, hr, hc⟩ := h i x hx
  exact ⟨cs, R.mono hr hs, hc⟩
theorem Rp.sl_frame {α : Type} {R : Rp α} {w w' : World} {S : Nat → Prop} {v : Value} {xs : List α} (h : R.sl w S v xs) (hsz : w.heap.size ≤ w'.heap.size) (hf : ∀ k, S k → k < w.heap.size → w'.heap[k]? = w.heap[k]?) : R.sl w' S v xs := by
  obtain ⟨A, c, rfl, h1, h2, h3⟩ := h
  refine ⟨A, c, rfl, h1, h2, fun hne => ?_⟩
  obtain ⟨b, o, hA, hs, hlt, hr⟩ := h3 hne
  exact ⟨b, o, hA, hs, Nat.lt_of_lt_of_le hlt hsz, Rp.row_frame hr hs hlt hf⟩
theorem Rp.sl_mono {α : Type} {R : Rp α} {w : World} {S S' : Nat → Prop} {v : Value} {xs : List α} (h : R.sl w S v xs) (hs : ∀ k, S k → k < w.heap.size → S' k) : R.sl w S' v xs := by
  obtain ⟨A, c, rfl, h1, h2, h3⟩ := h
  refine ⟨A, c, rfl, h1, h2, fun hne => ?_⟩
  obtain ⟨b, o, hA, hb, hlt, hr⟩ := h3 hne
  exact ⟨b, o, hA, hs b hb hlt, hlt, Rp.row_mono hr hs⟩
/-- What was made since leaves it as it is. -/
theorem Rp.sl_below {α : Type} {R : Rp α} {w w' : World} {S : Nat → Prop} {v : Value} {xs : List α} (h : R.sl w S v xs) (hb : Below w.heap.size w w') : R.sl w' S v xs :=
  Rp.sl_frame h hb.size fun k _ hk => hb.block k hk
theorem Rp.sl_alloc {α : Type} {R : Rp α} {w : World} {S : Nat → Prop} {v : Value} {xs : List α} (h : R.sl w S v xs) (o : Obj) : R.sl (w.alloc o) S v xs :=
  Rp.sl_below h (bel (Below.refl _ _) o)
theorem Rp.rel_below {α : Type} {R : Rp α} {w w' : World} {S : Nat → Prop} {x : α} {cs : List Value} (h : R.rel w S x cs) (hb : Below w.heap.size w w') : R.rel w' S x cs :=
  R.frame h fun k _ hk => hb.block k hk
theorem Rp.sl_nil {α : Type} (R : Rp α) (w : World) (S : Nat → Prop) : R.sl w S (.slice none 0 0) [] := ⟨none, 0, rfl, Nat.le_refl _, Nat.zero_le _, fun h => absurd rfl h⟩
/-- The cells of the element at a place. -/
theorem Rp.sl_at {α : Type} {R : Rp α} {w : World} {S : Nat → Prop} {A : Option Addr} {n c : Nat} {xs : List α} (h : R.sl w S (.slice A n c) xs) {i : Nat} (hi : i < xs.length) :
    ∃ b o cs, A = some ⟨b, o, none⟩ ∧ b < w.heap.size ∧ R.rel w S (xs[i]'hi) cs ∧ ∀ j u, cs[j]? = some u → w.cell? ⟨b, o + i * R.sz + j, none⟩ = some u := by
  obtain ⟨A', c', he, h1, h2, h3⟩ := h
  injection he with e1 e2 e3
  subst e1
  obtain ⟨b, o, hA, hs, hlt, hr⟩ := h3 (by intro e; subst e; simp at hi)
  obtain ⟨cs, hrel, hc⟩ := hr i (xs[i]'hi) (by simp [hi])
  exact ⟨b, o, cs, hA, hlt, hrel, hc⟩

/-- Elements of fixed cells. -/
def Rp.flat {α : Type} (sz : Nat) (pos : 0 < sz) (enc : α → List Value) (h1 : ∀ x, (enc x).length = sz) (h2 : ∀ x u, u ∈ enc x → u.oneCell' = true) (ok : α → Prop) : Rp α where
  sz := sz
  pos := pos
  rel := fun _ _ x cs => cs = enc x ∧ ok x
  len := fun h => by rw [h.1]; exact h1 _
  one := fun h u hu => h2 _ u (by rw [← h.1]; exact hu)
  frame := fun h _ => h
  mono := fun h _ => h
def i64ok (n : Int) : Prop := -9223372036854775808 ≤ n ∧ n ≤ 9223372036854775807
/-- Texts. -/
def strR : Rp ByteArray := Rp.flat 1 (by decide) (fun x => [.string x]) (fun _ => rfl) (fun x u hu => by simp at hu; rw [hu]; rfl) (fun x => x.size ≤ maxLen)
def intR : Rp Int := Rp.flat 1 (by decide) (fun x => [.int .i64 x]) (fun _ => rfl) (fun x u hu => by simp at hu; rw [hu]; rfl) i64ok

structure Pred where
  kind : Int
  name : ByteArray
  value : ByteArray
  deriving DecidableEq
def Pred.cells (p : Pred) : List Value := [.int .i64 p.kind, .string p.name, .string p.value]
def predR : Rp Pred := Rp.flat 3 (by decide) Pred.cells (fun _ => rfl) (fun x u hu => by simp [Pred.cells] at hu; rcases hu with rfl | rfl | rfl <;> rfl) (fun x => x.name.size ≤ maxLen ∧ x.value.size ≤ maxLen ∧ -9223372036854775808 ≤ x.kind ∧ x.kind ≤ 9223372036854775807)

structure Rule where
  rank : Int
  preds : List Pred
  target : ByteArray
  abortPct : Int
  abortStatus : Int
  delayPct : Int
  delayTicks : Int
  mirrorPct : Int
  mirror : ByteArray
  sample : Int
  deriving DecidableEq
instance : Inhabited Rule := ⟨⟨0, [], ⟨#[]⟩, 0, 0, 0, 0, 0, ⟨#[]⟩, 0⟩⟩
def Rule.cells (r : Rule) (v : Value) : List Value := [.int .i64 r.rank, v, .string r.target, .int .i64 r.abortPct, .int .i64 r.abortStatus, .int .i64 r.delayPct, .int .i64 r.delayTicks, .int .i64 r.mirrorPct, .string r.mirror, .int .i64 r.sample]
/-- A rule whose numbers and texts Go can hold. -/
structure Rule.Ok (r : Rule) : Prop where
  rank : i64ok r.rank
  abortPct : i64ok r.abortPct
  abortStatus : i64ok r.abortStatus
  delayPct : i64ok r.delayPct
  delayTicks : i64ok r.delayTicks
  mirrorPct : i64ok r.mirrorPct
  sample : i64ok r.sample
  target : r.target.size ≤ maxLen
  mirror : r.mirror.size ≤ maxLen
def ruleR : Rp Rule where
  sz := 10
  pos := by decide
  rel := fun w S r cs => ∃ v, cs = r.cells v ∧ predR.sl w S v r.preds ∧ r.Ok
  len := by rintro w S x cs ⟨v, rfl, _⟩; rfl
  one := by
    rintro w S x cs ⟨v, rfl, ⟨A, c, rfl, _⟩, _⟩ u hu
    simp [Rule.cells] at hu
    rcases hu with rfl | rfl | rfl | rfl | rfl | rfl | rfl | rfl | rfl | rfl <;> rfl
  frame := by
    rintro w w' S x cs ⟨v, rfl, h, hok⟩ hf
    refine ⟨v, rfl, ?_, hok⟩
    obtain ⟨A, c, rfl, h1, h2, h3⟩ := h
    refine ⟨A, c, rfl, h1, h2, fun hne => ?_⟩
    obtain ⟨b, o, hA, hs, hlt, hr⟩ := h3 hne
    refine ⟨b, o, hA, hs, ?_, Rp.row_frame hr hs hlt hf⟩
    have hb := hf b hs hlt
    rcases Nat.lt_or_ge b w'.heap.size with h | h
    · exact h
    · rw [Array.getElem?_eq_none h, Array.getElem?_eq_getElem hlt] at hb; cases hb
  mono := by
    rintro w S S' x cs ⟨v, rfl, h, hok⟩ hs
    exact ⟨v, rfl, Rp.sl_mono h hs, hok⟩

/-- The place of the first that meets p, or -1. -/
def firstIdx {α : Type} (p : α → Bool) : List α → Int
  | [] => -1
  | a :: l => if p a = true then 0 else if firstIdx p l < 0 then -1 else firstIdx p l + 1
theorem firstIdx_ge {α : Type} (p : α → Bool) : ∀ l : List α, -1 ≤ firstIdx p l
  | [] => by simp [firstIdx]
  | a :: l => by
    have := firstIdx_ge p l
    unfold firstIdx
    split
    · omega
    · split <;> omega
theorem firstIdx_any {α : Type} (p : α → Bool) : ∀ l : List α, decide (0 ≤ firstIdx p l) = l.any p
  | [] => by simp [firstIdx]
  | a :: l => by
    have ih := firstIdx_any p l
    have hg := firstIdx_ge p l
    unfold firstIdx
    rw [List.any_cons, ← ih, Bool.eq_iff_iff]
    cases hp : p a
    · simp
      split <;> omega
    · simp
theorem firstIdx_hit {α : Type} (p : α → Bool) : ∀ (l : List α) (k : Nat) (hk : k < l.length), (∀ j, j < k → ∀ hj : j < l.length, p (l[j]'hj) = false) → p (l[k]'hk) = true → firstIdx p l = k
  | [], k, hk, _, _ => by simp at hk
  | a :: l, 0, hk, _, h => by
    have h' : p a = true := h
    unfold firstIdx
    rw [if_pos h']; rfl
  | a :: l, k + 1, hk, hn, h => by
    have h0 := hn 0 (by omega) (by simp)
    have h0' : p a = false := h0
    have ih := firstIdx_hit p l k (by simpa using hk) (fun j hj hl => by have := hn (j + 1) (by omega) (by simpa using hl); simpa using this) (by simpa using h)
    unfold firstIdx
    rw [if_neg (by rw [h0']; simp), ih, if_neg (by omega)]
    omega
theorem firstIdx_none {α : Type} (p : α → Bool) : ∀ (l : List α), (∀ j, ∀ hj : j < l.length, p (l[j]'hj) = false) → firstIdx p l = -1
  | [], _ => rfl
  | a :: l, hn => by
    have h0' : p a = false := hn 0 (by simp)
    have ih := firstIdx_none p l (fun j hl => by have := hn (j + 1) (by simpa using hl); simpa using this)
    unfold firstIdx
    rw [if_neg (by rw [h0']; simp), ih, if_pos (by omega)]
theorem bytes_ext {a b : ByteArray} (h : a.data.toList = b.data.toList) : a = b := by
  cases a; cases b
  simp only [ByteArray.mk.injEq]
  exact Array.toList_inj.1 h
theorem toList_beq (x y : ByteArray) : (x.toList == y.toList) = decide (x = y) := by
  rw [Bool.eq_iff_iff, beq_iff_eq, decide_eq_true_iff, toList_bs, toList_bs]
  exact ⟨fun h => bytes_ext h, fun h => by rw [h]⟩
end Go.Proofs.YtnbgfpcpfknjoaaGreatDoor
