/- Plain: the order of rules: a permutation, the greatest rank first. -/
import Derived.Test.YtnbgfpcpfknjoaaGreatDoorG6
namespace Go.Proofs.YtnbgfpcpfknjoaaGreatDoor
set_option linter.all false
open Go.RowKit

def rk (xs : List Rule) (i : Nat) : Int := (xs.getD i default).rank
theorem swapAt_rk (xs : List Rule) (m i : Nat) (h : m + 1 < xs.length) : rk (swapAt xs m) i = if i = m then rk xs (m + 1) else if i = m + 1 then rk xs m else rk xs i := by
  unfold rk swapAt
  simp only [List.getD_eq_getElem?_getD, List.getElem?_set, List.length_set]
  by_cases h1 : m = i
  · rw [if_pos h1, if_pos (by omega), if_pos h1.symm]; rfl
  · rw [if_neg h1, if_neg (Ne.symm h1)]
    by_cases h2 : m + 1 = i
    · rw [if_pos h2, if_pos h, if_pos h2.symm]; rfl
    · rw [if_neg h2, if_neg (Ne.symm h2)]
theorem swapAt_perm (xs : List Rule) (m : Nat) (h : m + 1 < xs.length) : (swapAt xs m).Perm xs := by
  have h0 : m < xs.length := by omega
  have := @List.set_set_perm _ xs (m + 1) m h h0
  unfold swapAt
  rw [List.getD_eq_getElem?_getD, List.getElem?_eq_getElem h0, List.getD_eq_getElem?_getD, List.getElem?_eq_getElem h]
  exact this
def DescTo (n : Nat) (xs : List Rule) : Prop := ∀ a b, a < b → b < n → rk xs b ≤ rk xs a
theorem cmp_neg (a b : Int) : cmpRank a b < 0 ↔ b < a := by
  unfold cmpRank
  split
  · simp; omega
  · split
    · simp; omega
    · simp; omega
theorem bub_sorts (n : Nat) : ∀ (m : Nat) (xs : List Rule), m < n → n ≤ xs.length → (∀ a b, a < b → b < n → a ≠ m → b ≠ m → rk xs b ≤ rk xs a) → (∀ b, m < b → b < n → rk xs b ≤ rk xs m) → DescTo n (bub m xs)
  | 0, xs, _, _, h1, h2 => by
    intro a b hab hb
    rcases a with _ | a
    · exact h2 b hab hb
    · exact h1 _ b hab hb (by omega) (by omega)
  | m + 1, xs, hm, hn, h1, h2 => by
    unfold bub
    have hl : m + 1 < xs.length := by omega
    split
    · rename_i hc
      rw [cmp_neg] at hc
      have hc' : rk xs m < rk xs (m + 1) := hc
      refine bub_sorts n m (swapAt xs m) (by omega) (by rw [swapAt_length]; exact hn) (fun a b hab hb ha hbm => ?_) (fun b hmb hb => ?_)
      · rw [swapAt_rk xs m b hl, swapAt_rk xs m a hl, if_neg hbm, if_neg ha]
        by_cases e1 : b = m + 1
        · rw [if_pos e1, if_neg (by omega)]
          exact h1 a m (by omega) (by omega) (by omega) (by omega)
        · rw [if_neg e1]
          by_cases e2 : a = m + 1
          · rw [if_pos e2]
            exact h1 m b (by omega) hb (by omega) e1
          · rw [if_neg e2]
            exact h1 a b hab hb e2 e1
      · rw [swapAt_rk xs m b hl, swapAt_rk xs m m hl, if_neg (by omega), if_pos rfl]
        by_cases e1 : b = m + 1
        · rw [if_pos e1]; omega
        · rw [if_neg e1]
          exact h2 b (by omega) hb
    · rename_i hc
      rw [cmp_neg] at hc
      have hc' : rk xs (m + 1) ≤ rk xs m := by have : ¬ rk xs m < rk xs (m + 1) := hc; omega
      intro a b hab hb
      by_cases e1 : a = m + 1
      · subst e1; exact h2 b hab hb
      · by_cases e2 : b = m + 1
        · subst e2
          by_cases e3 : a = m
          · subst e3; exact hc'
          · have := h1 a m (by omega) (by omega) (by omega) (by omega)
            omega
        · exact h1 a b hab hb e1 e2
theorem bub_perm : ∀ (m : Nat) (xs : List Rule), m < xs.length → (bub m xs).Perm xs
  | 0, xs, _ => List.Perm.refl _
  | m + 1, xs, h => by
    unfold bub
    split
    · exact (bub_perm m _ (by rw [swapAt_length]; omega)).trans (swapAt_perm xs m h)
    · exact List.Perm.refl _
theorem insFrom_spec : ∀ (f i : Nat) (xs : List Rule), i + f = xs.length → DescTo i xs → DescTo xs.length (insFrom f i xs) ∧ (insFrom f i xs).Perm xs
  | 0, i, xs, h, hd => by
    have : i = xs.length := by omega
    subst this
    exact ⟨hd, List.Perm.refl _⟩
  | f + 1, i, xs, h, hd => by
    have hb := bub_sorts (i + 1) i xs (by omega) (by omega) (fun a b hab hb ha hbi => hd a b hab (by omega)) (fun b hb1 hb2 => by omega)
    have hl := bub_length i xs
    have ih := insFrom_spec f (i + 1) (bub i xs) (by omega) hb
    rw [insFrom]
    rw [hl] at ih
    exact ⟨ih.1, ih.2.trans (bub_perm i xs (by omega))⟩
theorem orderF_spec (xs : List Rule) : Desc (orderF xs) ∧ (orderF xs).Perm xs := by
  have key : DescTo xs.length (orderF xs) ∧ (orderF xs).Perm xs := by
    unfold orderF
    rcases Nat.eq_zero_or_pos xs.length with h0 | h0
    · have : xs = [] := List.eq_nil_of_length_eq_zero h0
      subst this
      exact ⟨fun a b _ h => by simp at h, List.Perm.refl _⟩
    · exact insFrom_spec (xs.length - 1) 1 xs (by omega) (fun a b h1 h2 => by omega)
  refine ⟨fun i j hi hj hij => ?_, key.2⟩
  have hl := key.2.length_eq
  have := key.1 i j hij (by omega)
  unfold rk at this
  rw [List.getD_eq_getElem?_getD, List.getElem?_eq_getElem hj, List.getD_eq_getElem?_getD, List.getElem?_eq_getElem hi] at this
  exact this

theorem tabErr_order {rules : List Rule} {f : ByteArray} {names : List ByteArray} (h : tabErr rules f names = 0) : tabErr (orderF rules) f names = 0 := by
  obtain ⟨h1, h2, h3⟩ := tabErr_ok h
  have hp := (orderF_spec rules).2
  unfold tabErr cfgChk
  rw [if_neg (by rw [h1]; decide), if_neg (by rw [hp.length_eq]; omega)]
  refine firstErr_none _ _ fun j hj => ?_
  obtain ⟨i, hi, e⟩ := List.getElem_of_mem (hp.mem_iff.1 (List.getElem_mem hj))
  rw [← e]
  exact h3 i hi
/-- What a plane publishes. -/
structure TabOk (names : List ByteArray) (n : Nat) (t : Tab) : Prop where
  version : t.version = (n : Int)
  err : tabErr t.rules t.format names = 0
  desc : Desc t.rules
theorem TabOk.cap {names : List ByteArray} {n : Nat} {t : Tab} (h : TabOk names n t) : RulesCap t.rules := tabErr_cap h.err
theorem pubF_ok {names : List ByteArray} {n : Nat} {s : ByteArray} {x : Int} {t : Tab} (h : pubF names n s = (x, some t)) : x = 0 ∧ n < 16 ∧ TabOk names (n + 1) t := by
  unfold pubF at h
  dsimp only at h
  rcases hj : judgeF names n s with ⟨e, rules, f⟩
  rw [hj] at h
  dsimp only at h
  split at h
  · rename_i he
    subst he
    simp only [Prod.mk.injEq, Option.some.injEq] at h
    obtain ⟨rfl, rfl⟩ := h
    have hz := judgeF_zero hj
    exact ⟨rfl, hz.2, ⟨by simp, tabErr_order hz.1, (orderF_spec rules).1⟩⟩
  · cases h
theorem pubF_bad {names : List ByteArray} {n : Nat} {s : ByteArray} {x : Int} (h : pubF names n s = (x, none)) : x ≠ 0 := by
  unfold pubF at h
  dsimp only at h
  split at h
  · cases h
  · rename_i he
    simp only [Prod.mk.injEq, and_true] at h
    rw [← h]; exact he
end Go.Proofs.YtnbgfpcpfknjoaaGreatDoor
