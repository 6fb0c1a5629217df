/- conf's reader: a rule, in one contract; what is read is of Go's numbers and texts. -/
import Derived.Test.YtnbgfpcpfknjoaaGreatDoorE1
namespace Go.Proofs.YtnbgfpcpfknjoaaGreatDoor
set_option linter.all false
open Go.RowKit

theorem numF_bound (s : ByteArray) : 0 ≤ (numF s).1 ∧ (numF s).1 < 1000000 := by
  unfold numF
  split
  · exact ⟨by simp, by simp⟩
  · rename_i h
    have hb := numFrom_bound (bs s) 0 (by omega) 0 (by decide)
    have hp := pow10_le (0 + (bs s).length) (by rw [bs_length]; omega)
    exact ⟨hb.2, by omega⟩
theorem numF_ok (s : ByteArray) : i64ok (numF s).1 := by have := numF_bound s; unfold i64ok; omega
theorem twoF_ok (s : ByteArray) : i64ok (twoF s).1 := numF_ok _
theorem pairF_ok {s : ByteArray} {x y : Int} (h : pairF s = some (x, y)) : i64ok x ∧ i64ok y := by
  unfold pairF at h
  split at h
  · simp only [Option.some.injEq, Prod.mk.injEq] at h
    obtain ⟨rfl, rfl⟩ := h
    exact ⟨twoF_ok _, numF_ok _⟩
  · cases h
theorem wordF_len {lines : List ByteArray} (hs : ∀ i, ∀ hi : i < lines.length, (lines[i]'hi).size ≤ 5000) (at_ : Nat) : (wordF lines at_).1.size ≤ 5000 ∧ (wordF lines at_).2.size ≤ 5000 := by
  unfold wordF
  split
  · rename_i h
    have h1 := cutS_len (lines[at_]'h)
    have h2 := hs at_ h
    exact ⟨Nat.le_trans h1.1 h2, Nat.le_trans h1.2 h2⟩
  · exact ⟨by decide, by decide⟩
theorem size_max {s : ByteArray} (h : s.size ≤ 5000) : s.size ≤ maxLen := by unfold maxLen; omega
theorem optF_ok {r : Rule} (hr : r.Ok) {lines : List ByteArray} (hs : ∀ i, ∀ hi : i < lines.length, (lines[i]'hi).size ≤ 5000) (at_ : Nat) : (optF r lines at_).2.2.Ok := by
  have hw := (wordF_len hs at_).2
  have h2 := twoF_len (wordF lines at_).2
  unfold optF
  dsimp only
  split
  · split
    · rename_i h
      have := pairF_ok h
      exact { hr with abortPct := this.1, abortStatus := this.2 }
    · exact hr
  · split
    · split
      · rename_i h
        have := pairF_ok h
        exact { hr with delayPct := this.1, delayTicks := this.2 }
      · exact hr
    · split
      · split
        · exact { hr with mirrorPct := twoF_ok _, mirror := size_max (Nat.le_trans h2 hw) }
        · exact hr
      · split
        · exact { hr with sample := numF_ok _ }
        · exact hr
theorem optsF_ok {lines : List ByteArray} (hs : ∀ i, ∀ hi : i < lines.length, (lines[i]'hi).size ≤ 5000) : ∀ (n at_ last : Nat) (r : Rule), r.Ok → ∀ q, (optsF lines n at_ last r).2 = some q → q.Ok
  | 0, _, _, _, _, q, h => by cases h
  | n + 1, at_, last, r, hr, q, h => by
    unfold optsF at h
    split at h
    · simp only [Option.some.injEq] at h; rw [← h]; exact hr
    · split at h
      · cases h
      · exact optsF_ok hs n _ _ _ (optF_ok hr hs _) q h
theorem newRule_ok {rank : Int} {ps : List Pred} {t : ByteArray} (hr : i64ok rank) (ht : t.size ≤ maxLen) : (newRule rank ps t).Ok := by
  have h0 : i64ok 0 := by unfold i64ok; omega
  exact ⟨hr, h0, h0, h0, h0, h0, h0, ht, by show (0 : Nat) ≤ maxLen; omega⟩
theorem behindF_ok {lines : List ByteArray} (hs : ∀ i, ∀ hi : i < lines.length, (lines[i]'hi).size ≤ 5000) {rank : Int} (hr : i64ok rank) (p : Nat × Option (List Pred)) : ∀ q, (behindF lines rank p).2 = some q → q.Ok := by
  intro q h
  obtain ⟨a, _ | ps⟩ := p
  · cases h
  · simp only [behindF] at h
    split at h
    · cases h
    · exact optsF_ok hs _ _ _ _ (newRule_ok hr (size_max (wordF_len hs _).2)) q h
theorem ruleF_ok {lines : List ByteArray} (hs : ∀ i, ∀ hi : i < lines.length, (lines[i]'hi).size ≤ 5000) (at_ : Nat) : ∀ q, (ruleF lines at_).2 = some q → q.Ok := by
  intro q h
  unfold ruleF at h
  split at h
  · cases h
  · exact behindF_ok hs (numF_ok _) _ q h

/- How far it goes. -/
theorem predF_lt {lines : List ByteArray} {at_ : Nat} {p : Pred} (h : predF lines at_ = some p) : at_ < lines.length := by
  refine word_lt (lines := lines) (at_ := at_) fun he => ?_
  rw [predF_empty he] at h; cases h
theorem optF_lt {lines : List ByteArray} {at_ : Nat} {r : Rule} (h : (optF r lines at_).1 ≠ 0) : at_ < lines.length := by
  refine word_lt (lines := lines) (at_ := at_) fun he => ?_
  rw [optF_empty he] at h; exact h rfl
theorem predsF_at {lines : List ByteArray} : ∀ (n at_ : Nat) (ps : List Pred), at_ ≤ lines.length → at_ ≤ (predsF lines n at_ ps).1 ∧ (predsF lines n at_ ps).1 ≤ lines.length ∧ ∀ qs, (predsF lines n at_ ps).2 = some qs → (predsF lines n at_ ps).1 < lines.length ∧ qs.length = ps.length + ((predsF lines n at_ ps).1 - at_)
  | 0, at_, _, h => ⟨Nat.le_refl _, h, fun _ e => by cases e⟩
  | n + 1, at_, ps, h => by
    unfold predsF
    split
    · rename_i ht
      exact ⟨Nat.le_refl _, h, fun qs e => by simp only [Option.some.injEq] at e; subst e; exact ⟨word_lt (by rw [ht]; decide), by simp⟩⟩
    · split
      · exact ⟨Nat.le_refl _, h, fun _ e => by cases e⟩
      · rename_i p hp
        have ih := predsF_at n (at_ + 1) (ps ++ [p]) (predF_lt hp)
        refine ⟨by omega, ih.2.1, fun qs e => ?_⟩
        have := ih.2.2 qs e
        refine ⟨this.1, ?_⟩
        rw [this.2, List.length_append, List.length_singleton]
        omega
theorem optsF_at {lines : List ByteArray} : ∀ (n at_ last : Nat) (r : Rule), at_ ≤ lines.length → at_ ≤ (optsF lines n at_ last r).1 ∧ (optsF lines n at_ last r).1 ≤ lines.length
  | 0, _, _, _, h => ⟨Nat.le_refl _, h⟩
  | n + 1, at_, last, r, h => by
    unfold optsF
    split
    · exact ⟨Nat.le_refl _, h⟩
    · rename_i h0
      split
      · exact ⟨Nat.le_refl _, h⟩
      · have := optsF_at n (at_ + 1) (optF r lines at_).1 (optF r lines at_).2.2 (optF_lt h0)
        exact ⟨by omega, this.2⟩
theorem ruleF_at {lines : List ByteArray} {at_ : Nat} (h : at_ < lines.length) : at_ ≤ (ruleF lines at_).1 ∧ (ruleF lines at_).1 ≤ lines.length ∧ ((ruleF lines at_).2 ≠ none → at_ + 2 ≤ (ruleF lines at_).1) := by
  unfold ruleF
  split
  · exact ⟨Nat.le_refl _, by omega, fun e => absurd rfl e⟩
  · have hp := predsF_at (lines.length + 1) (at_ + 1) [] h
    rcases hq : predsF lines (lines.length + 1) (at_ + 1) [] with ⟨a, _ | ps⟩
    · rw [hq] at hp
      exact ⟨by have := hp.1; dsimp only at this; unfold behindF; dsimp only; omega, hp.2.1, fun e => absurd rfl e⟩
    · rw [hq] at hp
      have h1 := hp.1
      have h2 := (hp.2.2 ps rfl).1
      dsimp only at h1 h2
      unfold behindF
      dsimp only
      split
      · exact ⟨by dsimp only; omega, by dsimp only; omega, fun e => absurd rfl e⟩
      · have := optsF_at 5 (a + 1) 0 (newRule (numF (wordF lines at_).2).1 ps (wordF lines a).2) h2
        exact ⟨by omega, this.2, fun _ => by omega⟩

set_option maxHeartbeats 1000000 in
theorem rule_bad (b : Nat) (Al : Option Addr) (cl : Nat) (lines : List ByteArray) (at0 : Nat) (vr : Value) (f : ByteArray) (rules : List Rule) (w : World) (hr : Rdr w b (fun k => k < b) Al cl lines at0 vr f) (hm : MaxCell w) (hn : (numF (wordF lines at0).2).2 = false) :
    Calls Tryz.prog 64 #[.pointer (some ⟨b, 0, none⟩)] w (RulePost w b Al cl lines f rules (at0, none)) := by
  have HR := Lib.hid hr
  have HM := Lib.hid hm
  have HN := Lib.hid hn
  have hsz := Lib.hid (size_max (wordF_len hr.small at0).2)
  clear hr hm hn
  go_enter Tryz.func64, Tryz.ntmps64
  go_wp2_with fail
  refine scope_jumps 0 (fun _ _ => False) (fun _ _ => 0) rfl (fun _ _ h => h.elim) (fun _ => ?_)
  go_wp2_with fail
  refine (word_any b _ Al cl lines at0 vr f w HR.out HM.out).mono ?_
  rintro e w1 ⟨rfl, n, hw1⟩
  have hb1 : Below w.heap.size w w1 := by rw [hw1]; exact belDrewN (Below.refl _ _) _
  have HB1 := Lib.hid hb1
  clear hw1 hb1
  go_wp2_with fail
  refine (number_any _ _ hsz.out).mono ?_
  rintro e w2 ⟨rfl, rfl⟩
  rw [HN.out]
  go_wp2
  go_ret
  exact ⟨vr, HR.out.below HB1.out, HB1.out.mono (Nat.le_of_lt HR.out.lt), HM.out.below HB1.out, rfl⟩

theorem rule_any (b : Nat) (Al : Option Addr) (cl : Nat) (lines : List ByteArray) (at0 : Nat) (Ar : Option Addr) (cr : Nat) (f : ByteArray) (rules : List Rule) (w : World) (hr : Rdr w b (fun k => k < b) Al cl lines at0 (.slice Ar rules.length cr) f) (hm : MaxCell w) (hrr : RR w b w.heap.size (.slice Ar rules.length cr) rules) (hrf : rules.length ≤ 5000) (hpos : 0 < b) (hlt0 : at0 < lines.length) :
    Calls Tryz.prog 64 #[.pointer (some ⟨b, 0, none⟩)] w (RulePost w b Al cl lines f rules (ruleF lines at0)) := by
  unfold ruleF
  cases hn : (numF (wordF lines at0).2).2
  · rw [if_pos rfl]
    exact rule_bad b Al cl lines at0 _ f rules w hr hm hn
  · rw [if_neg (by decide)]
    exact rule_good b Al cl lines at0 Ar cr f rules w hr hm hrr hrf hpos hlt0 hn _ rfl _ rfl _ rfl (Lib.hid (behindF_ok hr.small (numF_ok _) _))
end Go.Proofs.YtnbgfpcpfknjoaaGreatDoor
