/- Two planes beside each other. -/
import Derived.Test.YtnbgfpcpfknjoaaGreatDoorH4
namespace Go.Proofs.YtnbgfpcpfknjoaaGreatDoor
set_option linter.all false
open Go.RowKit

/-- Blocks that no plane turns. -/
def Im2 (b1 b2 : Nat) (v1 v2 : Value) : Nat → Prop := fun k => k ≠ b1 ∧ v1.ownBlock ≠ some k ∧ k ≠ b2 ∧ v2.ownBlock ≠ some k
structure Duo (w wr : World) (b1 b2 : Nat) (names : List ByteArray) (v1 v2 : Value) (t1 t2 : List Tab) (n1 n2 : Nat) : Prop where
  p1 : PS w wr (Im2 b1 b2 v1 v2) b1 names v1 t1 n1
  p2 : PS w wr (Im2 b1 b2 v1 v2) b2 names v2 t2 n2
  nb : b1 ≠ b2
  n12 : v1.ownBlock ≠ some b2
  n21 : v2.ownBlock ≠ some b1
  ng : ∀ g, v1.ownBlock = some g → v2.ownBlock ≠ some g
theorem Duo.later {w wr w' : World} {b1 b2 : Nat} {names : List ByteArray} {v1 v2 : Value} {t1 t2 : List Tab} {n1 n2 : Nat} (h : Duo w wr b1 b2 names v1 v2 t1 t2 n1 n2) (hb : Below wr.heap.size wr w') : Duo w w' b1 b2 names v1 v2 t1 t2 n1 n2 :=
  ⟨h.p1.later hb, h.p2.later hb, h.nb, h.n12, h.n21, h.ng⟩
theorem Duo.swap {w wr : World} {b1 b2 : Nat} {names : List ByteArray} {v1 v2 : Value} {t1 t2 : List Tab} {n1 n2 : Nat} (h : Duo w wr b1 b2 names v1 v2 t1 t2 n1 n2) : Duo w wr b2 b1 names v2 v1 t2 t1 n2 n1 := by
  have key : ∀ k, Im2 b1 b2 v1 v2 k → Im2 b2 b1 v2 v1 k := fun k hk => ⟨hk.2.2.1, hk.2.2.2, hk.1, hk.2.1⟩
  have q1 := h.p1
  have q2 := h.p2
  exact ⟨⟨q2.plane.frame (fun _ _ _ => rfl) (fun k hk _ => key k hk) (fun hc => hc.1 rfl) (fun g e hc => hc.2.1 e), q2.below, q2.base, q2.row, q2.mc⟩,
    ⟨q1.plane.frame (fun _ _ _ => rfl) (fun k hk _ => key k hk) (fun hc => hc.2.2.1 rfl) (fun g e hc => hc.2.2.2 e), q1.below, q1.base, q1.row, q1.mc⟩,
    fun e => h.nb e.symm, h.n21, h.n12, fun g e e2 => h.ng g e2 e⟩
theorem im2_next {w w' : World} {b1 b2 : Nat} {v1 v1' v2 : Value} (ht : Touch w w' b1 v1 v1') (hb1 : b1 < w.heap.size) (hb2 : b2 < w.heap.size) (hv : ∀ g, v2.ownBlock = some g → g < w.heap.size) {k : Nat} (hk : (Im2 b1 b2 v1 v2 k ∧ k < w.heap.size) ∨ (w.heap.size ≤ k ∧ k < w'.heap.size ∧ v1'.ownBlock ≠ some k)) : Im2 b1 b2 v1' v2 k := by
  rcases hk with ⟨⟨h1, h2, h3, h4⟩, h5⟩ | ⟨h1, h2, h3⟩
  · refine ⟨h1, fun e => ?_, h3, h4⟩
    rcases (ht.fresh k e).2 with h | h
    · exact h2 h
    · omega
  · exact ⟨by omega, h3, by omega, fun e => by have := hv k e; omega⟩
theorem Duo.turn {w wr w' : World} {b1 b2 : Nat} {names : List ByteArray} {v1 v1' v2 : Value} {t1 t1' t2 : List Tab} {n1 n1' n2 : Nat} (h : Duo w wr b1 b2 names v1 v2 t1 t2 n1 n2) (ht : Touch wr w' b1 v1 v1')
    (hp : PS w w' (fun k => (Im2 b1 b2 v1 v2 k ∧ k < wr.heap.size) ∨ (wr.heap.size ≤ k ∧ k < w'.heap.size ∧ v1'.ownBlock ≠ some k)) b1 names v1' t1' n1') : Duo w w' b1 b2 names v1' v2 t1' t2 n1' n2 := by
  have hb1 := h.p1.plane.lt
  have hb2 := h.p2.plane.lt
  have hbs := Rp.own_base h.p2.plane.own
  have hn := fun {k : Nat} hk => im2_next (k := k) ht hb1 hb2 (fun g e => (hbs g e).2) hk
  have hbel : Below w.heap.size wr w' := ht.below h.p1.base h.p1.row h.p1.below.size
  refine ⟨⟨hp.plane.frame (fun _ _ _ => rfl) (fun k hk _ => hn hk) (fun hc => hc.1 rfl) (fun g e hc => hc.2.1 e), hp.below, hp.base, hp.row, hp.mc⟩,
    ⟨h.p2.plane.frame (fun k hk hc => ht.block k hk ?_ ?_) (fun k hk hl => hn (.inl ⟨hk, hl⟩)) (fun hc => hc.2.2.1 rfl) (fun g e hc => hc.2.2.2 e), hp.below, h.p2.base, h.p2.row, hp.mc⟩, h.nb, fun e => ?_, h.n21, fun g e e2 => ?_⟩
  · rcases hc with hc | hc | hc
    · exact hc.1
    · rw [hc]; exact fun e => h.nb e.symm
    · exact fun e => h.n21 (by rw [← e]; exact hc)
  · rcases hc with hc | hc | hc
    · exact hc.2.1
    · rw [hc]; exact h.n12
    · exact fun e => h.ng k e hc
  · rcases (ht.fresh b2 e).2 with h1 | h1
    · exact h.n12 h1
    · omega
  · rcases (ht.fresh g e).2 with h1 | h1
    · exact h.ng g h1 e2
    · have := (hbs g e2).2; omega
theorem Duo.refuse {w wr w' : World} {b1 b2 : Nat} {names : List ByteArray} {v1 v2 : Value} {t1 t2 : List Tab} {n1 n2 : Nat} {x : Int} {e : Ending} (h : Duo w wr b1 b2 names v1 v2 t1 t2 n1 n2) (hp : PubPost wr (Im2 b1 b2 v1 v2) b1 names v1 t1 n1 (x, none) e w') :
    e = .returned (.tuple #[.int .i64 0, .int .i64 x]) ∧ ∃ v1', Duo w w' b1 b2 names v1' v2 t1 t2 (n1 + 1) n2 := by
  obtain ⟨he, v1', h1, h2⟩ := h.p1.none hp
  exact ⟨he, v1', h.turn h2 h1⟩
theorem Duo.publish {w wr w' : World} {b1 b2 : Nat} {names : List ByteArray} {v1 v2 : Value} {t1 t2 : List Tab} {n1 n2 : Nat} {x : Int} {t : Tab} {e : Ending} (h : Duo w wr b1 b2 names v1 v2 t1 t2 n1 n2) (hp : PubPost wr (Im2 b1 b2 v1 v2) b1 names v1 t1 n1 (x, some t) e w') :
    e = .returned (.tuple #[.int .i64 ((t1.length + 1 : Nat) : Int), .int .i64 0]) ∧ ∃ v1', Duo w w' b1 b2 names v1' v2 (t1 ++ [t]) t2 n1 n2 := by
  obtain ⟨he, v1', h1, h2⟩ := h.p1.some hp
  exact ⟨he, v1', h.turn h2 h1⟩
theorem Duo.start {w w1 w2 : World} {b1 b2 : Nat} {names : List ByteArray} (hp1 : Plane w1 (fun k => w.heap.size ≤ k ∧ k < b1) b1 names (.slice none 0 0) [] 0) (hb1 : Below w.heap.size w w1) (hbb1 : w.heap.size ≤ b1)
    (hp2 : Plane w2 (fun k => w1.heap.size ≤ k ∧ k < b2) b2 names (.slice none 0 0) [] 0) (hb2 : Below w1.heap.size w1 w2) (hbb2 : w1.heap.size ≤ b2) (hm : MaxCell w) : Duo w w2 b1 b2 names (.slice none 0 0) (.slice none 0 0) [] [] 0 0 := by
  have h0 : (Value.slice none 0 0).ownBlock = none := rfl
  have hB := belTrans hb1 hb2
  have hl1 := hp1.lt
  have hne : b1 ≠ b2 := by omega
  have hsz := hb1.size
  refine ⟨⟨(hp1.below hb2).frame (fun _ _ _ => rfl) (fun k hk _ => ⟨by omega, by rw [h0]; simp, by omega, by rw [h0]; simp⟩) (fun hc => hc.1 rfl) (fun g e => by rw [h0] at e; cases e), hB, hbb1, (fun g e => by rw [h0] at e; cases e), hm.below hB⟩,
    ⟨hp2.frame (fun _ _ _ => rfl) (fun k hk _ => ⟨by omega, by rw [h0]; simp, by omega, by rw [h0]; simp⟩) (fun hc => hc.2.2.1 rfl) (fun g e => by rw [h0] at e; cases e), hB, by omega, (fun g e => by rw [h0] at e; cases e), hm.below hB⟩, hne, by rw [h0]; simp, by rw [h0]; simp, fun g e => by rw [h0] at e; cases e⟩
end Go.Proofs.YtnbgfpcpfknjoaaGreatDoor
