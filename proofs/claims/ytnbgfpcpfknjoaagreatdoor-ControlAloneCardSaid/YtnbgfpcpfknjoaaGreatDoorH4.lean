/- The laws of control: a plane, and a list of tables beside it. -/
import Derived.Test.YtnbgfpcpfknjoaaGreatDoorH2
import Derived.Test.YtnbgfpcpfknjoaaGreatDoorH3
namespace Go.Proofs.YtnbgfpcpfknjoaaGreatDoor
set_option linter.all false
open Go.RowKit

/-- Blocks that nobody turns. -/
def Im (b : Nat) (vt va : Value) : Nat → Prop := fun k => k ≠ b ∧ vt.ownBlock ≠ some k ∧ va.ownBlock ≠ some k
structure Law (w wr : World) (b : Nat) (names : List ByteArray) (vt va : Value) (tabs alls : List Tab) (nr : Nat) : Prop where
  ps : PS w wr (Im b vt va) b names vt tabs nr
  all : tabR.own wr (Im b vt va) w.heap.size 32 va alls
  nb : va.ownBlock ≠ some b
  ng : ∀ g, vt.ownBlock = some g → va.ownBlock ≠ some g
theorem Law.below {w wr : World} {b : Nat} {names : List ByteArray} {vt va : Value} {tabs alls : List Tab} {nr : Nat} (h : Law w wr b names vt va tabs alls nr) : Below w.heap.size w wr := h.ps.below
theorem Law.later {w wr w' : World} {b : Nat} {names : List ByteArray} {vt va : Value} {tabs alls : List Tab} {nr : Nat} (h : Law w wr b names vt va tabs alls nr) (hb : Below wr.heap.size wr w') : Law w w' b names vt va tabs alls nr :=
  ⟨h.ps.later hb, Rp.own_below h.all hb, h.nb, h.ng⟩
theorem Law.start {w w0 w' : World} {b : Nat} {names : List ByteArray} (hb0 : Below w.heap.size w w0) (hp : Plane w' (fun k => w0.heap.size ≤ k ∧ k < b) b names (.slice none 0 0) [] 0) (hb : Below w0.heap.size w0 w') (hbb : w0.heap.size ≤ b) (hm : MaxCell w) : Law w w' b names (.slice none 0 0) (.slice none 0 0) [] [] 0 := by
  have h0 : (Value.slice none 0 0).ownBlock = none := rfl
  have hB := belTrans hb0 hb
  refine ⟨⟨?_, hB, by have := hb0.size; omega, (fun g e => by rw [h0] at e; cases e), hm.below hB⟩, ⟨[], World.ownsRow_nil _ _ _ _, fun i x hx => by simp at hx⟩, by rw [h0]; simp, (fun g e => by rw [h0] at e; cases e)⟩
  exact hp.frame (fun _ _ _ => rfl) (fun k hk _ => ⟨by omega, by rw [h0]; simp, by rw [h0]; simp⟩) (fun hc => hc.1 rfl) (fun g e => by rw [h0] at e; cases e)
/-- What becomes of blocks that nobody turned. -/
theorem im_next {w w' : World} {b : Nat} {vt vt' va : Value} (ht : Touch w w' b vt vt') (hb : b < w.heap.size) (hv : ∀ g, va.ownBlock = some g → g < w.heap.size) {k : Nat} (hk : (Im b vt va k ∧ k < w.heap.size) ∨ (w.heap.size ≤ k ∧ k < w'.heap.size ∧ vt'.ownBlock ≠ some k)) : Im b vt' va k := by
  rcases hk with ⟨⟨h1, h2, h3⟩, h4⟩ | ⟨h1, h2, h3⟩
  · refine ⟨h1, fun e => ?_, h3⟩
    rcases (ht.fresh k e).2 with h | h
    · exact h2 h
    · omega
  · exact ⟨by omega, h3, fun e => by have := hv k e; omega⟩
theorem Law.turn {w wr w' : World} {b : Nat} {names : List ByteArray} {vt vt' va : Value} {tabs tabs' alls : List Tab} {nr nr' : Nat} (h : Law w wr b names vt va tabs alls nr) (ht : Touch wr w' b vt vt')
    (hp : PS w w' (fun k => (Im b vt va k ∧ k < wr.heap.size) ∨ (wr.heap.size ≤ k ∧ k < w'.heap.size ∧ vt'.ownBlock ≠ some k)) b names vt' tabs' nr') : Law w w' b names vt' va tabs' alls nr' := by
  have hbl := h.ps.plane.lt
  have hbs := Rp.own_base h.all
  refine ⟨⟨?_, hp.below, hp.base, hp.row, hp.mc⟩, ?_, h.nb, fun g e => ?_⟩
  · exact hp.plane.frame (fun _ _ _ => rfl) (fun k hk _ => im_next ht hbl (fun g e => (hbs g e).2) hk) (fun hc => hc.1 rfl) (fun g e hc => hc.2.1 e)
  · have m := Rp.own_lower (S' := fun k => Im b vt va k ∧ k < wr.heap.size) h.all (Nat.le_refl _) fun k hk hl => ⟨hk, hl⟩
    exact Rp.own_lower (Rp.own_frame m (fun k hk hl => ht.block k hl hk.1.1 hk.1.2.1) fun k hk => ht.block k (hbs k hk).2 (fun e => h.nb (by rw [← e]; exact hk)) fun e => h.ng k e hk) (Nat.le_refl _) fun k hk _ => im_next ht hbl (fun g e => (hbs g e).2) (.inl hk)
  · rcases (ht.fresh g e).2 with h1 | h1
    · exact h.ng g h1
    · exact fun e2 => by have := (hbs g e2).2; omega
theorem Law.refuse {w wr w' : World} {b : Nat} {names : List ByteArray} {vt va : Value} {tabs alls : List Tab} {nr : Nat} {x : Int} {e : Ending} (h : Law w wr b names vt va tabs alls nr) (hp : PubPost wr (Im b vt va) b names vt tabs nr (x, none) e w') :
    e = .returned (.tuple #[.int .i64 0, .int .i64 x]) ∧ ∃ vt', Law w w' b names vt' va tabs alls (nr + 1) := by
  obtain ⟨he, vt', h1, h2⟩ := h.ps.none hp
  exact ⟨he, vt', h.turn h2 h1⟩
theorem Law.publish {w wr w' : World} {b : Nat} {names : List ByteArray} {vt va : Value} {tabs alls : List Tab} {nr : Nat} {x : Int} {t : Tab} {e : Ending} (h : Law w wr b names vt va tabs alls nr) (hp : PubPost wr (Im b vt va) b names vt tabs nr (x, some t) e w') :
    e = .returned (.tuple #[.int .i64 ((tabs.length + 1 : Nat) : Int), .int .i64 0]) ∧ ∃ vt', Law w w' b names vt' va (tabs ++ [t]) alls nr := by
  obtain ⟨he, vt', h1, h2⟩ := h.ps.some hp
  exact ⟨he, vt', h.turn h2 h1⟩
/-- A table that was handed out has been added to the list. -/
theorem Law.append {w wr w0 W w5 : World} (hm : MaxCell w) {b : Nat} {names : List ByteArray} {vt va : Value} {tabs alls : List Tab} {nr : Nat} (h : Law w wr b names vt va tabs alls nr) {inner : List Value} {t : Tab} {v v5 : Value}
    (hown : wr.ownsRow w.heap.size 32 3 va alls.length inner) (hrel : ∀ i x, alls[i]? = some x → tabR.rel wr (Im b vt va) x ((inner.drop (i * 3)).take 3))
    (hw0 : w0.heap.size ≤ wr.heap.size) (ht : TabAt wr (fun k => (Im b vt va k ∧ k < w0.heap.size) ∨ (w0.heap.size ≤ k ∧ k < wr.heap.size)) v t) (hvl : ∀ g, vt.ownBlock = some g → g < w0.heap.size) (hal : ∀ g, va.ownBlock = some g → g < w0.heap.size) (hb0 : b < w0.heap.size)
    (hW : Below wr.heap.size wr W) (hg : W.grownBy w5 va.ownBlock)
    (hown5 : w5.ownsRow w.heap.size 32 3 v5 (alls.length + 1) (inner ++ t.cells v)) (hat : v5.ownBlock = va.ownBlock ∨ v5.ownBlock = some W.heap.size) : Law w w5 b names vt v5 tabs (alls ++ [t]) nr := by
  have hbs := Rp.own_base h.all
  have hwsz := h.below.size
  have hWs := hW.size
  have hbl := h.ps.plane.lt
  have hsame : ∀ k, k < wr.heap.size → va.ownBlock ≠ some k → w5.heap[k]? = wr.heap[k]? := fun k hk hn => (hg.block k (Nat.lt_of_lt_of_le hk hW.size) (fun e => hn e.symm)).trans (hW.block k hk)
  have hold : ∀ k, v5.ownBlock = some k → va.ownBlock = some k ∨ W.heap.size ≤ k := fun k e => by
    rcases hat with e1 | e1
    · exact .inl (by rw [← e1]; exact e)
    · rw [e1] at e; injection e with e; exact .inr (by omega)
  have him : ∀ k, Im b vt va k → k < wr.heap.size → Im b vt v5 k := fun k hk hl => ⟨hk.1, hk.2.1, fun e => by
    rcases hold k e with h1 | h1
    · exact hk.2.2 h1
    · omega⟩
  have himt : ∀ k, ((Im b vt va k ∧ k < w0.heap.size) ∨ (w0.heap.size ≤ k ∧ k < wr.heap.size)) → k < wr.heap.size → Im b vt va k := fun k hk hl => by
    rcases hk with h1 | h1
    · exact h1.1
    · exact ⟨by omega, fun e => by have := hvl k e; omega, fun e => by have := hal k e; omega⟩
  have hB5 : Below w.heap.size w w5 := (h.below.trans (hW.mono hwsz)).grown hg (by omega) fun k hk => (hbs k hk).1
  have hnb : v5.ownBlock ≠ some b := fun e => by
    rcases hold b e with h1 | h1
    · exact h.nb h1
    · omega
  have hng : ∀ g, vt.ownBlock = some g → v5.ownBlock ≠ some g := fun g e e2 => by
    rcases hold g e2 with h1 | h1
    · exact h.ng g e h1
    · have := hvl g e; omega
  refine ⟨⟨?_, hB5, h.ps.base, h.ps.row, h.ps.mc.keep (hsame 0 h.ps.mc.pos fun e => ?_)⟩, ?_, hnb, hng⟩
  · refine h.ps.plane.frame (fun k hk hc => hsame k hk ?_) him (fun hc => hc.1 rfl) (fun g e hc => hc.2.1 e)
    rcases hc with hc | hc | hc
    · exact hc.2.2
    · rw [hc]; exact h.nb
    · exact h.ng k hc
  · have := (hbs 0 e).1
    have hp := h.ps.mc.pos
    have hb1 := h.ps.base
    have hw0' := hm.pos
    omega
  · refine Rp.own_of_append (R := tabR) (w := wr) (ys := [t]) (news := t.cells v) (ownsRow_len hown) hown5 (fun i x hi => ?_) (fun i x hi => ?_)
    · exact tabR.mono (tabR.frame (tabR.mono (hrel i x hi) (S' := fun k => Im b vt va k ∧ k < wr.heap.size) fun k hk hl => ⟨hk, hl⟩) fun k hk hkl => hsame k hkl hk.1.2.2) fun k hk _ => him k hk.1 hk.2
    · rcases i with _ | i
      · have e : t = x := by simpa using hi
        subst e
        refine ⟨v, rfl, ?_, ht.2⟩
        exact Rp.sl_mono (Rp.sl_frame2 (Rp.sl_mono ht.1 (S' := fun k => Im b vt va k ∧ k < wr.heap.size) fun k hk hl => ⟨himt k hk hl, hl⟩) fun k hk hl => hsame k hl hk.1.2.2) fun k hk _ => him k hk.1 hk.2
      · simp at hi
theorem strR_max {w : World} {S : Nat → Prop} {A : Option Addr} {n c : Nat} {xs : List ByteArray} (h : strR.sl w S (.slice A n c) xs) {i : Nat} (hi : i < xs.length) : (xs[i]'hi).size ≤ maxLen := by
  obtain ⟨b, o, cs, -, -, hr, -⟩ := Rp.sl_at h hi
  exact hr.2
end Go.Proofs.YtnbgfpcpfknjoaaGreatDoor
