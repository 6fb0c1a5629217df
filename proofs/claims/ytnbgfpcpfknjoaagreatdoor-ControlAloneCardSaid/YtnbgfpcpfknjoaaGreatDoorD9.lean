/- conf's reader: a rule, by definition; the state at work. -/
import Derived.Test.YtnbgfpcpfknjoaaGreatDoorD8
namespace Go.Proofs.YtnbgfpcpfknjoaaGreatDoor
set_option linter.all false
open Go.RowKit

def kTo : ByteArray := ⟨#[116, 111]⟩
def predsF (lines : List ByteArray) : Nat → Nat → List Pred → Nat × Option (List Pred)
  | 0, at_, _ => (at_, none)
  | n + 1, at_, ps => if (wordF lines at_).1 = kTo then (at_, some ps) else
    match predF lines at_ with
    | none => (at_, none)
    | some p => predsF lines n (at_ + 1) (ps ++ [p])
def optsF (lines : List ByteArray) : Nat → Nat → Nat → Rule → Nat × Option Rule
  | 0, at_, _, _ => (at_, none)
  | n + 1, at_, last, r =>
    if (optF r lines at_).1 = 0 then (at_, some r)
    else if (optF r lines at_).2.1 = false ∨ (optF r lines at_).1 ≤ last then (at_, none)
    else optsF lines n (at_ + 1) (optF r lines at_).1 (optF r lines at_).2.2
def newRule (rank : Int) (ps : List Pred) (target : ByteArray) : Rule := ⟨rank, ps, target, 0, 0, 0, 0, 0, empty, 0⟩
def behindF (lines : List ByteArray) (rank : Int) : Nat × Option (List Pred) → Nat × Option Rule
  | (at1, none) => (at1, none)
  | (at1, some ps) => if singleF (lines.getD at1 empty) (wordF lines at1).2 = false then (at1, none) else optsF lines 5 (at1 + 1) 0 (newRule rank ps (wordF lines at1).2)
/-- A rule from a line on: at which line it ends, and the rule, if it may be. -/
def ruleF (lines : List ByteArray) (at_ : Nat) : Nat × Option Rule :=
  if (numF (wordF lines at_).2).2 = false then (at_, none)
  else behindF lines (numF (wordF lines at_).2).1 (predsF lines (lines.length + 1) (at_ + 1) [])

/-- Rules that were read: a row of the reader's own, made behind its block, and below 'top' all they point to. -/
def RR (w : World) (b top : Nat) (vr : Value) (rules : List Rule) : Prop := ruleR.own w (fun k => b < k ∧ k < top ∧ vr.ownBlock ≠ some k) (b + 1) 65 vr rules
theorem RR.frame {w w' : World} {b top : Nat} {vr : Value} {rules : List Rule} (h : RR w b top vr rules) (hf : ∀ k, b < k → k < top → k < w.heap.size → w'.heap[k]? = w.heap[k]?) (hv : ∀ k, vr.ownBlock = some k → k < top) : RR w' b top vr rules :=
  Rp.own_frame h (fun k hk hlt => hf k hk.1 hk.2.1 hlt) (fun k hk => by have := Rp.own_base h k hk; exact hf k (by omega) (hv k hk) this.2)
theorem RR.top {w : World} {b top : Nat} {vr : Value} {rules : List Rule} (h : RR w b top vr rules) : RR w b w.heap.size vr rules := Rp.own_lower h (Nat.le_refl _) fun k hk hlt => ⟨hk.1, hlt, hk.2.2⟩

/-- The reader, and a rule that is being read, at work. -/
structure LS (w wx : World) (b bx : Nat) (Al : Option Addr) (cl : Nat) (lines : List ByteArray) (at_ : Nat) (vr : Value) (f : ByteArray) (r : Rule) (v : Value) (rules : List Rule) : Prop where
  rdr : Rdr wx b (fun k => k < b) Al cl lines at_ vr f
  xr : XR wx bx r v
  pr : PR wx bx v r.preds
  rr : RR wx b bx vr rules
  bb : Below b w wx
  lt : b < bx
  vrb : ∀ k, vr.ownBlock = some k → k < bx
  bxw : bx = w.heap.size
  mc : MaxCell wx
  pos : 0 < b
theorem MaxCell.keep {w w' : World} (h : MaxCell w) (h0 : w'.heap[0]? = w.heap[0]?) : MaxCell w' := by
  obtain ⟨m, hm⟩ := h
  exact ⟨m, (World.cell?_of_block (a := ⟨0, 0, none⟩) h0).trans hm⟩
theorem Rdr.next {w : World} {b : Nat} {S : Nat → Prop} {Al : Option Addr} {cl : Nat} {lines : List ByteArray} {at_ : Nat} {vr : Value} {f : ByteArray} (h : Rdr w b S Al cl lines at_ vr f) (hlt : at_ < lines.length) : Rdr (w.setCell ⟨b, 1, none⟩ (.int .i64 ((at_ + 1 : Nat) : Int))) b S Al cl lines (at_ + 1) vr f :=
  ⟨(cell_setCell_ne _ (by decide)).trans h.c0, cell_setCell_eq _ h.c1, (cell_setCell_ne _ (by decide)).trans h.c2, (cell_setCell_ne _ (by decide)).trans h.c3, fun j => (frozen_setCell _ _ _ _).trans (h.fz j), Rp.sl_frame h.sl (by simp [World.setCell]) (fun k hk _ => Below.heap_setCell _ _ _ _ (by rintro rfl; exact h.nS hk)), h.nS, h.small, h.few, hlt⟩
theorem LS.below {w wx w1 : World} {b bx : Nat} {Al : Option Addr} {cl : Nat} {lines : List ByteArray} {at_ : Nat} {vr : Value} {f : ByteArray} {r : Rule} {v : Value} {rules : List Rule} (h : LS w wx b bx Al cl lines at_ vr f r v rules) (hb : Below wx.heap.size wx w1) : LS w w1 b bx Al cl lines at_ vr f r v rules :=
  ⟨h.rdr.below hb, h.xr.frame (hb.block bx h.xr.lt), Rp.own_below h.pr hb, h.rr.frame (fun k _ _ hk => hb.block k hk) h.vrb, h.bb.trans (hb.mono (by have := h.rdr.lt; omega)), h.lt, h.vrb, h.bxw, h.mc.below hb, h.pos⟩
/-- The next line. -/
theorem LS.next {w wx : World} {b bx : Nat} {Al : Option Addr} {cl : Nat} {lines : List ByteArray} {at_ : Nat} {vr : Value} {f : ByteArray} {r : Rule} {v : Value} {rules : List Rule} (h : LS w wx b bx Al cl lines at_ vr f r v rules) (hlt : at_ < lines.length) : LS w (wx.setCell ⟨b, 1, none⟩ (.int .i64 ((at_ + 1 : Nat) : Int))) b bx Al cl lines (at_ + 1) vr f r v rules := by
  have hne : ∀ k, b < k → (wx.setCell ⟨b, 1, none⟩ (.int .i64 ((at_ + 1 : Nat) : Int))).heap[k]? = wx.heap[k]? := fun k hk => Below.heap_setCell _ _ _ _ (by show k ≠ b; omega)
  exact ⟨h.rdr.next hlt, h.xr.frame (hne bx h.lt), Rp.own_frame h.pr (fun k hk _ => hk.elim) (fun k hk => hne k (by have := (Rp.own_base h.pr k hk).1; have := h.lt; omega)), h.rr.frame (fun k hk _ _ => hne k hk) h.vrb, h.bb.setCell (p := ⟨b, 1, none⟩) (Nat.le_refl _) _, h.lt, h.vrb, h.bxw, h.mc.keep (Below.heap_setCell _ _ _ _ (by have := h.pos; show 0 ≠ b; omega)), h.pos⟩
/-- One more predicate. -/
theorem LS.pred {w wx w1 : World} {b bx : Nat} {Al : Option Addr} {cl : Nat} {lines : List ByteArray} {at_ : Nat} {vr : Value} {f : ByteArray} {r : Rule} {v : Value} {rules : List Rule} (h : LS w wx b bx Al cl lines at_ vr f r v rules) {p : Pred} (hp : NewPred bx r p wx w1) : ∃ v', LS w w1 b bx Al cl lines at_ vr f { r with preds := r.preds ++ [p] } v' rules := by
  obtain ⟨v', hx, ho, hb⟩ := hp
  have hlt := h.lt
  have hpos := h.pos
  exact ⟨v', h.rdr.frame hb.size (hb.block b hlt) (fun k hk _ => hb.block k (by omega)), hx, ho, h.rr.frame (fun k _ hk _ => hb.block k hk) h.vrb, h.bb.trans (hb.mono (by omega)), hlt, h.vrb, h.bxw, h.mc.keep (hb.block 0 (by omega)), hpos⟩
/-- An option has been read. -/
theorem LS.opt {w wx w1 : World} {b bx : Nat} {Al : Option Addr} {cl : Nat} {lines : List ByteArray} {at_ : Nat} {vr : Value} {f : ByteArray} {r r' : Rule} {v : Value} {rules : List Rule} (h : LS w wx b bx Al cl lines at_ vr f r v rules) (hp : r'.preds = r.preds) (ho : Opt wx w1 bx r' v) : LS w w1 b bx Al cl lines at_ vr f r' v rules := by
  obtain ⟨hx, ho⟩ := ho
  have hlt := h.lt
  have hpos := h.pos
  have hb : Below bx wx w1 := ho.toBelow (Nat.le_refl _) (by have := h.xr.lt; omega)
  refine ⟨h.rdr.frame hb.size (hb.block b hlt) (fun k hk _ => hb.block k (by omega)), hx, ?_, h.rr.frame (fun k _ hk _ => hb.block k hk) h.vrb, h.bb.trans (hb.mono (by omega)), hlt, h.vrb, h.bxw, h.mc.keep (hb.block 0 (by omega)), hpos⟩
  rw [hp]
  exact Rp.own_frame h.pr (fun k hk _ => hk.elim) (fun k hk => by have := Rp.own_base h.pr k hk; exact ho.block k this.2 (by omega))
/-- The target has been read. -/
theorem LS.target {w wx : World} {b bx : Nat} {Al : Option Addr} {cl : Nat} {lines : List ByteArray} {at_ : Nat} {vr : Value} {f : ByteArray} {r : Rule} {v : Value} {rules : List Rule} (h : LS w wx b bx Al cl lines at_ vr f r v rules) (x : ByteArray) : LS w (wx.setCell ⟨bx, 2, none⟩ (.string x)) b bx Al cl lines at_ vr f { r with target := x } v rules :=
  h.opt rfl ⟨h.xr.setTarget x, (Only.of_below bx (Below.refl _ _)).set _ _⟩
theorem optF_preds (r : Rule) (lines : List ByteArray) (at_ : Nat) : (optF r lines at_).2.2.preds = r.preds := by
  unfold optF
  dsimp only
  split
  · split <;> rfl
  · split
    · split <;> rfl
    · split
      · split <;> rfl
      · split <;> rfl
end Go.Proofs.YtnbgfpcpfknjoaaGreatDoor
