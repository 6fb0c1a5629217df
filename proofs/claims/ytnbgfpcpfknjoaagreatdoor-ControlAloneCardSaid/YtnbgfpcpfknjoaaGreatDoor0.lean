/- Foundation: imports, and small facts for all walks of this seat. -/
import Derived.Test.YtnbgfpcpfknjoaaGreatDoorProg
import Derived.WalkKit
import Derived.WalkSpells
import Derived.WalkLawsBesides
import Derived.KernelRfl
import Derived.Lib.Hide
import Derived.Deep.LoopGhost
import Derived.Deep.QuietTactic
import Derived.BigQuiet
import Derived.Deep.DeepFit
import Derived.Deep.DeepMust
import Derived.Deep.RegionWith
import Derived.Deep.DeepCutAuto
import Derived.Deep.CutBlock
import Derived.StillTailTactics
import Derived.Laws.EntriesVeiled
import Derived.Laws.Slices
import Derived.Laws.OwnMore
import Derived.Laws.MakeOwn
import Derived.Laws.BytesArg
import Derived.Deep.OwnRows
import Derived.Deep.Draws
import Derived.IntWalk
import Derived.OneCell
import Derived.Lib.AppendStr
import Derived.Lib.ConvBytes
namespace Go.Proofs.YtnbgfpcpfknjoaaGreatDoor
set_option linter.all false
open Go.RowKit

theorem ret_bool {a b : Bool} (h : a = b) : Ending.returned (.bool a) = .returned (.bool b) := by rw [h]
theorem ret_int {k : IntKind} {a b : Int} (h : a = b) : Ending.returned (.int k a) = .returned (.int k b) := by rw [h]

/-- The byte at a place, as a number. -/
def bt (s : ByteArray) (i : Nat) : Int := if h : i < s.size then ((s[i]'h).toNat : Int) else 0
theorem bt_at (s : ByteArray) (i : Nat) (h : i < s.size) : ((s[i]'h).toNat : Int) = bt s i := by simp [bt, h]
theorem bt_range (s : ByteArray) (i : Nat) : 0 ≤ bt s i ∧ bt s i ≤ 255 := by
  unfold bt
  split
  · rename_i h
    have := (s[i]'h).toNat_lt
    omega
  · omega

/-- The text's bytes. -/
def bs (s : ByteArray) : List UInt8 := s.data.toList
theorem bs_length (s : ByteArray) : (bs s).length = s.size := by unfold bs; rw [Array.length_toList]; rfl
theorem bs_get (s : ByteArray) (i : Nat) (h : i < s.size) : (bs s)[i]'(by rw [bs_length]; exact h) = s[i]'h := rfl

/-- All bytes meet p. -/
def allB (p : Int → Bool) (l : List UInt8) : Bool := l.all fun b => p b.toNat
theorem allB_snoc (p : Int → Bool) (s : ByteArray) (k : Nat) (h : k < s.size) : allB p ((bs s).take (k + 1)) = (allB p ((bs s).take k) && p (s[k]'h).toNat) := by
  rw [List.take_succ_eq_append_getElem (by rw [bs_length]; exact h)]
  simp only [allB, List.all_append, List.all_cons, List.all_nil, Bool.and_true]
  rw [bs_get s k h]
theorem allB_no (p : Int → Bool) (s : ByteArray) (k : Nat) (h : k < s.size) (hp : p (s[k]'h).toNat = false) : allB p (bs s) = false := by
  simp only [allB, List.all_eq_false]
  exact ⟨s[k]'h, by rw [← bs_get s k h]; exact List.getElem_mem _, by simp [hp]⟩
theorem allB_all (p : Int → Bool) (s : ByteArray) (k : Nat) (h : s.size ≤ k) (hp : allB p ((bs s).take k) = true) : allB p (bs s) = true := by
  rwa [List.take_of_length_le (by rw [bs_length]; exact h)] at hp
theorem nil_toList (s : ByteArray) : (s.toList = []) = (s.size = 0) := by
  rw [ByteArray.toList_eq, ← List.length_eq_zero_iff, Array.length_toList]; rfl
theorem isEmpty_toList (s : ByteArray) : s.toList.isEmpty = decide (s.size = 0) := by
  rw [Bool.eq_iff_iff, List.isEmpty_iff, nil_toList, decide_eq_true_iff]
theorem bs_extract (s : ByteArray) (a b : Nat) : bs (s.extract a b) = ((bs s).take b).drop a := by
  unfold bs
  rw [ByteArray.data_extract, Array.toList_extract]
  rw [List.extract_eq_take_drop, List.drop_take]
theorem toList_bs (s : ByteArray) : s.toList = bs s := ByteArray.toList_eq s
theorem extract_one (s : ByteArray) (h0 : 0 < s.size) (c : UInt8) : ((s.extract 0 1).toList == [c]) = decide (bt s 0 = c.toNat) := by
  have hl := bs_length s
  have hg : (bs s)[0]'(by rw [hl]; exact h0) = s[0]'h0 := bs_get s 0 h0
  rw [toList_bs, bs_extract, ← bt_at s 0 h0, ← hg]
  generalize bs s = l at *
  cases l with
  | nil => simp at hl; omega
  | cons x xs =>
    rw [Bool.eq_iff_iff]
    simp [← UInt8.toNat_inj]
    omega
theorem bel {w W : World} (h : Below w.heap.size w W) (o : Obj) : Below w.heap.size w (W.alloc o) := h.alloc h.size o
theorem belDrew {w W : World} (h : Below w.heap.size w W) : Below w.heap.size w W.drew := ⟨h.os, h.tape, h.output, h.size, h.block⟩
theorem belDrewN {w W : World} (h : Below w.heap.size w W) (n : Nat) : Below w.heap.size w (W.drewN n) := ⟨h.os, h.tape, h.output, h.size, h.block⟩
theorem belTrans {w w1 w2 : World} (h : Below w.heap.size w w1) (k : Below w1.heap.size w1 w2) : Below w.heap.size w w2 :=
  h.trans ⟨k.os, k.tape, k.output, k.size, fun i hi => k.block i (Nat.lt_of_lt_of_le hi h.size)⟩
theorem belSet {w W : World} (h : Below w.heap.size w W) {p : Addr} (hp : w.heap.size ≤ p.block) (u : Value) : Below w.heap.size w (W.setCell p u) := h.setCell hp u
theorem bcell {W w1 : World} (hb : Below W.heap.size W w1) : (∀ b o, b < W.heap.size → w1.cell? ⟨b, o, none⟩ = W.cell? ⟨b, o, none⟩) ∧ (∀ b o, b < W.heap.size → w1.frozen? ⟨b, o, none⟩ = W.frozen? ⟨b, o, none⟩) :=
  ⟨fun b o h => hb.cell (p := ⟨b, o, none⟩) h, fun b o h => hb.frozen (p := ⟨b, o, none⟩) h⟩
theorem bal {w w1 : World} {o : Obj} (hb : Below (w.alloc o).heap.size (w.alloc o) w1) : (∀ b i, b < (w.alloc o).heap.size → w1.cell? ⟨b, i, none⟩ = (w.alloc o).cell? ⟨b, i, none⟩) ∧ (∀ b i, b < (w.alloc o).heap.size → w1.frozen? ⟨b, i, none⟩ = (w.alloc o).frozen? ⟨b, i, none⟩) ∧ w.heap.size < w1.heap.size :=
  ⟨(bcell hb).1, (bcell hb).2, by have := hb.size; simp only [World.size_alloc] at this; omega⟩
theorem bstep {w w1 : World} {w0 : Nat} (hb : Below w.heap.size w w1) (h : w0 < w.heap.size) : w0 < w1.heap.size := Nat.lt_of_lt_of_le h hb.size
end Go.Proofs.YtnbgfpcpfknjoaaGreatDoor
