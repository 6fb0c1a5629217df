/- control: a new plane; fixed calls. -/
import Derived.Test.YtnbgfpcpfknjoaaGreatDoorG6
namespace Go.Proofs.YtnbgfpcpfknjoaaGreatDoor
set_option linter.all false
open Go.RowKit

theorem MaxCell.pos {w : World} (h : MaxCell w) : 0 < w.heap.size := by
  obtain ⟨m, hm⟩ := h
  exact World.block_lt_of_cell? w _ hm
theorem Touch.below {w w' : World} {b : Nat} {vt vt' : Value} (h : Touch w w' b vt vt') {B : Nat} (hb : B ≤ b) (hv : ∀ g, vt.ownBlock = some g → B ≤ g) (hB : B ≤ w.heap.size) : Below B w w' :=
  ⟨h.os, h.tape, h.output, h.size, fun k hk => h.block k (by omega) (by omega) fun e => by have := hv k e; omega⟩
theorem Touch.row {w w' : World} {b : Nat} {vt vt' : Value} (h : Touch w w' b vt vt') {B : Nat} (hv : ∀ g, vt.ownBlock = some g → B ≤ g) (hB : B ≤ w.heap.size) : ∀ g, vt'.ownBlock = some g → B ≤ g := by
  intro g e
  rcases (h.fresh g e).2 with h1 | h1
  · exact hv g h1
  · omega
theorem Touch.max {w w' : World} {S : Nat → Prop} {b : Nat} {names : List ByteArray} {vt vt' : Value} {tabs : List Tab} {nr : Nat} (h : Touch w w' b vt vt') (hp : Plane w S b names vt tabs nr) (hm : MaxCell w) : MaxCell w' :=
  hm.keep (h.block 0 hm.pos (by have := hp.pos; omega) fun e => by have := (hp.ng 0 e).2.2; omega)

set_option maxHeartbeats 1000000 in
theorem new_any (names : List ByteArray) (S : Nat → Prop) (A : Option Addr) (c : Nat) (w : World) (h : strR.sl w S (.slice A names.length c) names) (hm : MaxCell w) (HB : Cap (names.length * 16)) :
    Calls Tryz.prog 8 #[.slice A names.length c] w fun e w' => ∃ b, e = .returned (.pointer (some ⟨b, 0, none⟩)) ∧ Plane w' (fun k => w.heap.size ≤ k ∧ k < b) b names (.slice none 0 0) [] 0 ∧ Below w.heap.size w w' ∧ w.heap.size ≤ b ∧ w'.heap.size = b + 1 := by
  have HH := Lib.hid h
  have HM := Lib.hid hm
  clear h hm
  go_enter Tryz.func8, Tryz.ntmps8
  go_wp2_with fail
  refine (cloneStr_any names S A c w HH.out HB).mono ?_
  rintro e w1 ⟨⟨v, rfl, ho⟩, hb⟩
  obtain ⟨A1, c1, rfl, -, -⟩ := Rp.own_slice ho
  have HO := Lib.hid ho
  have HBB := Lib.hid hb
  clear ho hb
  go_wp2
  go_ret
  have hb := HBB.out
  have hsz := hb.size
  have hpos := HM.out.pos
  have hc : ∀ j, (w1.alloc (.cells #[.slice A1 names.length c1, .slice none 0 0, .int .i64 0, .int .i64 0] 56)).cell? ⟨w1.heap.size, j, none⟩ = #[Value.slice A1 names.length c1, .slice none 0 0, .int .i64 0, .int .i64 0][j]? := fun j => by rw [World.cell?_alloc_at _ _ _ _ rfl]
  refine ⟨w1.heap.size, rfl, ⟨⟨A1, c1, (hc 0).trans rfl, ?_⟩, (hc 1).trans rfl, ⟨[], World.ownsRow_nil _ _ _ _, fun i x hx => by simp at hx⟩, (hc 2).trans rfl, (hc 3).trans rfl, fun j => World.frozen?_alloc_at _ _ _ _ rfl, by omega, fun g e => by simp [Value.ownBlock] at e, by simp, by omega, by omega⟩, belTrans hb (bel (Below.refl _ _) _), hsz, by simp⟩
  obtain ⟨inner, ho, hr⟩ := HO.out
  have h1 : strR.own w1 (fun _ => False) w.heap.size 9 (.slice A1 names.length c1) names := ⟨inner, ho, hr⟩
  exact Rp.sl_alloc (Rp.own_sl h1 (fun k hk _ => hk.elim) (fun k hk hl => ⟨hk, hl⟩)) _

set_option maxRecDepth 100000 in
set_option maxHeartbeats 2000000 in
theorem ctlNothing_any (w : World) :
    Calls Tryz.prog 23 #[] w fun e w' => e = .returned (.bool true) ∧ Below w.heap.size w w' := by
  go_enter Tryz.func23, Tryz.ntmps23
  go_wp2_with fail
  refine (publish_nil _ _).mono ?_
  rintro e w1 ⟨rfl, rfl⟩
  go_wp2_with fail
  refine (at_nil _ _).mono ?_
  rintro e w2 ⟨rfl, hb⟩
  have HB := Lib.hid hb
  clear hb
  go_wp2_with fail
  refine (tabSame_any ⟨0, [], ⟨#[]⟩⟩ ⟨0, [], ⟨#[]⟩⟩ (fun _ => False) (fun _ => False) none none 0 0 _ (Rp.sl_nil _ _ _) (Rp.sl_nil _ _ _)).mono ?_
  rintro e w3 ⟨rfl, hb3⟩
  have HB3 : Hid (Below w.heap.size w w3) := belTrans HB.out (belTrans (bel (Below.refl _ _) _) hb3)
  clear hb3
  rw [decide_eq_true rfl]
  go_wp2_with (first | (go_at_call 13; refine (versions_nil _).mono ?_; rintro e w' ⟨rfl, rfl⟩) | (go_at_call 14; refine (refused_nil _).mono ?_; rintro e w' ⟨rfl, rfl⟩))
  go_ret
  exact ⟨rfl, HB3.out⟩

def kA : ByteArray := ⟨#[97]⟩
def kT1 : ByteArray := ⟨#[114, 117, 108, 101, 32, 49, 10, 116, 111, 32, 97, 10, 101, 110, 100, 10]⟩
def kT2 : ByteArray := ⟨#[114, 117, 108, 101, 32, 49, 10, 116, 111, 32, 98, 10, 101, 110, 100, 10]⟩
def kT3 : ByteArray := ⟨#[120]⟩
def kTab : Tab := ⟨1, [⟨1, [], kA, 0, 0, 0, 0, 0, ⟨#[]⟩, 0⟩], ⟨#[]⟩⟩
theorem known1 : pubF [kA] 0 kT1 = (0, some kTab) := by decide +kernel
theorem known2 : pubF [kA] 1 kT2 = (7, none) := by decide +kernel
theorem known3 : pubF [kA] 1 kT3 = (3, none) := by decide +kernel
end Go.Proofs.YtnbgfpcpfknjoaaGreatDoor
