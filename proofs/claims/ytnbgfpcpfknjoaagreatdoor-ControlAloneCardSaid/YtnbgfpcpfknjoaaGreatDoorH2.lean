/- control's fixed calls. -/
import Derived.Test.YtnbgfpcpfknjoaaGreatDoorH1
namespace Go.Proofs.YtnbgfpcpfknjoaaGreatDoor
set_option linter.all false
open Go.RowKit

/-- A plane of a call's own, made behind block B of w0. -/
structure PS (w0 w : World) (S : Nat → Prop) (b : Nat) (names : List ByteArray) (vt : Value) (tabs : List Tab) (nr : Nat) : Prop where
  plane : Plane w S b names vt tabs nr
  below : Below w0.heap.size w0 w
  base : w0.heap.size ≤ b
  row : ∀ g, vt.ownBlock = some g → w0.heap.size ≤ g
  mc : MaxCell w
theorem PS.later {w0 w w' : World} {S : Nat → Prop} {b : Nat} {names : List ByteArray} {vt : Value} {tabs : List Tab} {nr : Nat} (h : PS w0 w S b names vt tabs nr) (hb : Below w.heap.size w w') : PS w0 w' S b names vt tabs nr :=
  ⟨h.plane.below hb, h.below.trans (hb.mono h.below.size), h.base, h.row, h.mc.below hb⟩
theorem PS.none {w0 w w' : World} {S : Nat → Prop} {b : Nat} {names : List ByteArray} {vt : Value} {tabs : List Tab} {nr : Nat} {x : Int} {e : Ending} (h : PS w0 w S b names vt tabs nr) (hp : PubPost w S b names vt tabs nr (x, none) e w') :
    e = .returned (.tuple #[.int .i64 0, .int .i64 x]) ∧ ∃ vt', PS w0 w' (fun k => (S k ∧ k < w.heap.size) ∨ (w.heap.size ≤ k ∧ k < w'.heap.size ∧ vt'.ownBlock ≠ some k)) b names vt' tabs (nr + 1) ∧ Touch w w' b vt vt' := by
  obtain ⟨vt', ht, he, hq⟩ := hp
  exact ⟨he, vt', ⟨hq, h.below.trans (ht.below h.base h.row h.below.size), h.base, ht.row h.row h.below.size, ht.max h.plane h.mc⟩, ht⟩
theorem PS.some {w0 w w' : World} {S : Nat → Prop} {b : Nat} {names : List ByteArray} {vt : Value} {tabs : List Tab} {nr : Nat} {x : Int} {t : Tab} {e : Ending} (h : PS w0 w S b names vt tabs nr) (hp : PubPost w S b names vt tabs nr (x, Option.some t) e w') :
    e = .returned (.tuple #[.int .i64 ((tabs.length + 1 : Nat) : Int), .int .i64 0]) ∧ ∃ vt', PS w0 w' (fun k => (S k ∧ k < w.heap.size) ∨ (w.heap.size ≤ k ∧ k < w'.heap.size ∧ vt'.ownBlock ≠ Option.some k)) b names vt' (tabs ++ [t]) nr ∧ Touch w w' b vt vt' := by
  obtain ⟨vt', ht, he, hq⟩ := hp
  exact ⟨he, vt', ⟨hq, h.below.trans (ht.below h.base h.row h.below.size), h.base, ht.row h.row h.below.size, ht.max h.plane h.mc⟩, ht⟩

theorem kTab_cap : RulesCap kTab.rules := ⟨by decide, ⟨by decide⟩, fun i hi => ⟨by
  have : i = 0 := by have : kTab.rules.length = 1 := rfl; omega
  subst this
  show (0 : Nat) * 40 ≤ 140737488355328
  omega⟩⟩
theorem one_row (w : World) (x : ByteArray) (hx : x.size ≤ maxLen) (t : Nat) : strR.sl (w.alloc (.cells #[.string x] t)) (fun _ => True) (.slice (Option.some ⟨w.heap.size, 0, none⟩) [x].length 1) [x] := by
  refine ⟨_, 1, rfl, Nat.le_refl _, by unfold maxLen; omega, fun _ => ⟨w.heap.size, 0, rfl, trivial, by simp, fun i y hy => ?_⟩⟩
  rcases i with _ | i
  · have : x = y := by simpa using hy
    subst this
    refine ⟨[.string x], ⟨rfl, hx⟩, fun j u hu => ?_⟩
    rcases j with _ | j
    · rw [World.cell?_alloc_at _ _ _ _ rfl]; simpa using hu
    · simp at hu
  · simp at hy

set_option maxRecDepth 100000 in
set_option maxHeartbeats 4000000 in
theorem ctlKnown_any (w : World) (hm : MaxCell w) :
    Calls Tryz.prog 7 #[] w fun e w' => e = .returned (.bool true) ∧ Below w.heap.size w w' := by
  have HM := Lib.hid hm
  clear hm
  go_enter Tryz.func7, Tryz.ntmps7
  go_wp2_with fail
  refine (new_any [kA] _ _ 1 _ (one_row w kA (by decide) 9) (HM.out.below (bel (Below.refl _ _) _)) ⟨by decide⟩).mono ?_
  rintro e w1 ⟨b, rfl, hp, hb, hbb, hz⟩
  have hps : PS w w1 _ b [kA] (.slice none 0 0) [] 0 := ⟨hp, belTrans (bel (Below.refl _ _) _) hb, by simp at hbb; omega, fun g e => by simp [Value.ownBlock] at e, HM.out.below (belTrans (bel (Below.refl _ _) _) hb)⟩
  have HPS := Lib.hid hps
  clear hp hb hbb hz hps
  go_wp2_with fail
  refine (publish_any _ b [kA] _ [] 0 kT1 w1 HPS.out.plane HPS.out.mc (by decide) (by decide)).mono ?_
  intro e w2 hq
  rw [show pubF [kA] ([] : List Tab).length kT1 = (0, Option.some kTab) from known1] at hq
  obtain ⟨rfl, vt2, hp2, -⟩ := HPS.out.some hq
  have HP2 := Lib.hid hp2
  clear hq hp2
  go_wp2_with fail
  refine (publish_any _ b [kA] _ [kTab] 0 kT2 w2 HP2.out.plane HP2.out.mc (by decide) (by decide)).mono ?_
  intro e w3 hq
  rw [show pubF [kA] ([kTab] : List Tab).length kT2 = (7, Option.none) from known2] at hq
  obtain ⟨rfl, vt3, hp3, -⟩ := HP2.out.none hq
  have HP3 := Lib.hid hp3
  clear hq hp3
  go_wp2_with fail
  refine (publish_any _ b [kA] _ [kTab] 1 kT3 w3 HP3.out.plane HP3.out.mc (by decide) (by decide)).mono ?_
  intro e w4 hq
  rw [show pubF [kA] ([kTab] : List Tab).length kT3 = (3, Option.none) from known3] at hq
  obtain ⟨rfl, vt4, hp4, -⟩ := HP3.out.none hq
  have HP4 := Lib.hid hp4
  clear hq hp4
  go_wp2_with fail
  refine (at_in _ b [kA] _ [kTab] 2 0 1 w4 HP4.out.plane (by decide) (by decide) kTab_cap).mono ?_
  rintro e w5 ⟨vr, rfl, ⟨hr, -, -⟩, hb5⟩
  obtain ⟨A5, c5, rfl, -, -, -⟩ := hr
  have HP5 := Lib.hid (HP4.out.later hb5)
  clear hb5
  go_wp2_with fail
  have HP6 := Lib.hid (HP5.out.later (bel (Below.refl _ _) (.cells #[.int .i64 1, .slice A5 1 c5, .string ⟨#[]⟩] 32)))
  refine (at_out _ b [kA] _ [kTab] 2 2 _ HP6.out.plane (.inr (by decide))).mono ?_
  rintro e w7 ⟨rfl, hb7⟩
  have HP7 := Lib.hid (HP6.out.later hb7)
  have hlt7 : w5.heap.size < w7.heap.size := by have := hb7.size; simp at this; omega
  have q0 : w7.cell? ⟨w5.heap.size, 0, none⟩ = Option.some (.int .i64 1) := (hb7.cell (p := ⟨w5.heap.size, 0, none⟩) (by simp)).trans (by go_simp)
  have q1 : w7.cell? ⟨w5.heap.size, 1, none⟩ = Option.some (.slice A5 1 c5) := (hb7.cell (p := ⟨w5.heap.size, 1, none⟩) (by simp)).trans (by go_simp)
  clear hb7
  have HP8 := Lib.hid (HP7.out.later (bel (Below.refl _ _) (.cells #[.int .i64 0, .slice none 0 0, .string ⟨#[]⟩] 32)))
  have v2 := HP8.out.plane.c2
  have v3 := HP8.out.plane.c3
  go_wp2_with (first | (go_at_call 13; refine (versions_any b _ _ v2).mono ?_; rintro e w' ⟨rfl, rfl⟩) | (go_at_call 14; refine (refused_any b _ _ v3).mono ?_; rintro e w' ⟨rfl, rfl⟩) | (go_at_call 23; refine (ctlNothing_any _).mono ?_; rintro e w9 ⟨rfl, hb9⟩))
  go_ret
  exact ⟨rfl, belTrans HP8.out.below hb9⟩
end Go.Proofs.YtnbgfpcpfknjoaaGreatDoor
