/- conf's reader: what may stand behind a target. -/
import Derived.Test.YtnbgfpcpfknjoaaGreatDoorD4
import Derived.Deep.RegionWith
namespace Go.Proofs.YtnbgfpcpfknjoaaGreatDoor
set_option linter.all false
open Go.RowKit

/-- Of the blocks that were there, one alone has been written. -/
structure Only (w w' : World) (g : Nat) : Prop where
  os : w'.os = w.os
  tape : w'.tape = w.tape
  output : w'.output = w.output
  size : w.heap.size ≤ w'.heap.size
  block : ∀ k, k < w.heap.size → k ≠ g → w'.heap[k]? = w.heap[k]?
theorem Only.of_below {w w' : World} (g : Nat) (h : Below w.heap.size w w') : Only w w' g := ⟨h.os, h.tape, h.output, h.size, fun k hk _ => h.block k hk⟩
theorem Only.set {w w1 : World} {g : Nat} (h : Only w w1 g) (j : Nat) (u : Value) : Only w (w1.setCell ⟨g, j, none⟩ u) g :=
  ⟨h.os, h.tape, h.output, by simp only [World.setCell, Array.size_modify]; exact h.size, fun i hi hg => (Below.heap_setCell _ _ _ _ hg).trans (h.block i hi hg)⟩
theorem Only.drewN {w w1 : World} {g : Nat} (h : Only w w1 g) (n : Nat) : Only w (w1.drewN n) g := ⟨h.os, h.tape, h.output, h.size, h.block⟩
theorem Only.drew {w w1 : World} {g : Nat} (h : Only w w1 g) : Only w w1.drew g := ⟨h.os, h.tape, h.output, h.size, h.block⟩
theorem Only.below {w w1 w2 : World} {g : Nat} (h : Only w w1 g) (k : Below w1.heap.size w1 w2) : Only w w2 g :=
  ⟨k.os.trans h.os, k.tape.trans h.tape, k.output.trans h.output, Nat.le_trans h.size k.size, fun i hi hg => (k.block i (Nat.lt_of_lt_of_le hi h.size)).trans (h.block i hi hg)⟩
theorem Only.toBelow {w w1 : World} {g B : Nat} (h : Only w w1 g) (hB : B ≤ g) (hw : B ≤ w.heap.size) : Below B w w1 :=
  ⟨h.os, h.tape, h.output, h.size, fun k hk => h.block k (by omega) (by omega)⟩
theorem XR.setTarget {w : World} {b : Nat} {r : Rule} {v : Value} (h : XR w b r v) (x : ByteArray) : XR (w.setCell ⟨b, 2, none⟩ (.string x)) b { r with target := x } v :=
  ⟨(cell_setCell_ne _ (by decide)).trans h.c0, (cell_setCell_ne _ (by decide)).trans h.c1, cell_setCell_eq _ h.c2, (cell_setCell_ne _ (by decide)).trans h.c3, (cell_setCell_ne _ (by decide)).trans h.c4, (cell_setCell_ne _ (by decide)).trans h.c5, (cell_setCell_ne _ (by decide)).trans h.c6, (cell_setCell_ne _ (by decide)).trans h.c7, (cell_setCell_ne _ (by decide)).trans h.c8, (cell_setCell_ne _ (by decide)).trans h.c9, fun j => (frozen_setCell _ _ _ _).trans (h.fz j)⟩
theorem XR.setAbortPct {w : World} {b : Nat} {r : Rule} {v : Value} (h : XR w b r v) (x : Int) : XR (w.setCell ⟨b, 3, none⟩ (.int .i64 x)) b { r with abortPct := x } v :=
  ⟨(cell_setCell_ne _ (by decide)).trans h.c0, (cell_setCell_ne _ (by decide)).trans h.c1, (cell_setCell_ne _ (by decide)).trans h.c2, cell_setCell_eq _ h.c3, (cell_setCell_ne _ (by decide)).trans h.c4, (cell_setCell_ne _ (by decide)).trans h.c5, (cell_setCell_ne _ (by decide)).trans h.c6, (cell_setCell_ne _ (by decide)).trans h.c7, (cell_setCell_ne _ (by decide)).trans h.c8, (cell_setCell_ne _ (by decide)).trans h.c9, fun j => (frozen_setCell _ _ _ _).trans (h.fz j)⟩
theorem XR.setAbortStatus {w : World} {b : Nat} {r : Rule} {v : Value} (h : XR w b r v) (x : Int) : XR (w.setCell ⟨b, 4, none⟩ (.int .i64 x)) b { r with abortStatus := x } v :=
  ⟨(cell_setCell_ne _ (by decide)).trans h.c0, (cell_setCell_ne _ (by decide)).trans h.c1, (cell_setCell_ne _ (by decide)).trans h.c2, (cell_setCell_ne _ (by decide)).trans h.c3, cell_setCell_eq _ h.c4, (cell_setCell_ne _ (by decide)).trans h.c5, (cell_setCell_ne _ (by decide)).trans h.c6, (cell_setCell_ne _ (by decide)).trans h.c7, (cell_setCell_ne _ (by decide)).trans h.c8, (cell_setCell_ne _ (by decide)).trans h.c9, fun j => (frozen_setCell _ _ _ _).trans (h.fz j)⟩
theorem XR.setDelayPct {w : World} {b : Nat} {r : Rule} {v : Value} (h : XR w b r v) (x : Int) : XR (w.setCell ⟨b, 5, none⟩ (.int .i64 x)) b { r with delayPct := x } v :=
  ⟨(cell_setCell_ne _ (by decide)).trans h.c0, (cell_setCell_ne _ (by decide)).trans h.c1, (cell_setCell_ne _ (by decide)).trans h.c2, (cell_setCell_ne _ (by decide)).trans h.c3, (cell_setCell_ne _ (by decide)).trans h.c4, cell_setCell_eq _ h.c5, (cell_setCell_ne _ (by decide)).trans h.c6, (cell_setCell_ne _ (by decide)).trans h.c7, (cell_setCell_ne _ (by decide)).trans h.c8, (cell_setCell_ne _ (by decide)).trans h.c9, fun j => (frozen_setCell _ _ _ _).trans (h.fz j)⟩
theorem XR.setDelayTicks {w : World} {b : Nat} {r : Rule} {v : Value} (h : XR w b r v) (x : Int) : XR (w.setCell ⟨b, 6, none⟩ (.int .i64 x)) b { r with delayTicks := x } v :=
  ⟨(cell_setCell_ne _ (by decide)).trans h.c0, (cell_setCell_ne _ (by decide)).trans h.c1, (cell_setCell_ne _ (by decide)).trans h.c2, (cell_setCell_ne _ (by decide)).trans h.c3, (cell_setCell_ne _ (by decide)).trans h.c4, (cell_setCell_ne _ (by decide)).trans h.c5, cell_setCell_eq _ h.c6, (cell_setCell_ne _ (by decide)).trans h.c7, (cell_setCell_ne _ (by decide)).trans h.c8, (cell_setCell_ne _ (by decide)).trans h.c9, fun j => (frozen_setCell _ _ _ _).trans (h.fz j)⟩
theorem XR.setMirrorPct {w : World} {b : Nat} {r : Rule} {v : Value} (h : XR w b r v) (x : Int) : XR (w.setCell ⟨b, 7, none⟩ (.int .i64 x)) b { r with mirrorPct := x } v :=
  ⟨(cell_setCell_ne _ (by decide)).trans h.c0, (cell_setCell_ne _ (by decide)).trans h.c1, (cell_setCell_ne _ (by decide)).trans h.c2, (cell_setCell_ne _ (by decide)).trans h.c3, (cell_setCell_ne _ (by decide)).trans h.c4, (cell_setCell_ne _ (by decide)).trans h.c5, (cell_setCell_ne _ (by decide)).trans h.c6, cell_setCell_eq _ h.c7, (cell_setCell_ne _ (by decide)).trans h.c8, (cell_setCell_ne _ (by decide)).trans h.c9, fun j => (frozen_setCell _ _ _ _).trans (h.fz j)⟩
theorem XR.setMirror {w : World} {b : Nat} {r : Rule} {v : Value} (h : XR w b r v) (x : ByteArray) : XR (w.setCell ⟨b, 8, none⟩ (.string x)) b { r with mirror := x } v :=
  ⟨(cell_setCell_ne _ (by decide)).trans h.c0, (cell_setCell_ne _ (by decide)).trans h.c1, (cell_setCell_ne _ (by decide)).trans h.c2, (cell_setCell_ne _ (by decide)).trans h.c3, (cell_setCell_ne _ (by decide)).trans h.c4, (cell_setCell_ne _ (by decide)).trans h.c5, (cell_setCell_ne _ (by decide)).trans h.c6, (cell_setCell_ne _ (by decide)).trans h.c7, cell_setCell_eq _ h.c8, (cell_setCell_ne _ (by decide)).trans h.c9, fun j => (frozen_setCell _ _ _ _).trans (h.fz j)⟩
theorem XR.setSample {w : World} {b : Nat} {r : Rule} {v : Value} (h : XR w b r v) (x : Int) : XR (w.setCell ⟨b, 9, none⟩ (.int .i64 x)) b { r with sample := x } v :=
  ⟨(cell_setCell_ne _ (by decide)).trans h.c0, (cell_setCell_ne _ (by decide)).trans h.c1, (cell_setCell_ne _ (by decide)).trans h.c2, (cell_setCell_ne _ (by decide)).trans h.c3, (cell_setCell_ne _ (by decide)).trans h.c4, (cell_setCell_ne _ (by decide)).trans h.c5, (cell_setCell_ne _ (by decide)).trans h.c6, (cell_setCell_ne _ (by decide)).trans h.c7, (cell_setCell_ne _ (by decide)).trans h.c8, cell_setCell_eq _ h.c9, fun j => (frozen_setCell _ _ _ _).trans (h.fz j)⟩
theorem XR.drewN {w : World} {b : Nat} {r : Rule} {v : Value} (h : XR w b r v) (n : Nat) : XR (w.drewN n) b r v := h.frame rfl
theorem XR.drew {w : World} {b : Nat} {r : Rule} {v : Value} (h : XR w b r v) : XR w.drew b r v := h.frame rfl
/-- What an option leaves: the rule, and nothing else, written. -/
def Opt (w w' : World) (bx : Nat) (r : Rule) (v : Value) : Prop := XR w' bx r v ∧ Only w w' bx

set_option maxRecDepth 100000 in
set_option maxHeartbeats 2000000 in
theorem opt_abort_y (b bx : Nat) (Al : Option Addr) (cl : Nat) (lines : List ByteArray) (at_ : Nat) (vr : Value) (f : ByteArray) (r : Rule) (v : Value) (w : World) (hr : Rdr w b (fun k => k < b) Al cl lines at_ vr f) (hm : MaxCell w) (hx : XR w bx r v) (hbx : b < bx) (hlt : at_ < lines.length) (hw : (wordF lines at_).1 = ⟨#[97, 98, 111, 114, 116]⟩) (x y : Int) (hp : pairF (wordF lines at_).2 = some (x, y)):
    Calls Tryz.prog 91 #[.pointer (some ⟨b, 0, none⟩), .pointer (some ⟨bx, 0, none⟩)] w fun e w' => e = .returned (.tuple #[.int .i64 1, .bool true]) ∧ Opt w w' bx { r with abortPct := x, abortStatus := y } v := by
  have HR := Lib.hid hr
  have HM := Lib.hid hm
  have HX := Lib.hid hx
  have HW := Lib.hid hw
  have hsz : Hid ((wordF lines at_).2.size ≤ 5000) := by
    unfold Hid wordF; rw [dif_pos hlt]; exact Nat.le_trans (cutS_len _).2 (hr.small at_ hlt)
  have hsc : Hid ((wordF lines at_).2.size < 4294967281) := by have := hsz.out; unfold Hid; omega
  have HP := Lib.hid hp
  clear hr hm hx hw hp
  go_enter Tryz.func91, Tryz.ntmps91
  go_wp2_with fail
  refine (word_any b _ Al cl lines at_ vr f w HR.out HM.out).mono ?_
  rintro e w1 ⟨rfl, n, rfl⟩
  rw [HW.out]
  have hx1 := HX.out.drewN n
  have HX1 := Lib.hid hx1
  clear hx1
  go_wp2_with fail
  go_region_with (go_at_call 113; go_must (refine (pair_yes _ bx 3 4 r.abortPct r.abortStatus x y _ hsc.out (HM.out.below (by repeat first | exact Below.refl _ _ | refine bel ?_ _ | refine belDrew ?_ | refine belDrewN ?_ _)) HP.out (by decide) (HX.out.drewN (n + 1)).c3 (HX.out.drewN (n + 1)).c4 ((HX.out.drewN (n + 1)).fz 3) ((HX.out.drewN (n + 1)).fz 4)).mono ?_); rintro e w2 ⟨rfl, n2, rfl⟩)
  all_goals
    go_wp2
    go_ret2
    exact ⟨rfl, (((HX.out.drewN _).setAbortPct x).setAbortStatus y).drewN _, (((Only.of_below bx (belDrewN (Below.refl _ _) _)).set _ _).set _ _).drewN _⟩

set_option maxRecDepth 100000 in
set_option maxHeartbeats 2000000 in
theorem opt_abort_n (b bx : Nat) (Al : Option Addr) (cl : Nat) (lines : List ByteArray) (at_ : Nat) (vr : Value) (f : ByteArray) (r : Rule) (v : Value) (w : World) (hr : Rdr w b (fun k => k < b) Al cl lines at_ vr f) (hm : MaxCell w) (hx : XR w bx r v) (hbx : b < bx) (hlt : at_ < lines.length) (hw : (wordF lines at_).1 = ⟨#[97, 98, 111, 114, 116]⟩) (hp : pairF (wordF lines at_).2 = none):
    Calls Tryz.prog 91 #[.pointer (some ⟨b, 0, none⟩), .pointer (some ⟨bx, 0, none⟩)] w fun e w' => e = .returned (.tuple #[.int .i64 1, .bool false]) ∧ Opt w w' bx r v := by
  have HR := Lib.hid hr
  have HM := Lib.hid hm
  have HX := Lib.hid hx
  have HW := Lib.hid hw
  have hsz : Hid ((wordF lines at_).2.size ≤ 5000) := by
    unfold Hid wordF; rw [dif_pos hlt]; exact Nat.le_trans (cutS_len _).2 (hr.small at_ hlt)
  have hsc : Hid ((wordF lines at_).2.size < 4294967281) := by have := hsz.out; unfold Hid; omega
  have HP := Lib.hid hp
  clear hr hm hx hw hp
  go_enter Tryz.func91, Tryz.ntmps91
  go_wp2_with fail
  refine (word_any b _ Al cl lines at_ vr f w HR.out HM.out).mono ?_
  rintro e w1 ⟨rfl, n, rfl⟩
  rw [HW.out]
  have hx1 := HX.out.drewN n
  have HX1 := Lib.hid hx1
  clear hx1
  go_wp2_with fail
  go_region_with (go_at_call 113; refine (pair_no _ _ _ _ hsc.out (HM.out.below (by repeat first | exact Below.refl _ _ | refine bel ?_ _ | refine belDrew ?_ | refine belDrewN ?_ _)) HP.out).mono ?_; rintro e w2 ⟨rfl, n2, rfl⟩)
  all_goals
    go_wp2
    go_ret2
    exact ⟨rfl, HX.out.drewN _, Only.of_below bx (belDrewN (Below.refl _ _) _)⟩

set_option maxRecDepth 100000 in
set_option maxHeartbeats 2000000 in
theorem opt_delay_y (b bx : Nat) (Al : Option Addr) (cl : Nat) (lines : List ByteArray) (at_ : Nat) (vr : Value) (f : ByteArray) (r : Rule) (v : Value) (w : World) (hr : Rdr w b (fun k => k < b) Al cl lines at_ vr f) (hm : MaxCell w) (hx : XR w bx r v) (hbx : b < bx) (hlt : at_ < lines.length) (hw : (wordF lines at_).1 = ⟨#[100, 101, 108, 97, 121]⟩) (x y : Int) (hp : pairF (wordF lines at_).2 = some (x, y)):
    Calls Tryz.prog 91 #[.pointer (some ⟨b, 0, none⟩), .pointer (some ⟨bx, 0, none⟩)] w fun e w' => e = .returned (.tuple #[.int .i64 2, .bool true]) ∧ Opt w w' bx { r with delayPct := x, delayTicks := y } v := by
  have HR := Lib.hid hr
  have HM := Lib.hid hm
  have HX := Lib.hid hx
  have HW := Lib.hid hw
  have hsz : Hid ((wordF lines at_).2.size ≤ 5000) := by
    unfold Hid wordF; rw [dif_pos hlt]; exact Nat.le_trans (cutS_len _).2 (hr.small at_ hlt)
  have hsc : Hid ((wordF lines at_).2.size < 4294967281) := by have := hsz.out; unfold Hid; omega
  have HP := Lib.hid hp
  clear hr hm hx hw hp
  go_enter Tryz.func91, Tryz.ntmps91
  go_wp2_with fail
  refine (word_any b _ Al cl lines at_ vr f w HR.out HM.out).mono ?_
  rintro e w1 ⟨rfl, n, rfl⟩
  rw [HW.out]
  have hx1 := HX.out.drewN n
  have HX1 := Lib.hid hx1
  clear hx1
  go_wp2_with fail
  go_region_with (go_at_call 113; go_must (refine (pair_yes _ bx 5 6 r.delayPct r.delayTicks x y _ hsc.out (HM.out.below (by repeat first | exact Below.refl _ _ | refine bel ?_ _ | refine belDrew ?_ | refine belDrewN ?_ _)) HP.out (by decide) (HX.out.drewN (n + 1)).c5 (HX.out.drewN (n + 1)).c6 ((HX.out.drewN (n + 1)).fz 5) ((HX.out.drewN (n + 1)).fz 6)).mono ?_); rintro e w2 ⟨rfl, n2, rfl⟩)
  all_goals
    go_wp2
    go_ret2
    exact ⟨rfl, (((HX.out.drewN _).setDelayPct x).setDelayTicks y).drewN _, (((Only.of_below bx (belDrewN (Below.refl _ _) _)).set _ _).set _ _).drewN _⟩

set_option maxRecDepth 100000 in
set_option maxHeartbeats 2000000 in
theorem opt_delay_n (b bx : Nat) (Al : Option Addr) (cl : Nat) (lines : List ByteArray) (at_ : Nat) (vr : Value) (f : ByteArray) (r : Rule) (v : Value) (w : World) (hr : Rdr w b (fun k => k < b) Al cl lines at_ vr f) (hm : MaxCell w) (hx : XR w bx r v) (hbx : b < bx) (hlt : at_ < lines.length) (hw : (wordF lines at_).1 = ⟨#[100, 101, 108, 97, 121]⟩) (hp : pairF (wordF lines at_).2 = none):
    Calls Tryz.prog 91 #[.pointer (some ⟨b, 0, none⟩), .pointer (some ⟨bx, 0, none⟩)] w fun e w' => e = .returned (.tuple #[.int .i64 2, .bool false]) ∧ Opt w w' bx r v := by
  have HR := Lib.hid hr
  have HM := Lib.hid hm
  have HX := Lib.hid hx
  have HW := Lib.hid hw
  have hsz : Hid ((wordF lines at_).2.size ≤ 5000) := by
    unfold Hid wordF; rw [dif_pos hlt]; exact Nat.le_trans (cutS_len _).2 (hr.small at_ hlt)
  have hsc : Hid ((wordF lines at_).2.size < 4294967281) := by have := hsz.out; unfold Hid; omega
  have HP := Lib.hid hp
  clear hr hm hx hw hp
  go_enter Tryz.func91, Tryz.ntmps91
  go_wp2_with fail
  refine (word_any b _ Al cl lines at_ vr f w HR.out HM.out).mono ?_
  rintro e w1 ⟨rfl, n, rfl⟩
  rw [HW.out]
  have hx1 := HX.out.drewN n
  have HX1 := Lib.hid hx1
  clear hx1
  go_wp2_with fail
  go_region_with (go_at_call 113; refine (pair_no _ _ _ _ hsc.out (HM.out.below (by repeat first | exact Below.refl _ _ | refine bel ?_ _ | refine belDrew ?_ | refine belDrewN ?_ _)) HP.out).mono ?_; rintro e w2 ⟨rfl, n2, rfl⟩)
  all_goals
    go_wp2
    go_ret2
    exact ⟨rfl, HX.out.drewN _, Only.of_below bx (belDrewN (Below.refl _ _) _)⟩

set_option maxRecDepth 100000 in
set_option maxHeartbeats 2000000 in
theorem opt_mirror_y (b bx : Nat) (Al : Option Addr) (cl : Nat) (lines : List ByteArray) (at_ : Nat) (vr : Value) (f : ByteArray) (r : Rule) (v : Value) (w : World) (hr : Rdr w b (fun k => k < b) Al cl lines at_ vr f) (hm : MaxCell w) (hx : XR w bx r v) (hbx : b < bx) (hlt : at_ < lines.length) (hw : (wordF lines at_).1 = ⟨#[109, 105, 114, 114, 111, 114]⟩) (hp : (twoF (wordF lines at_).2).2.2 = true):
    Calls Tryz.prog 91 #[.pointer (some ⟨b, 0, none⟩), .pointer (some ⟨bx, 0, none⟩)] w fun e w' => e = .returned (.tuple #[.int .i64 3, .bool true]) ∧ Opt w w' bx { r with mirrorPct := (twoF (wordF lines at_).2).1, mirror := (twoF (wordF lines at_).2).2.1 } v := by
  have HR := Lib.hid hr
  have HM := Lib.hid hm
  have HX := Lib.hid hx
  have HW := Lib.hid hw
  have hsz : Hid ((wordF lines at_).2.size ≤ 5000) := by
    unfold Hid wordF; rw [dif_pos hlt]; exact Nat.le_trans (cutS_len _).2 (hr.small at_ hlt)
  have hsc : Hid ((wordF lines at_).2.size < 4294967281) := by have := hsz.out; unfold Hid; omega
  have HP := Lib.hid hp
  clear hr hm hx hw hp
  go_enter Tryz.func91, Tryz.ntmps91
  go_wp2_with fail
  refine (word_any b _ Al cl lines at_ vr f w HR.out HM.out).mono ?_
  rintro e w1 ⟨rfl, n, rfl⟩
  rw [HW.out]
  have hx1 := HX.out.drewN n
  go_wp2_with fail
  refine (two_any _ _ hsc.out (HM.out.drewN n)).mono ?_
  rintro e w2 ⟨rfl, n2, rfl⟩
  rw [HP.out]
  have hx2 := hx1.drewN n2
  have HX2 := Lib.hid hx2
  have c7 := HX.out.c7
  have c8 := HX.out.c8
  have f7 := HX.out.fz 7
  have f8 := HX.out.fz 8
  clear hx1 hx2
  go_wp2
  go_ret2
  exact ⟨rfl, ((HX.out.drewN _).setMirrorPct _).setMirror _, ((Only.of_below bx (belDrewN (Below.refl _ _) _)).set _ _).set _ _⟩

set_option maxRecDepth 100000 in
set_option maxHeartbeats 2000000 in
theorem opt_mirror_n (b bx : Nat) (Al : Option Addr) (cl : Nat) (lines : List ByteArray) (at_ : Nat) (vr : Value) (f : ByteArray) (r : Rule) (v : Value) (w : World) (hr : Rdr w b (fun k => k < b) Al cl lines at_ vr f) (hm : MaxCell w) (hx : XR w bx r v) (hbx : b < bx) (hlt : at_ < lines.length) (hw : (wordF lines at_).1 = ⟨#[109, 105, 114, 114, 111, 114]⟩) (hp : (twoF (wordF lines at_).2).2.2 = false):
    Calls Tryz.prog 91 #[.pointer (some ⟨b, 0, none⟩), .pointer (some ⟨bx, 0, none⟩)] w fun e w' => e = .returned (.tuple #[.int .i64 3, .bool false]) ∧ Opt w w' bx r v := by
  have HR := Lib.hid hr
  have HM := Lib.hid hm
  have HX := Lib.hid hx
  have HW := Lib.hid hw
  have hsz : Hid ((wordF lines at_).2.size ≤ 5000) := by
    unfold Hid wordF; rw [dif_pos hlt]; exact Nat.le_trans (cutS_len _).2 (hr.small at_ hlt)
  have hsc : Hid ((wordF lines at_).2.size < 4294967281) := by have := hsz.out; unfold Hid; omega
  have HP := Lib.hid hp
  clear hr hm hx hw hp
  go_enter Tryz.func91, Tryz.ntmps91
  go_wp2_with fail
  refine (word_any b _ Al cl lines at_ vr f w HR.out HM.out).mono ?_
  rintro e w1 ⟨rfl, n, rfl⟩
  rw [HW.out]
  have hx1 := HX.out.drewN n
  go_wp2_with fail
  refine (two_any _ _ hsc.out (HM.out.drewN n)).mono ?_
  rintro e w2 ⟨rfl, n2, rfl⟩
  rw [HP.out]
  have hx2 := hx1.drewN n2
  have HX2 := Lib.hid hx2
  have c7 := HX.out.c7
  have c8 := HX.out.c8
  have f7 := HX.out.fz 7
  have f8 := HX.out.fz 8
  clear hx1 hx2
  go_wp2
  go_ret2
  exact ⟨rfl, HX.out.drewN _, Only.of_below bx (belDrewN (Below.refl _ _) _)⟩

set_option maxRecDepth 100000 in
set_option maxHeartbeats 2000000 in
theorem opt_sample (b bx : Nat) (Al : Option Addr) (cl : Nat) (lines : List ByteArray) (at_ : Nat) (vr : Value) (f : ByteArray) (r : Rule) (v : Value) (w : World) (hr : Rdr w b (fun k => k < b) Al cl lines at_ vr f) (hm : MaxCell w) (hx : XR w bx r v) (hbx : b < bx) (hlt : at_ < lines.length) (hw : (wordF lines at_).1 = ⟨#[115, 97, 109, 112, 108, 101]⟩) :
    Calls Tryz.prog 91 #[.pointer (some ⟨b, 0, none⟩), .pointer (some ⟨bx, 0, none⟩)] w fun e w' => e = .returned (.tuple #[.int .i64 4, .bool (numF (wordF lines at_).2).2]) ∧ Opt w w' bx { r with sample := (numF (wordF lines at_).2).1 } v := by
  have HR := Lib.hid hr
  have HM := Lib.hid hm
  have HX := Lib.hid hx
  have HW := Lib.hid hw
  have hsz : Hid ((wordF lines at_).2.size ≤ 5000) := by
    unfold Hid wordF; rw [dif_pos hlt]; exact Nat.le_trans (cutS_len _).2 (hr.small at_ hlt)
  have hsc : Hid ((wordF lines at_).2.size < 4294967281) := by have := hsz.out; unfold Hid; omega
  clear hr hm hx hw
  go_enter Tryz.func91, Tryz.ntmps91
  go_wp2_with fail
  refine (word_any b _ Al cl lines at_ vr f w HR.out HM.out).mono ?_
  rintro e w1 ⟨rfl, n, rfl⟩
  rw [HW.out]
  have hx1 := HX.out.drewN n
  have hsm : Hid ((wordF lines at_).2.size ≤ maxLen) := by have := hsz.out; unfold Hid maxLen; omega
  go_wp2_with fail
  refine (number_any _ _ hsm.out).mono ?_
  rintro e w2 ⟨rfl, rfl⟩
  have HX2 := Lib.hid hx1
  have c9 := HX.out.c9
  have f9 := HX.out.fz 9
  clear hx1
  go_wp2
  go_ret2
  exact ⟨rfl, HX2.out.setSample _, (Only.of_below bx (belDrewN (Below.refl _ _) _)).set _ _⟩

set_option maxRecDepth 100000 in
set_option maxHeartbeats 2000000 in
theorem opt_none (b bx : Nat) (Al : Option Addr) (cl : Nat) (lines : List ByteArray) (at_ : Nat) (vr : Value) (f : ByteArray) (r : Rule) (v : Value) (w : World) (hr : Rdr w b (fun k => k < b) Al cl lines at_ vr f) (hm : MaxCell w) (hx : XR w bx r v) (hbx : b < bx) (hw : ∀ u ∈ [([97, 98, 111, 114, 116] : List UInt8), ([100, 101, 108, 97, 121] : List UInt8), ([109, 105, 114, 114, 111, 114] : List UInt8), ([115, 97, 109, 112, 108, 101] : List UInt8)], ((wordF lines at_).1.toList == u) = false) :
    Calls Tryz.prog 91 #[.pointer (some ⟨b, 0, none⟩), .pointer (some ⟨bx, 0, none⟩)] w fun e w' => e = .returned (.tuple #[.int .i64 0, .bool false]) ∧ Opt w w' bx r v := by
  have HR := Lib.hid hr
  have HM := Lib.hid hm
  have HX := Lib.hid hx
  have z0 := hw [97, 98, 111, 114, 116] (by simp)
  have z1 := hw [100, 101, 108, 97, 121] (by simp)
  have z2 := hw [109, 105, 114, 114, 111, 114] (by simp)
  have z3 := hw [115, 97, 109, 112, 108, 101] (by simp)
  clear hr hm hx hw
  go_enter Tryz.func91, Tryz.ntmps91
  go_wp2_with fail
  refine (word_any b _ Al cl lines at_ vr f w HR.out HM.out).mono ?_
  rintro e w1 ⟨rfl, n, rfl⟩
  have hx1 := HX.out.drewN n
  have HX1 := Lib.hid hx1
  clear hx1
  go_wp2
  go_ret2
  exact ⟨rfl, HX1.out, Only.of_below bx (belDrewN (Below.refl _ _) _)⟩
end Go.Proofs.YtnbgfpcpfknjoaaGreatDoor
