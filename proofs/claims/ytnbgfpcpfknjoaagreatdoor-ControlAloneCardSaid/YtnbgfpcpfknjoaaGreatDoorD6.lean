/- conf's reader: the kind head, and none. -/
import Derived.Test.YtnbgfpcpfknjoaaGreatDoorD4
namespace Go.Proofs.YtnbgfpcpfknjoaaGreatDoor
set_option linter.all false
open Go.RowKit

set_option maxRecDepth 100000 in
set_option maxHeartbeats 2000000 in
theorem pred_y5 (b bx : Nat) (Al : Option Addr) (cl : Nat) (lines : List ByteArray) (at_ : Nat) (vr : Value) (f : ByteArray) (r : Rule) (v : Value) (w : World) (hr : Rdr w b (fun k => k < b) Al cl lines at_ vr f) (hm : MaxCell w) (hx : XR w bx r v) (ho : PR w bx v r.preds) (hbx : b < bx) (hfew : r.preds.length ≤ 5000) (hlt : at_ < lines.length) (hw : (wordF lines at_).1 = ⟨#[104, 101, 97, 100]⟩) (hs : (cutS (wordF lines at_).2).2.2 = true) :
    Calls Tryz.prog 89 #[.pointer (some ⟨b, 0, none⟩), .pointer (some ⟨bx, 0, none⟩)] w fun e w' => e = .returned (.bool true) ∧ NewPred bx r ⟨5, (cutS (wordF lines at_).2).1, (cutS (wordF lines at_).2).2.1⟩ w w' := by
  have HR := Lib.hid hr
  have HM := Lib.hid hm
  have HX := Lib.hid hx
  have HO := Lib.hid ho
  have HS := Lib.hid hs
  have HW := Lib.hid hw
  have hsz : Hid ((wordF lines at_).2.size ≤ 5000) := by
    unfold Hid wordF; rw [dif_pos hlt]; exact Nat.le_trans (cutS_len _).2 (hr.small at_ hlt)
  clear hr hm hx ho hs hw
  have i0 := words_at0
  have i1 := words_at1
  have i2 := words_at2
  have i3 := words_at3
  have i4 := words_at4
  have i5 := words_at5
  go_enter Tryz.func89, Tryz.ntmps89
  go_wp2_with fail
  refine (word_any b _ Al cl lines at_ vr f w HR.out HM.out).mono ?_
  rintro e w1 ⟨rfl, n, rfl⟩
  rw [HW.out]
  go_wp2_with fail
  refine (words_any _).mono ?_
  rintro e w1 ⟨rfl, hb⟩
  go_wp2_with fail
  refine wp_loop_rounds 6 ?_
  rw [rounds_succ]
  go_wp2_with fail
  rw [rounds_succ]
  go_wp2_with fail
  rw [rounds_succ]
  go_wp2_with fail
  rw [rounds_succ]
  go_wp2_with fail
  rw [rounds_succ]
  go_wp2_with fail
  rw [rounds_succ]
  go_wp2_with fail
  have hbw : Below w.heap.size w w1 := belTrans (belDrewN (Below.refl _ _) n) hb
  have hsc : Hid ((wordF lines at_).2.size < 4294967281) := by have := hsz.out; unfold Hid; omega
  refine (cut_any _ _ hsc.out ((HM.out.below hbw).below (by repeat first | exact Below.refl _ _ | refine bel ?_ _ | refine belDrew ?_ | refine belDrewN ?_ _ | refine belSet ?_ (by simp) _))).mono ?_
  rintro e w2 ⟨rfl, n2, rfl⟩
  rw [HS.out]
  obtain ⟨A0, c0, rfl, -, -⟩ := Rp.own_slice HO.out
  obtain ⟨inner, hown, hrel⟩ := HO.out
  have hbxl : bx < w.heap.size := HX.out.lt
  have hbx1 : bx < w1.heap.size := Nat.lt_of_lt_of_le hbxl hbw.size
  have x1 : w1.cell? ⟨bx, 1, none⟩ = some (.slice A0 r.preds.length c0) := (hbw.cell (p := ⟨bx, 1, none⟩) hbxl).trans HX.out.c1
  have f1 : w1.frozen? ⟨bx, 1, none⟩ = false := (hbw.frozen (p := ⟨bx, 1, none⟩) hbxl).trans (HX.out.fz 1)
  obtain ⟨i0', hi0', hz0, hz1, hz2⟩ := info_parts3 infoPred
  have HOWN := Lib.hid hown
  have HREL := Lib.hid hrel
  clear hown hrel
  have HOWN1 := Lib.hid (ownsRow_below HOWN.out hbw)
  have HLEN : Hid (r.preds.length + 1 ≤ maxLen ∧ (r.preds.length + 1) * 40 ≤ 140737488355328) := ⟨by unfold maxLen; omega, by omega⟩
  have hne : some bx ≠ (Value.slice A0 r.preds.length c0).ownBlock := fun e => by have := (HOWN.out.lt bx e.symm).1; omega
  have hbase := (show bx + 1 ≤ w1.heap.size from hbx1)
  go_wp2_with fail
  go_region_law (refine step_append_lies _ rfl (.tmp 63) (.tmp 65) 63 rfl (bx + 1) 68 i0' _ 3 40 Tryz.underlying63 hi0' hz0 hz1 hz2 rfl (by decide) (.slice A0 r.preds.length c0) r.preds.length inner (by simp [Act.eval, Act.put]) (by exact ownsRow_below HOWN1.out (by repeat first | exact Below.refl _ _ | refine bel ?_ _ | refine belDrew ?_ | refine belDrewN ?_ _ | refine belSet ?_ (by simp) _)) ⟨w1.heap.size + 1, 0, none⟩ 1 1 [.int .i64 5, .string (cutS (wordF lines at_).2).1, .string (cutS (wordF lines at_).2).2.1] (by simp [Act.eval, Act.put]) rfl (by exact World.news_of_block (cs := #[.int .i64 5, .string (cutS (wordF lines at_).2).1, .string (cutS (wordF lines at_).2).2.1]) (t := 68) (fr := (0, 0)) (heap_at _ _ _ (by simp))) (by simp [Value.oneCell']) (by decide) HLEN.out.1 HLEN.out.2 (by simp; omega) (w1.heap.size + 2) (by simp) ?_; intro g cap w3 hown3 hg hat hlt3; have s1 := (hg.cell_far ⟨bx, 1, none⟩ (by simp; omega) hne).trans ((Below.cell (w := w1) (B := w1.heap.size) (by repeat first | exact Below.refl _ _ | refine bel ?_ _ | refine belDrew ?_ | refine belDrewN ?_ _ | refine belSet ?_ (by simp) _) hbx1).trans x1); have s2 := (hg.frozen_far ⟨bx, 1, none⟩ (by simp; omega) hne).trans ((Below.frozen (w := w1) (B := w1.heap.size) (by repeat first | exact Below.refl _ _ | refine bel ?_ _ | refine belDrew ?_ | refine belDrewN ?_ _ | refine belSet ?_ (by simp) _) hbx1).trans f1))
  all_goals
    have HG := Lib.hid hg
    have HO3 := Lib.hid hown3
    clear hg hown3 hat hlt3
    go_wp2
    go_ret
    exact ⟨rfl, newPred_fin (p := ⟨5, (cutS (wordF lines at_).2).1, (cutS (wordF lines at_).2).2.1⟩) HX.out (belTrans hbw (by repeat first | exact Below.refl _ _ | refine bel ?_ _ | refine belDrew ?_ | refine belDrewN ?_ _ | refine belSet ?_ (by simp) _)) HOWN.out HREL.out (newOk _ _ _ (by decide) (Nat.le_trans (cutS_len _).1 hsz.out) (Nat.le_trans (cutS_len _).2 hsz.out)) HG.out HO3.out⟩

set_option maxRecDepth 100000 in
set_option maxHeartbeats 2000000 in
theorem pred_n5 (b bx : Nat) (Al : Option Addr) (cl : Nat) (lines : List ByteArray) (at_ : Nat) (vr : Value) (f : ByteArray) (r : Rule) (v : Value) (w : World) (hr : Rdr w b (fun k => k < b) Al cl lines at_ vr f) (hm : MaxCell w) (hx : XR w bx r v) (ho : PR w bx v r.preds) (hbx : b < bx) (hfew : r.preds.length ≤ 5000) (hlt : at_ < lines.length) (hw : (wordF lines at_).1 = ⟨#[104, 101, 97, 100]⟩) (hs : (cutS (wordF lines at_).2).2.2 = false) :
    Calls Tryz.prog 89 #[.pointer (some ⟨b, 0, none⟩), .pointer (some ⟨bx, 0, none⟩)] w fun e w' => e = .returned (.bool false) ∧ Below w.heap.size w w' := by
  have HR := Lib.hid hr
  have HM := Lib.hid hm
  have HX := Lib.hid hx
  have HO := Lib.hid ho
  have HS := Lib.hid hs
  have HW := Lib.hid hw
  have hsz : Hid ((wordF lines at_).2.size ≤ 5000) := by
    unfold Hid wordF; rw [dif_pos hlt]; exact Nat.le_trans (cutS_len _).2 (hr.small at_ hlt)
  clear hr hm hx ho hs hw
  have i0 := words_at0
  have i1 := words_at1
  have i2 := words_at2
  have i3 := words_at3
  have i4 := words_at4
  have i5 := words_at5
  go_enter Tryz.func89, Tryz.ntmps89
  go_wp2_with fail
  refine (word_any b _ Al cl lines at_ vr f w HR.out HM.out).mono ?_
  rintro e w1 ⟨rfl, n, rfl⟩
  rw [HW.out]
  go_wp2_with fail
  refine (words_any _).mono ?_
  rintro e w1 ⟨rfl, hb⟩
  go_wp2_with fail
  refine wp_loop_rounds 6 ?_
  rw [rounds_succ]
  go_wp2_with fail
  rw [rounds_succ]
  go_wp2_with fail
  rw [rounds_succ]
  go_wp2_with fail
  rw [rounds_succ]
  go_wp2_with fail
  rw [rounds_succ]
  go_wp2_with fail
  rw [rounds_succ]
  go_wp2_with fail
  have hbw : Below w.heap.size w w1 := belTrans (belDrewN (Below.refl _ _) n) hb
  have hsc : Hid ((wordF lines at_).2.size < 4294967281) := by have := hsz.out; unfold Hid; omega
  refine (cut_any _ _ hsc.out ((HM.out.below hbw).below (by repeat first | exact Below.refl _ _ | refine bel ?_ _ | refine belDrew ?_ | refine belDrewN ?_ _ | refine belSet ?_ (by simp) _))).mono ?_
  rintro e w2 ⟨rfl, n2, rfl⟩
  rw [HS.out]
  go_wp2
  go_ret
  exact ⟨rfl, belTrans hbw (by repeat first | exact Below.refl _ _ | refine bel ?_ _ | refine belDrew ?_ | refine belDrewN ?_ _ | refine belSet ?_ (by simp) _)⟩

set_option maxRecDepth 100000 in
set_option maxHeartbeats 2000000 in
theorem pred_none (b bx : Nat) (Al : Option Addr) (cl : Nat) (lines : List ByteArray) (at_ : Nat) (vr : Value) (f : ByteArray) (r : Rule) (v : Value) (w : World) (hr : Rdr w b (fun k => k < b) Al cl lines at_ vr f) (hm : MaxCell w) (hx : XR w bx r v) (ho : PR w bx v r.preds) (hbx : b < bx) (hfew : r.preds.length ≤ 5000) (hw : ∀ u ∈ [([109, 101, 116, 104, 111, 100] : List UInt8), ([104, 111, 115, 116] : List UInt8), ([101, 120, 97, 99, 116] : List UInt8), ([112, 114, 101, 102, 105, 120] : List UInt8), ([104, 101, 97, 100] : List UInt8), ([104, 97, 115] : List UInt8)], (u == (wordF lines at_).1.toList) = false) :
    Calls Tryz.prog 89 #[.pointer (some ⟨b, 0, none⟩), .pointer (some ⟨bx, 0, none⟩)] w fun e w' => e = .returned (.bool false) ∧ Below w.heap.size w w' := by
  have HR := Lib.hid hr
  have HM := Lib.hid hm
  have HX := Lib.hid hx
  have HO := Lib.hid ho
  have z1 := hw [109, 101, 116, 104, 111, 100] (by simp)
  have z2 := hw [104, 111, 115, 116] (by simp)
  have z3 := hw [101, 120, 97, 99, 116] (by simp)
  have z4 := hw [112, 114, 101, 102, 105, 120] (by simp)
  have z5 := hw [104, 101, 97, 100] (by simp)
  have z6 := hw [104, 97, 115] (by simp)
  clear hr hm hx ho hw
  have i0 := words_at0
  have i1 := words_at1
  have i2 := words_at2
  have i3 := words_at3
  have i4 := words_at4
  have i5 := words_at5
  have i6 := words_at6
  go_enter Tryz.func89, Tryz.ntmps89
  go_wp2_with fail
  refine (word_any b _ Al cl lines at_ vr f w HR.out HM.out).mono ?_
  rintro e w1 ⟨rfl, n, rfl⟩
  go_wp2_with fail
  refine (words_any _).mono ?_
  rintro e w1 ⟨rfl, hb⟩
  go_wp2_with fail
  refine wp_loop_rounds 8 ?_
  rw [rounds_succ]
  go_wp2_with fail
  rw [rounds_succ]
  go_wp2_with fail
  rw [rounds_succ]
  go_wp2_with fail
  rw [rounds_succ]
  go_wp2_with fail
  rw [rounds_succ]
  go_wp2_with fail
  rw [rounds_succ]
  go_wp2_with fail
  rw [rounds_succ]
  go_wp2_with fail
  rw [rounds_succ]
  go_wp2_with fail
  have hbw : Below w.heap.size w w1 := belTrans (belDrewN (Below.refl _ _) n) hb
  go_ret
  exact ⟨rfl, hbw⟩
end Go.Proofs.YtnbgfpcpfknjoaaGreatDoor
