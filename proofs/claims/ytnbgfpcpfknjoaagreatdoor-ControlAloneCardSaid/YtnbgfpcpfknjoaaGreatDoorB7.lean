/- table.Compile. -/
import Derived.Test.YtnbgfpcpfknjoaaGreatDoorB6
namespace Go.Proofs.YtnbgfpcpfknjoaaGreatDoor
set_option linter.all false
open Go.RowKit

def tabErr (rules : List Rule) (f : ByteArray) (names : List ByteArray) : Int := cfgChk (fun r => ruleChk r names) rules f

set_option maxRecDepth 100000 in
set_option maxHeartbeats 1000000 in
theorem compile_err (rules : List Rule) (f : ByteArray) (n : Int) (names : List ByteArray) (S Sn : Nat → Prop) (Ar An : Option Addr) (cr cn : Nat) (w : World) (hr : ruleR.sl w S (.slice Ar rules.length cr) rules) (hf : f.size ≤ maxLen) (hn : strR.sl w Sn (.slice An names.length cn) names) (hv : rangeB 1 1099511627776 n = true) (he : tabErr rules f names ≠ 0) :
    Calls Tryz.prog 26 #[.agg #[.slice Ar rules.length cr, .string f], .int .i64 n, .slice An names.length cn] w fun e w' => e = .returned (.tuple #[.agg #[.int .i64 0, .slice none 0 0, .string ⟨#[]⟩], .int .i64 (tabErr rules f names)]) ∧ Below w.heap.size w w' := by
  have HR := Lib.hid hr
  have HF := Lib.hid hf
  have HN := Lib.hid hn
  have HNM := Lib.hid (Rp.sl_lenv hn)
  have he' : (tabErr rules f names != 0) = true := bne_iff_ne.2 he
  have HT : Hid (tabErr rules f names = cfgChk (fun r => ruleChk r names) rules f) := rfl
  clear hr hf hn he
  go_enter Tryz.func26, Tryz.ntmps26
  go_wp2_with (go_at_call 44; refine (version_any _ _).mono ?_; rintro e w' ⟨rfl, rfl⟩)
  refine (tableCheck_any rules f names Sn An cn S Ar cr _ (Rp.sl_below HR.out (bel (bel (Below.refl _ _) _) _)) HF.out (Rp.sl_below HN.out (bel (bel (Below.refl _ _) _) _)) HNM.out).mono ?_
  rintro e w1 ⟨rfl, hb⟩
  rw [← HT.out]
  obtain ⟨hc, hfz, hlt⟩ := bal hb
  have HB1 : Below w.heap.size w w1 := belTrans (bel (bel (Below.refl _ _) _) _) hb
  have hlt2 : w.heap.size + 1 < w1.heap.size := by have := hb.size; simp at this; omega
  go_wp2
  refine bodyPost_ret (v := .tuple #[.agg #[.int .i64 0, .slice none 0 0, .string ⟨#[]⟩], .int .i64 (tabErr rules f names)]) (by simp [results, Tryz.results26, go_sem, hc, hlt, hlt2]) rfl ⟨rfl, ?_⟩
  repeat' first
    | exact HB1
    | refine belSet ?_ (by simp) _

set_option maxRecDepth 100000 in
set_option maxHeartbeats 1000000 in
theorem compile_ok (rules : List Rule) (f : ByteArray) (n : Int) (names : List ByteArray) (S Sn : Nat → Prop) (Ar An : Option Addr) (cr cn : Nat) (w : World) (hr : ruleR.sl w S (.slice Ar rules.length cr) rules) (hf : f.size ≤ maxLen) (hn : strR.sl w Sn (.slice An names.length cn) names) (hv : rangeB 1 1099511627776 n = true) (he : tabErr rules f names = 0) (HC : RulesCap rules) :
    Calls Tryz.prog 26 #[.agg #[.slice Ar rules.length cr, .string f], .int .i64 n, .slice An names.length cn] w fun e w' => (∃ v, e = .returned (.tuple #[.agg #[.int .i64 n, v, .string f], .int .i64 0]) ∧ ruleR.own w' (cpS S w.heap.size v) w.heap.size 65 v (orderF rules)) ∧ Below w.heap.size w w' := by
  have HR := Lib.hid hr
  have HF := Lib.hid hf
  have HN := Lib.hid hn
  have HNM := Lib.hid (Rp.sl_lenv hn)
  have HT : Hid (cfgChk (fun r => ruleChk r names) rules f = 0) := he
  clear hr hf hn he
  go_enter Tryz.func26, Tryz.ntmps26
  go_wp2_with (go_at_call 44; refine (version_any _ _).mono ?_; rintro e w' ⟨rfl, rfl⟩)
  refine (tableCheck_any rules f names Sn An cn S Ar cr _ (Rp.sl_below HR.out (bel (bel (Below.refl _ _) _) _)) HF.out (Rp.sl_below HN.out (bel (bel (Below.refl _ _) _) _)) HNM.out).mono ?_
  rintro e w1 ⟨rfl, hb⟩
  rw [HT.out]
  have HB1 : Below w.heap.size w w1 := belTrans (bel (bel (Below.refl _ _) _) _) hb
  have HR1 := Lib.hid (Rp.sl_below (Rp.sl_mono (S' := fun k => S k ∧ k < w.heap.size) HR.out (fun k hk hl => ⟨hk, hl⟩)) HB1)
  have hlt2 : w.heap.size + 1 < w1.heap.size := by have := hb.size; simp at this; omega
  have hlt1 : w.heap.size < w1.heap.size := by omega
  have q0 : w1.cell? ⟨w.heap.size, 0, none⟩ = some (.slice Ar rules.length cr) := (hb.cell (p := ⟨w.heap.size, 0, none⟩) (by simp; omega)).trans (by go_simp)
  have q1 : w1.cell? ⟨w.heap.size, 1, none⟩ = some (.string f) := (hb.cell (p := ⟨w.heap.size, 1, none⟩) (by simp; omega)).trans (by go_simp)
  have p0 : w1.cell? ⟨w.heap.size + 1, 0, none⟩ = some (.int .i64 0) := (hb.cell (p := ⟨w.heap.size + 1, 0, none⟩) (by simp)).trans (by go_simp)
  have p1 : w1.cell? ⟨w.heap.size + 1, 1, none⟩ = some (.slice none 0 0) := (hb.cell (p := ⟨w.heap.size + 1, 1, none⟩) (by simp)).trans (by go_simp)
  have p2 : w1.cell? ⟨w.heap.size + 1, 2, none⟩ = some (.string ⟨#[]⟩) := (hb.cell (p := ⟨w.heap.size + 1, 2, none⟩) (by simp)).trans (by go_simp)
  have pf : ∀ j, w1.frozen? ⟨w.heap.size + 1, j, none⟩ = false := fun j => (hb.frozen (p := ⟨w.heap.size + 1, j, none⟩) (by simp)).trans (by go_simp)
  have pf0 := pf 0
  have pf1 := pf 1
  have pf2 := pf 2
  have HBX := Lib.hid hb
  clear hb pf
  go_wp2_with fail
  go_region_held3 (fun w' => w'.cell? ⟨w.heap.size, 0, none⟩ = some (.slice Ar rules.length cr) ∧ w'.cell? ⟨w.heap.size, 1, none⟩ = some (.string f))
    (first
      | go_keep
      | (go_split_ands
         refine ⟨?_, ?_⟩
         all_goals (refine (Below.cell hb (by assumption)).trans ?_; assumption)))
    ((go_at_call 45; refine (order_any rules (fun k => S k ∧ k < w.heap.size) Ar cr _ (Rp.sl_below HR1.out (belDrew (Below.refl _ _))) HC).mono ?_; rintro e w2 ⟨⟨v, rfl, ho⟩, hb⟩; obtain ⟨A1, c1, rfl, -, -⟩ := Rp.own_slice ho; have s0 := (hb.cell (p := ⟨w.heap.size + 1, 0, none⟩) hlt2).trans p0; have s1 := (hb.cell (p := ⟨w.heap.size + 1, 1, none⟩) hlt2).trans p1; have s2 := (hb.cell (p := ⟨w.heap.size + 1, 2, none⟩) hlt2).trans p2; have t0 := (hb.frozen (p := ⟨w.heap.size + 1, 0, none⟩) hlt2).trans pf0; have t1 := (hb.frozen (p := ⟨w.heap.size + 1, 1, none⟩) hlt2).trans pf1; have t2 := (hb.frozen (p := ⟨w.heap.size + 1, 2, none⟩) hlt2).trans pf2))
  go_wp2_with fail
  have hb2 : Below w1.heap.size w1 w2 := belTrans (belDrew (Below.refl _ _)) hb
  have HO := Lib.hid ho
  clear ho
  refine bodyPost_ret (v := .tuple #[.agg #[.int .i64 n, .slice A1 (orderF rules).length c1, .string f], .int .i64 0]) (by simp [results, Tryz.results26, go_sem, s0, s1, s2]) rfl ⟨⟨_, rfl, ?_⟩, ?_⟩
  · have hbase := Rp.own_base HO.out
    have hne : (Value.slice A1 (orderF rules).length c1).ownBlock ≠ some (w.heap.size + 1) := by
      intro e
      have := (hbase _ e).1
      simp at this
      omega
    have hS : ¬ cpS (fun k => S k ∧ k < w.heap.size) w1.drew.heap.size (Value.slice A1 (orderF rules).length c1) (w.heap.size + 1) := by
      intro hc
      rcases hc.1 with h | h
      · have := h.1.2; omega
      · simp at h; omega
    refine Rp.own_lower (Rp.own_far (Rp.own_far (Rp.own_far HO.out hS hne _ _) hS hne _ _) hS hne _ _) (by simp; omega) fun k hk _ => ⟨?_, hk.2⟩
    rcases hk.1 with h | h
    · exact .inl h.1
    · simp at h; exact .inr (by omega)
  · repeat' first
      | exact belTrans HB1 hb2
      | refine belSet ?_ (by simp) _
end Go.Proofs.YtnbgfpcpfknjoaaGreatDoor
