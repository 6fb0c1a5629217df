/- The reference's table of rules that stand in order: whole. -/
import Derived.Test.YtnbgfpcpfknjoaaGreatDoorG5
import Derived.Test.YtnbgfpcpfknjoaaGreatDoorF3
namespace Go.Proofs.YtnbgfpcpfknjoaaGreatDoor
set_option linter.all false
open Go.RowKit

set_option maxRecDepth 100000 in
set_option maxHeartbeats 4000000 in
theorem refCompile_ok (rules : List Rule) (f : ByteArray) (n : Int) (names : List ByteArray) (S Sn : Nat → Prop) (Ar An : Option Addr) (cr cn : Nat) (w : World) (hr : ruleR.sl w S (.slice Ar rules.length cr) rules) (hf : f.size ≤ maxLen) (hn : strR.sl w Sn (.slice An names.length cn) names) (h1 : 1 ≤ n) (h2 : n ≤ 1000) (he : tabErr rules f names = 0) (hd : Desc rules) :
    Calls Tryz.prog 30 #[.agg #[.slice Ar rules.length cr, .string f], .int .i64 n, .slice An names.length cn] w fun e w' => (∃ A c, e = .returned (.tuple #[.agg #[.int .i64 n, .slice A rules.length c, .string f], .int .i64 0]) ∧ ruleR.sl w' (fun k => (S k ∧ k < w.heap.size) ∨ (w.heap.size ≤ k ∧ k < w'.heap.size)) (.slice A rules.length c) rules) ∧ Below w.heap.size w w' := by
  have HR := Lib.hid (Rp.sl_mono (S' := fun k => S k ∧ k < w.heap.size) hr fun k hk hl => ⟨hk, hl⟩)
  have HF := Lib.hid hf
  have HN := Lib.hid hn
  have HT := Lib.hid he
  have HD := Lib.hid hd
  have h16 := (tabErr_ok he).2.1
  have hn1 : ¬ n < 1 := by omega
  have hn2 : ¬ 1099511627776 < n := by omega
  clear hr hf hn he hd
  go_enter Tryz.func30, Tryz.ntmps30
  go_wp2_with fail
  refine (refTable_any rules f names Sn An cn _ Ar cr _ (Rp.sl_below HR.out (bel (bel (Below.refl _ _) _) _)) HF.out (Lib.hid (Rp.sl_below HN.out (bel (bel (Below.refl _ _) _) _)))).mono ?_
  rintro e w1 ⟨rfl, hb⟩
  rw [HT.out]
  have HB1 : Below w.heap.size w w1 := belTrans (bel (bel (Below.refl _ _) _) _) hb
  have HR1 := Lib.hid (Rp.sl_below HR.out HB1)
  have hlt2 : w.heap.size + 1 < w1.heap.size := by have := hb.size; simp at this; omega
  have hlt1 : w.heap.size < w1.heap.size := by omega
  have q0 : w1.cell? ⟨w.heap.size, 0, none⟩ = some (.slice Ar rules.length cr) := (hb.cell (p := ⟨w.heap.size, 0, none⟩) (by simp; omega)).trans (by go_simp)
  have q1 : w1.cell? ⟨w.heap.size, 1, none⟩ = some (.string f) := (hb.cell (p := ⟨w.heap.size, 1, none⟩) (by simp; omega)).trans (by go_simp)
  have p0 : w1.cell? ⟨w.heap.size + 1, 0, none⟩ = some (.int .i64 0) := (hb.cell (p := ⟨w.heap.size + 1, 0, none⟩) (by simp)).trans (by go_simp)
  have p1 : w1.cell? ⟨w.heap.size + 1, 1, none⟩ = some (.slice none 0 0) := (hb.cell (p := ⟨w.heap.size + 1, 1, none⟩) (by simp)).trans (by go_simp)
  have p2 : w1.cell? ⟨w.heap.size + 1, 2, none⟩ = some (.string ⟨#[]⟩) := (hb.cell (p := ⟨w.heap.size + 1, 2, none⟩) (by simp)).trans (by go_simp)
  have pf : ∀ j, w1.frozen? ⟨w.heap.size + 1, j, none⟩ = false := fun j => (hb.frozen (p := ⟨w.heap.size + 1, j, none⟩) (by simp)).trans (by go_simp)
  have pf0 := pf 0
  have pf1 := pf 1
  have pf2 := pf 2
  have HB1H := Lib.hid HB1
  clear hb pf HB1
  go_wp2_with fail
  go_region_held3 (fun w' => w'.cell? ⟨w.heap.size, 0, none⟩ = some (.slice Ar rules.length cr) ∧ w'.cell? ⟨w.heap.size, 1, none⟩ = some (.string f))
    (first
      | go_keep
      | (go_split_ands
         refine ⟨?_, ?_⟩
         all_goals (refine (Below.cell hb (by assumption)).trans ?_; assumption)))
    ((go_at_call 48; refine (refOrder_any rules (fun k => S k ∧ k < w.heap.size) Ar cr _ (Rp.sl_below HR1.out (belDrew (Below.refl _ _))) HD.out h16).mono ?_; rintro e w2 ⟨⟨v, rfl, ho⟩, hb⟩; obtain ⟨A1, c1, rfl, -, -⟩ := Rp.own_slice ho; have s0 := (hb.cell (p := ⟨w.heap.size + 1, 0, none⟩) hlt2).trans p0; have s1 := (hb.cell (p := ⟨w.heap.size + 1, 1, none⟩) hlt2).trans p1; have s2 := (hb.cell (p := ⟨w.heap.size + 1, 2, none⟩) hlt2).trans p2; have t0 := (hb.frozen (p := ⟨w.heap.size + 1, 0, none⟩) hlt2).trans pf0; have t1 := (hb.frozen (p := ⟨w.heap.size + 1, 1, none⟩) hlt2).trans pf1; have t2 := (hb.frozen (p := ⟨w.heap.size + 1, 2, none⟩) hlt2).trans pf2))
  go_wp2_with fail
  have hb2 : Below w1.heap.size w1 w2 := belTrans (belDrew (Below.refl _ _)) hb
  have HO := Lib.hid ho
  clear ho
  refine bodyPost_ret (v := .tuple #[.agg #[.int .i64 n, .slice A1 rules.length c1, .string f], .int .i64 0]) (by simp [results, Tryz.results30, go_sem, s0, s1, s2]) rfl ⟨⟨A1, c1, rfl, ?_⟩, ?_⟩
  · have h0 := Rp.own_sl (S' := fun k => (S k ∧ k < w.heap.size) ∨ (w.heap.size + 1 < k ∧ k < w2.heap.size)) HO.out (fun k hk _ => .inl hk.1) (fun k hk hl => .inr ⟨by simp at hk; omega, hl⟩)
    have hfar : ∀ k, k ≠ w.heap.size + 1 → ∀ u v x : Value, ((((w2.setCell ⟨w.heap.size + 1, 0, none⟩ u).setCell ⟨w.heap.size + 1, 0 + 1, none⟩ v).setCell ⟨w.heap.size + 1, 0 + 1 + 1, none⟩ x).heap[k]?) = w2.heap[k]? := fun k hk u v x => ((Below.heap_setCell _ _ _ _ hk).trans (Below.heap_setCell _ _ _ _ hk)).trans (Below.heap_setCell _ _ _ _ hk)
    refine Rp.sl_mono (Rp.sl_frame h0 (by simp [World.setCell]) fun k hk _ => hfar k (by rcases hk with h | h <;> omega) _ _ _) fun k hk _ => ?_
    rcases hk with h | h
    · exact .inl h
    · exact .inr ⟨by omega, by simp [World.setCell]; omega⟩
  · repeat' first
      | exact belTrans HB1H.out hb2
      | refine belSet ?_ (by simp) _

set_option maxRecDepth 100000 in
set_option maxHeartbeats 4000000 in
theorem whole_ok (t : Tab) (names : List ByteArray) (S Sn : Nat → Prop) (Ar An : Option Addr) (cr cn : Nat) (w : World) (hr : ruleR.sl w S (.slice Ar t.rules.length cr) t.rules) (hf : t.format.size ≤ maxLen) (hn : strR.sl w Sn (.slice An names.length cn) names) (h1 : 1 ≤ t.version) (h2 : t.version ≤ 1000) (he : tabErr t.rules t.format names = 0) (hd : Desc t.rules) :
    Calls Tryz.prog 11 #[.agg #[.int .i64 t.version, .slice Ar t.rules.length cr, .string t.format], .slice An names.length cn] w fun e w' => e = .returned (.bool true) ∧ Below w.heap.size w w' := by
  have HR := Lib.hid hr
  have HF := Lib.hid hf
  have HN := Lib.hid hn
  have HT := Lib.hid he
  have HD := Lib.hid hd
  clear hr hf hn he hd
  go_enter Tryz.func11, Tryz.ntmps11
  go_wp2_with fail
  refine (refCompile_ok t.rules t.format t.version names S Sn Ar An cr cn _ (Rp.sl_below HR.out (bel (Below.refl _ _) _)) HF.out (Rp.sl_below HN.out (bel (Below.refl _ _) _)) h1 h2 HT.out HD.out).mono ?_
  rintro e w1 ⟨⟨A, c, rfl, hs⟩, hb⟩
  have hlt : w.heap.size < w1.heap.size := by have := hb.size; simp at this; omega
  have q0 : w1.cell? ⟨w.heap.size, 0, none⟩ = some (.int .i64 t.version) := (hb.cell (p := ⟨w.heap.size, 0, none⟩) (by simp)).trans (by go_simp)
  have q1 : w1.cell? ⟨w.heap.size, 1, none⟩ = some (.slice Ar t.rules.length cr) := (hb.cell (p := ⟨w.heap.size, 1, none⟩) (by simp)).trans (by go_simp)
  have q2 : w1.cell? ⟨w.heap.size, 2, none⟩ = some (.string t.format) := (hb.cell (p := ⟨w.heap.size, 2, none⟩) (by simp)).trans (by go_simp)
  have HB1 : Hid (Below w.heap.size w w1) := belTrans (bel (Below.refl _ _) _) hb
  have HS := Lib.hid hs
  clear hb hs
  go_wp2_with fail
  refine (tabSame_any t t S _ Ar A cr c _ (Rp.sl_below HR.out (by repeat first | exact HB1.out | refine bel ?_ _)) (Rp.sl_below HS.out (bel (Below.refl _ _) _))).mono ?_
  rintro e w2 ⟨rfl, hb2⟩
  have HB2 : Hid (Below w.heap.size w w2) := HB1.out.trans ((bel (Below.refl _ w1) _).mono (by omega) |>.trans (hb2.mono (by simp; omega)))
  clear hb2
  rw [decide_eq_true rfl]
  go_wp2
  go_ret
  exact ⟨rfl, HB2.out⟩
end Go.Proofs.YtnbgfpcpfknjoaaGreatDoor
