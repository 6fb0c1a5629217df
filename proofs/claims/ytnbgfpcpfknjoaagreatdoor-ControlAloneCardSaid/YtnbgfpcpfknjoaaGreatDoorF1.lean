/- control: atomic counts; the judge of a text. -/
import Derived.Test.YtnbgfpcpfknjoaaGreatDoorE4
import Derived.Test.YtnbgfpcpfknjoaaGreatDoorB7
import Derived.Laws.LoneSync
import Derived.Deep.RegionHeld3
namespace Go.Proofs.YtnbgfpcpfknjoaaGreatDoor
set_option linter.all false
open Go.RowKit

set_option maxHeartbeats 400000 in
theorem atomicAdd (b o : Nat) (x y : Int) (w : World) (hc : w.cell? ⟨b, o, none⟩ = some (.int .i64 x)) (hf : w.frozen? ⟨b, o, none⟩ = false) (h0 : 0 ≤ x) (h1 : x ≤ 1000000) (hy : x + 1 = y) :
    Calls Tryz.prog 27 #[.pointer (some ⟨b, o, none⟩), .int .i64 1] w fun e w' => e = .returned (.int .i64 y) ∧ w' = w.setCell ⟨b, o, none⟩ (.int .i64 y) := by
  subst hy
  have hd := run_call_add (P := Tryz.prog) Tryz.func46 (by kernel_rfl) (by kernel_rfl) (by kernel_rfl) .i64 (by kernel_rfl) (y := 1) (s := x + 1) hc hf (by simp [go_sem, IntWalk.i64_in (n := x + 1) (by omega)])
  go_enter Tryz.func27, Tryz.ntmps27
  go_wp2
  go_ret
  exact ⟨rfl, rfl⟩
set_option maxHeartbeats 400000 in
theorem atomicLoad (b o : Nat) (x : Int) (w : World) (hc : w.cell? ⟨b, o, none⟩ = some (.int .i64 x)) :
    Calls Tryz.prog 32 #[.pointer (some ⟨b, o, none⟩)] w fun e w' => e = .returned (.int .i64 x) ∧ w = w' := by
  have hd := run_call_load (P := Tryz.prog) Tryz.func50 (by kernel_rfl) (by kernel_rfl) (by kernel_rfl) .i64 (by kernel_rfl) hc
  go_enter Tryz.func32, Tryz.ntmps32
  go_wp2
  go_ret
  exact ⟨rfl, rfl⟩
set_option maxHeartbeats 400000 in
theorem versions_any (b : Nat) (x : Int) (w : World) (hc : w.cell? ⟨b, 2, none⟩ = some (.int .i64 x)) :
    Calls Tryz.prog 13 #[.pointer (some ⟨b, 0, none⟩)] w fun e w' => e = .returned (.int .i64 x) ∧ w = w' := by
  go_enter Tryz.func13, Tryz.ntmps13
  go_wp2_with (go_at_call 32; refine (atomicLoad _ _ x _ hc).mono ?_; rintro e w' ⟨rfl, rfl⟩)
  go_ret
  exact ⟨rfl, rfl⟩
set_option maxHeartbeats 400000 in
theorem refused_any (b : Nat) (x : Int) (w : World) (hc : w.cell? ⟨b, 3, none⟩ = some (.int .i64 x)) :
    Calls Tryz.prog 14 #[.pointer (some ⟨b, 0, none⟩)] w fun e w' => e = .returned (.int .i64 x) ∧ w = w' := by
  go_enter Tryz.func14, Tryz.ntmps14
  go_wp2_with (go_at_call 32; refine (atomicLoad _ _ x _ hc).mono ?_; rintro e w' ⟨rfl, rfl⟩)
  go_ret
  exact ⟨rfl, rfl⟩
set_option maxHeartbeats 400000 in
theorem versions_nil (w : World) :
    Calls Tryz.prog 13 #[.pointer none] w fun e w' => e = .returned (.int .i64 0) ∧ w = w' := by
  go_enter Tryz.func13, Tryz.ntmps13
  go_wp2
  go_ret
  exact ⟨rfl, rfl⟩
set_option maxHeartbeats 400000 in
theorem refused_nil (w : World) :
    Calls Tryz.prog 14 #[.pointer none] w fun e w' => e = .returned (.int .i64 0) ∧ w = w' := by
  go_enter Tryz.func14, Tryz.ntmps14
  go_wp2
  go_ret
  exact ⟨rfl, rfl⟩

/-- What becomes of a text: the error, the rules and the format. -/
def judgeF (names : List ByteArray) (n : Nat) (s : ByteArray) : Int × List Rule × ByteArray :=
  let o := confReadF s
  if o.2.1 ≠ 0 then (o.2.1, [], empty)
  else if tabErr o.2.2.1 o.2.2.2 names ≠ 0 then (tabErr o.2.2.1 o.2.2.2 names, [], empty)
  else if 16 ≤ n then (8, [], empty)
  else (0, o.2.2.1, o.2.2.2)
def JudgePost (w : World) (o : Int × List Rule × ByteArray) (e : Ending) (w' : World) : Prop :=
  ∃ A c, e = .returned (.tuple #[.agg #[.slice A o.2.1.length c, .string o.2.2], .int .i64 o.1]) ∧ ruleR.sl w' (fun k => w.heap.size ≤ k ∧ k < w'.heap.size) (.slice A o.2.1.length c) o.2.1 ∧ o.2.2.size ≤ maxLen ∧ Below w.heap.size w w' ∧ MaxCell w'
theorem JudgePost_none {w w' : World} (hm : MaxCell w) (hb : Below w.heap.size w w') {o : Int × List Rule × ByteArray} {e : Int} (ho : o = (e, [], empty)) : JudgePost w o (.returned (.tuple #[.agg #[.slice none 0 0, .string ⟨#[]⟩], .int .i64 e])) w' := by
  subst ho
  exact ⟨none, 0, rfl, Rp.sl_nil _ _ _, by show (0 : Nat) ≤ maxLen; omega, hb, hm.below hb⟩

set_option maxRecDepth 100000 in
set_option maxHeartbeats 4000000 in
theorem judge_any (b : Nat) (An At : Option Addr) (cn n ct : Nat) (names : List ByteArray) (Sn : Nat → Prop) (s : ByteArray) (w : World) (hm : MaxCell w) (hs : s.size ≤ maxLen)
    (hc0 : w.cell? ⟨b, 0, none⟩ = some (.slice An names.length cn)) (hc1 : w.cell? ⟨b, 1, none⟩ = some (.slice At n ct)) (hn : strR.sl w Sn (.slice An names.length cn) names) (hn16 : n ≤ 1000) :
    Calls Tryz.prog 25 #[.pointer (some ⟨b, 0, none⟩), .string s] w (JudgePost w (judgeF names n s)) := by
  have HM := Lib.hid hm
  have HN := Lib.hid hn
  have hbl : b < w.heap.size := World.block_lt_of_cell? w _ hc0
  obtain ⟨J, hJ⟩ : ∃ J, judgeF names n s = J := ⟨_, rfl⟩
  have HJ := Lib.hid hJ
  rw [hJ]
  obtain ⟨o, ho⟩ : ∃ o, confReadF s = o := ⟨_, rfl⟩
  have HR := Lib.hid (confRead_any s (w.alloc (.cells #[.slice none 0 0, .string ⟨#[]⟩] 40)) (hm.below (bel (Below.refl _ _) _)) hs)
  rw [ho] at HR
  have HO := Lib.hid ho
  obtain ⟨ln, er, rules, fmt⟩ := o
  have HC0 := Lib.hid hc0
  have HC1 := Lib.hid hc1
  clear hm hn hJ ho hc0 hc1
  go_enter Tryz.func25, Tryz.ntmps25
  go_wp2_with fail
  refine HR.out.mono ?_
  intro e w1 hp
  obtain ⟨A, c, rfl, hsl, hfm, hb1, hm1⟩ := hp
  dsimp only at hsl hfm
  have hb1' : Below w.heap.size w w1 := (bel (Below.refl _ w) _).trans (hb1.mono (by simp))
  have hlt : w.heap.size < w1.heap.size := by have := hb1.size; simp at this; omega
  obtain ⟨hcs, hfs⟩ := bcell hb1
  have q0 : w1.cell? ⟨w.heap.size, 0, none⟩ = some (.slice none 0 0) := (hcs _ _ (by simp)).trans (by rw [World.cell?_alloc_at _ _ _ _ rfl]; rfl)
  have q1 : w1.cell? ⟨w.heap.size, 1, none⟩ = some (.string ⟨#[]⟩) := (hcs _ _ (by simp)).trans (by rw [World.cell?_alloc_at _ _ _ _ rfl]; rfl)
  have f0 : w1.frozen? ⟨w.heap.size, 0, none⟩ = false := (hfs _ _ (by simp)).trans (World.frozen?_alloc_at _ _ _ _ rfl)
  have f1 : w1.frozen? ⟨w.heap.size, 1, none⟩ = false := (hfs _ _ (by simp)).trans (World.frozen?_alloc_at _ _ _ _ rfl)
  have c0 : w1.cell? ⟨b, 0, none⟩ = some (.slice An names.length cn) := (hb1'.cell (p := ⟨b, 0, none⟩) hbl).trans HC0.out
  have c1 : w1.cell? ⟨b, 1, none⟩ = some (.slice At n ct) := (hb1'.cell (p := ⟨b, 1, none⟩) hbl).trans HC1.out
  have HSL := Lib.hid hsl
  have HFM := Lib.hid hfm
  have HB1 := Lib.hid hb1'
  have HM1 := Lib.hid hm1
  clear hsl hfm hb1 hb1' hm1 hcs hfs HR
  by_cases he : er = 0
  · have he' : (er != 0) = false := by simp [he]
    have hbl1 : b < w1.heap.size := by omega
    have HE := Lib.hid he
    clear he
    go_wp2_with fail
    go_region_held3 (fun w' => w'.cell? ⟨b, 0, none⟩ = some (.slice An names.length cn) ∧ w'.cell? ⟨w1.heap.size, 0, none⟩ = some (.slice A rules.length c) ∧ w'.cell? ⟨w1.heap.size, 1, none⟩ = some (.string fmt))
      (first
        | go_keep
        | (go_split_ands
           refine ⟨?_, ?_, ?_⟩
           all_goals (refine (Below.cell hb (by simp; try omega)).trans ?_; assumption)))
      ((go_at_call 43; refine (tableCheck_any rules fmt names Sn An cn _ A c _ (Rp.sl_below HSL.out (by repeat first | exact Below.refl _ _ | refine bel ?_ _ | refine belDrew ?_)) HFM.out (Lib.hid (Rp.sl_below HN.out (by repeat first | exact HB1.out | refine bel ?_ _ | refine belDrew ?_))) (Lib.hid (Rp.sl_lenv HN.out))).mono ?_; rintro e w2 ⟨rfl, hb⟩))
    have hb2 : Below w1.heap.size w1 w2 := belTrans (by repeat first | exact Below.refl _ _ | refine bel ?_ _ | refine belDrew ?_) hb
    have hl2 : w1.heap.size < w2.heap.size := by have := hb.size; simp at this; omega
    have hl3 : w.heap.size < w2.heap.size := by omega
    obtain ⟨hcs, hfs⟩ := bcell hb2
    have r0 := (hcs _ _ hlt).trans q0
    have r1 := (hcs _ _ hlt).trans q1
    have g0 := (hfs _ _ hlt).trans f0
    have g1 := (hfs _ _ hlt).trans f1
    have d1 := (hcs _ _ hbl1).trans c1
    have y0 : w2.cell? ⟨w1.heap.size, 0, none⟩ = some (.slice A rules.length c) := (Below.cell (p := ⟨w1.heap.size, 0, none⟩) hb (by simp)).trans (by go_simp)
    have y1 : w2.cell? ⟨w1.heap.size, 1, none⟩ = some (.string fmt) := (Below.cell (p := ⟨w1.heap.size, 1, none⟩) hb (by simp)).trans (by go_simp)
    have HB2 := Lib.hid hb2
    clear hb hb2 hcs hfs q0 q1 f0 f1 c0 c1
    by_cases ht : tabErr rules fmt names = 0
    · have ht' : (cfgChk (fun r => ruleChk r names) rules fmt != 0) = false := bne_eq_false_iff_eq.2 ht
      by_cases h16 : 16 ≤ n
      · have h16' : (16 : Int) ≤ (n : Int) := by omega
        have HO2 : Hid (J = (8, [], empty)) := by
          have := HJ.out; unfold judgeF at this; rw [HO.out] at this; dsimp only at this
          rw [if_neg (by rw [HE.out]; decide), if_neg (by rw [ht]; decide), if_pos h16] at this; exact this.symm
        clear ht
        go_wp2
        refine bodyPost_ret (v := .tuple #[.agg #[.slice none 0 0, .string ⟨#[]⟩], .int .i64 8]) (by simp [results, Tryz.results25, go_sem, r0, r1, hl3]) rfl (JudgePost_none HM.out ?_ HO2.out)
        repeat' first
          | exact HB1.out.trans (HB2.out.mono (by omega))
          | refine belSet ?_ (by simp) _
      · have h16' : ¬ (16 : Int) ≤ (n : Int) := by omega
        have HO2 : Hid (J = (0, rules, fmt)) := by
          have := HJ.out; unfold judgeF at this; rw [HO.out] at this; dsimp only at this
          rw [if_neg (by rw [HE.out]; decide), if_neg (by rw [ht]; decide), if_neg h16] at this; exact this.symm
        clear ht
        go_wp2
        refine bodyPost_ret (v := .tuple #[.agg #[.slice A rules.length c, .string fmt], .int .i64 0]) (by simp [results, Tryz.results25, go_sem, r0, r1, hl3]) rfl ?_
        rw [HO2.out]
        have hb := HB1.out.trans (HB2.out.mono (Nat.le_of_lt hlt))
        refine ⟨A, c, rfl, ?_, HFM.out, belSet (belSet hb (by simp) _) (by simp) _, HM.out.below (belSet (belSet hb (by simp) _) (by simp) _)⟩
        have hfar : ∀ k, w.heap.size < k → ∀ u v : Value, (((w2.setCell ⟨w.heap.size, 0, none⟩ u).setCell ⟨w.heap.size, 0 + 1, none⟩ v).heap[k]?) = w2.heap[k]? := fun k hk u v => (Below.heap_setCell _ _ _ _ (by show k ≠ w.heap.size; omega)).trans (Below.heap_setCell _ _ _ _ (by show k ≠ w.heap.size; omega))
        have h1 : ruleR.sl w2 (fun k => w.heap.size + 1 ≤ k ∧ k < w1.heap.size) (.slice A rules.length c) rules := Rp.sl_below (Rp.sl_mono HSL.out fun k hk _ => by simpa using hk) HB2.out
        refine Rp.sl_mono (Rp.sl_frame h1 (by simp [World.setCell]) fun k hk _ => hfar k (by omega) _ _) fun k hk _ => ⟨by omega, by simp [World.setCell]; omega⟩
    · have ht' : (cfgChk (fun r => ruleChk r names) rules fmt != 0) = true := bne_iff_ne.2 ht
      have HO2 : Hid (J = (cfgChk (fun r => ruleChk r names) rules fmt, [], empty)) := by
        have := HJ.out; unfold judgeF at this; rw [HO.out] at this; dsimp only at this
        rw [if_neg (by rw [HE.out]; decide), if_pos ht] at this; exact this.symm
      clear ht
      go_wp2
      refine bodyPost_ret (v := .tuple #[.agg #[.slice none 0 0, .string ⟨#[]⟩], .int .i64 (cfgChk (fun r => ruleChk r names) rules fmt)]) (by simp [results, Tryz.results25, go_sem, r0, r1, hl3]) rfl (JudgePost_none HM.out ?_ HO2.out)
      repeat' first
        | exact HB1.out.trans (HB2.out.mono (by omega))
        | refine belSet ?_ (by simp) _
  · have he' : (er != 0) = true := by simp [he]
    have HO2 : Hid (J = (er, [], empty)) := by have := HJ.out; unfold judgeF at this; rw [HO.out] at this; rw [← this]; exact if_pos he
    clear he
    go_wp2
    refine bodyPost_ret (v := .tuple #[.agg #[.slice none 0 0, .string ⟨#[]⟩], .int .i64 er]) (by simp [results, Tryz.results25, go_sem, q0, q1, hlt]) rfl (JudgePost_none HM.out ?_ HO2.out)
    repeat' first
      | exact HB1.out
      | exact HB1.out.mono (by simp)
      | refine belSet ?_ (by simp) _
      | refine bel ?_ _
end Go.Proofs.YtnbgfpcpfknjoaaGreatDoor
