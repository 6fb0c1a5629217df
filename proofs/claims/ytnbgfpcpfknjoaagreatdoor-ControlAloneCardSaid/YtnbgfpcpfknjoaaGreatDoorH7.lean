/- The law ControlAlone, walked. -/
import Derived.Test.YtnbgfpcpfknjoaaGreatDoorH5
import Derived.Test.YtnbgfpcpfknjoaaGreatDoorH6
namespace Go.Proofs.YtnbgfpcpfknjoaaGreatDoor
set_option linter.all false
open Go.RowKit

/-- The state of the law's loop. -/
def AloneJ (w : World) (b1 b2 : Nat) (names l : List ByteArray) (i : Nat) (wr : World) : Prop :=
  ∃ v1 v2 tabs nr, Duo w wr b1 b2 names v1 v2 tabs tabs nr 0 ∧ i ≤ l.length ∧ tabs.length + nr = i ∧ ∀ j, ∀ hj : j < tabs.length, TabOk names (j + 1) (tabs[j]'hj)

set_option maxRecDepth 100000 in
set_option maxHeartbeats 8000000 in
theorem controlAlone_any (names l : List ByteArray) (Sn Sl : Nat → Prop) (An Al : Option Addr) (cn cl : Nat) (w : World) (hn : strR.sl w Sn (.slice An names.length cn) names) (hl : strR.sl w Sl (.slice Al l.length cl) l) (hm : MaxCell w) :
    Calls Tryz.prog 4 #[.slice An names.length cn, .slice Al l.length cl] w fun e w' => e = .returned (.bool true) ∧ Below w.heap.size w w' := by
  have HN := Lib.hid hn
  have HL0 := Lib.hid hl
  have HM := Lib.hid hm
  clear hn hl hm
  by_cases h20 : 20 < names.length
  · have h20' : decide ((20 : Int) < (names.length : Int)) = true := decide_eq_true (by omega)
    go_enter Tryz.func4, Tryz.ntmps4
    go_wp2_with fail
    refine (ctlKnown_any _ HM.out).mono ?_
    rintro e w1 ⟨rfl, hb⟩
    go_wp2
    go_ret
    exact ⟨rfl, hb⟩
  have h20' : decide ((20 : Int) < (names.length : Int)) = false := decide_eq_false (by omega)
  by_cases h30 : 30 < l.length
  · have h30' : decide ((30 : Int) < (l.length : Int)) = true := decide_eq_true (by omega)
    go_enter Tryz.func4, Tryz.ntmps4
    go_wp2_with fail
    refine (ctlKnown_any _ HM.out).mono ?_
    rintro e w1 ⟨rfl, hb⟩
    go_wp2
    go_ret
    exact ⟨rfl, hb⟩
  have h30' : decide ((30 : Int) < (l.length : Int)) = false := decide_eq_false (by omega)
  go_enter Tryz.func4, Tryz.ntmps4
  go_wp2_with fail
  refine (new_any names Sn An cn w HN.out HM.out ⟨by omega⟩).mono ?_
  rintro e w1 ⟨b1, rfl, hp1, hb1, hbb1, -⟩
  have HN1 := Lib.hid (Rp.sl_below HN.out hb1)
  have HP1 := Lib.hid (And.intro hp1 (And.intro hb1 hbb1))
  have HM1 := Lib.hid (HM.out.below hb1)
  clear hp1 hb1 hbb1
  go_wp2_with fail
  refine (new_any names Sn An cn w1 HN1.out HM1.out ⟨by omega⟩).mono ?_
  rintro e w2 ⟨b2, rfl, hp2, hb2, hbb2, -⟩
  have HS : Hid (AloneJ w b1 b2 names l 0 w2) := ⟨_, _, [], 0, Duo.start HP1.out.1 HP1.out.2.1 HP1.out.2.2 hp2 hb2 hbb2 HM.out, Nat.zero_le _, rfl, fun j hj => by simp at hj⟩
  clear hp2 hb2 hbb2 HP1 HM1 HN1
  go_wp2_with fail
  go_loopw [7] (fun i wr => ∃ k : Nat, i = .int .i64 k ∧ AloneJ w b1 b2 names l k wr) (fun i _ => l.length - (intOf i).toNat)
  case atStart => exact ⟨0, rfl, HS.out⟩
  case round =>
    obtain ⟨wo, hwo⟩ : ∃ wo : World, wo = wr := ⟨_, rfl⟩
    subst hwo
    obtain ⟨k, rfl, v1, v2, tabs, nr, hlaw, hkl, hsum, hok⟩ := hrel
    have hfew := hlaw.p1.plane.few
    have HLAW := Lib.hid hlaw
    have HSUM := Lib.hid hsum
    have HOK := Lib.hid hok
    clear HS hlaw hok
    by_cases hlt : k < l.length
    · obtain ⟨bl, ol, rfl, hc⟩ := strR_at (Rp.sl_below HL0.out HLAW.out.p1.below) hlt
      have HSZ := Lib.hid (strR_max HL0.out hlt)
      have k0 : (0 : Int) ≤ (k : Int) := by omega
      have k1 : (k : Int) < (l.length : Int) := by omega
      by_cases h5 : 5000 < (l[k]'hlt).size
      · have h5' : decide ((5000 : Int) < ((l[k]'hlt).size : Int)) = true := decide_eq_true (by omega)
        go_wp2_with fail
        refine (ctlKnown_any _ HLAW.out.p1.mc).mono ?_
        rintro e w1 ⟨rfl, hb⟩
        go_wp2
        go_ret
        exact ⟨rfl, belTrans HLAW.out.p1.below hb⟩
      · have h5' : decide ((5000 : Int) < ((l[k]'hlt).size : Int)) = false := decide_eq_false (by omega)
        have hnr : nr < 1000 := by omega
        go_wp2_with fail
        refine (publish_any _ b1 names v1 tabs nr (l[k]'hlt) wo HLAW.out.p1.plane HLAW.out.p1.mc HSZ.out hnr).mono ?_
        intro e w3 hq
        rcases hpf : pubF names tabs.length (l[k]'hlt) with ⟨x, _ | t⟩
        · rw [hpf] at hq
          have hx := pubF_bad hpf
          have hx' : (x != 0) = true := bne_iff_ne.2 hx
          obtain ⟨rfl, v1', hl2⟩ := HLAW.out.refuse hq
          have HLAW2 := Lib.hid hl2
          clear hq hpf hl2 hx hc hsum
          go_wp2
          go_roundw
          case rel => exact ⟨k + 1, by go_num, v1', v2, tabs, nr + 1, HLAW2.out, by omega, by have := HSUM.out; omega, HOK.out⟩
          case measure => simp [intOf]; omega
        · rw [hpf] at hq
          obtain ⟨rfl, hn16, htok⟩ := pubF_ok hpf
          obtain ⟨rfl, v1', hl2⟩ := HLAW.out.publish hq
          have HPF := Lib.hid hpf
          have HTOK := Lib.hid htok
          have HL2 := Lib.hid hl2.swap
          obtain ⟨bl2, ol2, hae, hc2⟩ := strR_at (Rp.sl_below HL0.out hl2.p1.below) hlt
          injection hae with hae
          injection hae with e1 e2 e3
          subst e1 e2
          clear hq hpf hl2 hc hsum htok e3
          go_wp2_with fail
          refine (publish_any _ b2 names v2 tabs 0 (l[k]'hlt) w3 HL2.out.p1.plane HL2.out.p1.mc HSZ.out (by omega)).mono ?_
          intro e w4 hq2
          rw [HPF.out] at hq2
          obtain ⟨rfl, v2', hl3⟩ := HL2.out.publish hq2
          have HL3 := Lib.hid hl3.swap
          clear hq2 hl3 hc2
          go_wp2
          go_roundw
          case rel => exact ⟨k + 1, by go_num, v1', v2', tabs ++ [t], nr, HL3.out, by omega, by have := HSUM.out; simp; omega, tabs_add HOK.out HTOK.out⟩
          case measure => simp [intOf]; omega
    · have hkl2 : k = l.length := by omega
      subst hkl2
      clear hsum hkl hlt HSUM
      go_wp2
      go_loopw [12] (fun j wq => ∃ m : Nat, m ≤ tabs.length ∧ j = .int .i64 ((m : Int) + 1) ∧ Hid (Duo w wq b1 b2 names v1 v2 tabs tabs nr 0)) (fun j _ => tabs.length + 1 - (intOf j).toNat)
      case atStart => exact ⟨0, Nat.zero_le _, rfl, HLAW⟩
      case round =>
        obtain ⟨m, hm2, rfl, HL⟩ := hrel
        have c2 := HL.out.p1.plane.c2
        by_cases hmt : m < tabs.length
        · have h1 : (m : Int) + 1 ≤ (tabs.length : Int) := by omega
          have h2 : decide ((m : Int) + 1 ≤ (tabs.length : Int)) = true := decide_eq_true h1
          have hm17 : (m : Int) < 17 := by omega
          obtain ⟨x, hx⟩ : ∃ x, tabs[m]'hmt = x := ⟨_, rfl⟩
          have hcap := (HOK.out m hmt).cap
          have hw1 := at_in _ b1 names v1 tabs nr m ((m : Int) + 1) wr HL.out.p1.plane hmt rfl hcap
          rw [hx] at hw1
          have HW1 := Lib.hid hw1
          have HX := Lib.hid hx
          clear hw1 hx hcap
          go_wp2_with fail
          refine (versions_any b1 _ _ c2).mono ?_
          rintro e w5 ⟨rfl, rfl⟩
          go_wp2_with fail
          refine HW1.out.mono ?_
          rintro e w6 ⟨vr, rfl, htab, hb6⟩
          obtain ⟨A6, c6, rfl, -, -, -⟩ := htab.1
          have HL6 := Lib.hid (HL.out.later hb6)
          have HT6 := Lib.hid htab.1
          clear htab hb6 HW1 c2
          have HL7 := Lib.hid (HL6.out.later (bel (Below.refl _ _) (.cells #[.int .i64 x.version, .slice A6 x.rules.length c6, .string x.format] 32)))
          have hcap := (HOK.out m hmt).cap
          have hw2 := at_in _ b2 names v2 tabs 0 m ((m : Int) + 1) _ HL7.out.p2.plane hmt rfl hcap
          rw [HX.out] at hw2
          have HW2 := Lib.hid hw2
          clear hw2 hcap
          go_wp2_with fail
          refine HW2.out.mono ?_
          rintro e w8 ⟨vr, rfl, htab, hb8⟩
          obtain ⟨A8, c8, rfl, -, -, -⟩ := htab.1
          have HL8 := Lib.hid (HL7.out.later hb8)
          have HT8 := Lib.hid htab.1
          have HB8 := Lib.hid hb8
          have hlt8 : w6.heap.size < w8.heap.size := by have := hb8.size; simp at this; omega
          have q0 : w8.cell? ⟨w6.heap.size, 0, none⟩ = some (.int .i64 x.version) := (hb8.cell (p := ⟨w6.heap.size, 0, none⟩) (by simp)).trans (by go_simp)
          have q1 : w8.cell? ⟨w6.heap.size, 1, none⟩ = some (.slice A6 x.rules.length c6) := (hb8.cell (p := ⟨w6.heap.size, 1, none⟩) (by simp)).trans (by go_simp)
          have q2 : w8.cell? ⟨w6.heap.size, 2, none⟩ = some (.string x.format) := (hb8.cell (p := ⟨w6.heap.size, 2, none⟩) (by simp)).trans (by go_simp)
          clear htab hb8 HW2
          go_wp2_with fail
          refine (tabSame_any x x _ _ A6 A8 c6 c8 _ (Rp.sl_below (Rp.sl_below (Rp.sl_alloc HT6.out _) HB8.out) (bel (Below.refl _ _) _)) (Rp.sl_below HT8.out (bel (Below.refl _ _) _))).mono ?_
          rintro e w9 ⟨rfl, hb9⟩
          rw [decide_eq_true (rfl : x = x)]
          have HL9 := Lib.hid (HL8.out.later (belTrans (bel (Below.refl _ _) _) hb9))
          clear hb9 q0 q1 q2
          go_wp2
          go_roundw
          case rel => exact ⟨m + 1, by omega, by go_num, HL9⟩
          case measure => simp [intOf]; omega
        · have h1 : ¬ (m : Int) + 1 ≤ (tabs.length : Int) := by omega
          have h2 : decide ((m : Int) + 1 ≤ (tabs.length : Int)) = false := decide_eq_false h1
          have hm17 : (m : Int) < 17 := by omega
          have d2 := HL.out.p2.plane.c2
          have d3 := HL.out.p2.plane.c3
          go_wp2_with (first | (go_at_call 13; ((with_reducible refine (versions_any b1 _ _ c2).mono ?_); rintro e w' ⟨rfl, rfl⟩)) | (go_at_call 13; ((with_reducible refine (versions_any b2 _ _ d2).mono ?_); rintro e w' ⟨rfl, rfl⟩)) | (go_at_call 14; refine (refused_any b2 _ _ d3).mono ?_; rintro e w' ⟨rfl, rfl⟩) | (go_at_call 7; refine (ctlKnown_any _ HL.out.p1.mc).mono ?_; rintro e w9 ⟨rfl, hb9⟩))
          go_ret
          exact ⟨rfl, belTrans HL.out.p1.below hb9⟩
end Go.Proofs.YtnbgfpcpfknjoaaGreatDoor
