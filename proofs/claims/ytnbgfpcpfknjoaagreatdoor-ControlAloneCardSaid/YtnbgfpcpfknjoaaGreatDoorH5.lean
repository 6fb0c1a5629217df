/- The law ControlStays, walked. -/
import Derived.Test.YtnbgfpcpfknjoaaGreatDoorH4
namespace Go.Proofs.YtnbgfpcpfknjoaaGreatDoor
set_option linter.all false
open Go.RowKit

/-- The state of the law's loop. -/
def StayJ (w : World) (b : Nat) (names l : List ByteArray) (va : Value) (i : Nat) (wr : World) : Prop :=
  ∃ vt tabs nr, Law w wr b names vt va tabs tabs nr ∧ i ≤ l.length ∧ tabs.length + nr = i ∧ ∀ j, ∀ hj : j < tabs.length, TabOk names (j + 1) (tabs[j]'hj)
theorem tabs_add {names : List ByteArray} {tabs : List Tab} {t : Tab} (h : ∀ j, ∀ hj : j < tabs.length, TabOk names (j + 1) (tabs[j]'hj)) (ht : TabOk names (tabs.length + 1) t) : ∀ j, ∀ hj : j < (tabs ++ [t]).length, TabOk names (j + 1) ((tabs ++ [t])[j]'hj) := by
  intro j hj
  by_cases hl : j < tabs.length
  · rw [List.getElem_append_left hl]; exact h j hl
  · have : j = tabs.length := by simp at hj; omega
    subst this
    rw [List.getElem_append_right (Nat.le_refl _)]
    simpa using ht

set_option maxRecDepth 100000 in
set_option maxHeartbeats 8000000 in
theorem controlStays_any (names l : List ByteArray) (Sn Sl : Nat → Prop) (An Al : Option Addr) (cn cl : Nat) (w : World) (hn : strR.sl w Sn (.slice An names.length cn) names) (hl : strR.sl w Sl (.slice Al l.length cl) l) (hm : MaxCell w) :
    Calls Tryz.prog 3 #[.slice An names.length cn, .slice Al l.length cl] w fun e w' => e = .returned (.bool true) ∧ Below w.heap.size w w' := by
  have HN := Lib.hid hn
  have HL0 := Lib.hid hl
  have HM := Lib.hid hm
  clear hn hl hm
  by_cases h20 : 20 < names.length
  · have h20' : decide ((20 : Int) < (names.length : Int)) = true := decide_eq_true (by omega)
    go_enter Tryz.func3, Tryz.ntmps3
    go_wp2_with fail
    refine (ctlKnown_any _ HM.out).mono ?_
    rintro e w1 ⟨rfl, hb⟩
    go_wp2
    go_ret
    exact ⟨rfl, hb⟩
  have h20' : decide ((20 : Int) < (names.length : Int)) = false := decide_eq_false (by omega)
  by_cases h30 : 30 < l.length
  · have h30' : decide ((30 : Int) < (l.length : Int)) = true := decide_eq_true (by omega)
    go_enter Tryz.func3, Tryz.ntmps3
    go_wp2_with fail
    refine (ctlKnown_any _ HM.out).mono ?_
    rintro e w1 ⟨rfl, hb⟩
    go_wp2
    go_ret
    exact ⟨rfl, hb⟩
  have h30' : decide ((30 : Int) < (l.length : Int)) = false := decide_eq_false (by omega)
  go_enter Tryz.func3, Tryz.ntmps3
  go_wp2_with fail
  refine (new_any names Sn An cn w HN.out HM.out ⟨by omega⟩).mono ?_
  rintro e w1 ⟨b, rfl, hp, hb, hbb, -⟩
  have HS : Hid (StayJ w b names l (.slice none 0 0) 0 w1) := ⟨_, [], 0, Law.start (Below.refl _ _) hp hb hbb HM.out, Nat.zero_le _, rfl, fun j hj => by simp at hj⟩
  clear hp hb hbb
  go_wp2_with fail
  go_loopw [6, 7] (fun va i wr => ∃ k : Nat, i = .int .i64 k ∧ StayJ w b names l va k wr) (fun _ i _ => l.length - (intOf i).toNat)
  case atStart => exact ⟨0, rfl, HS.out⟩
  case round =>
    obtain ⟨wo, hwo⟩ : ∃ wo : World, wo = wr := ⟨_, rfl⟩
    subst hwo
    obtain ⟨k, rfl, vt, tabs, nr, hlaw, hkl, hsum, hok⟩ := hrel
    have hfew := hlaw.ps.plane.few
    have HLAW := Lib.hid hlaw
    have HSUM := Lib.hid hsum
    have HOK0 := Lib.hid hok
    clear HS hlaw hok
    obtain ⟨Aa, ca, hva, -, -⟩ := Rp.own_slice HLAW.out.all
    subst hva
    by_cases hlt : k < l.length
    · obtain ⟨bl, ol, rfl, hc⟩ := strR_at (Rp.sl_below HL0.out HLAW.out.below) hlt
      have hsz : (l[k]'hlt).size ≤ maxLen := (strR_max HL0.out hlt)
      have HSZ := Lib.hid hsz
      have k0 : (0 : Int) ≤ (k : Int) := by omega
      have k1 : (k : Int) < (l.length : Int) := by omega
      clear hsz
      by_cases h5 : 5000 < (l[k]'hlt).size
      · have h5' : decide ((5000 : Int) < ((l[k]'hlt).size : Int)) = true := decide_eq_true (by omega)
        go_wp2_with fail
        refine (ctlKnown_any _ HLAW.out.ps.mc).mono ?_
        rintro e w1 ⟨rfl, hb⟩
        go_wp2
        go_ret
        exact ⟨rfl, belTrans HLAW.out.below hb⟩
      · have h5' : decide ((5000 : Int) < ((l[k]'hlt).size : Int)) = false := decide_eq_false (by omega)
        have hnr : nr < 1000 := by omega
        go_wp2_with fail
        refine (publish_any _ b names vt tabs nr (l[k]'hlt) wo HLAW.out.ps.plane HLAW.out.ps.mc HSZ.out hnr).mono ?_
        intro e w2 hq
        rcases hpf : pubF names tabs.length (l[k]'hlt) with ⟨x, _ | t⟩
        · rw [hpf] at hq
          have hx := pubF_bad hpf
          have hx' : (x == 0) = false := beq_eq_false_iff_ne.2 hx
          obtain ⟨rfl, vt2, hl2⟩ := HLAW.out.refuse hq
          have HLAW2 := Lib.hid hl2
          clear hq hpf hl2 hx
          have HOK := HOK0
          clear hc hsum
          go_wp2_with fail
          go_loopw [12] (fun j wq => ∃ m : Nat, m ≤ (tabs).length ∧ j = .int .i64 m ∧ Hid (Law w wq b names vt2 (.slice Aa tabs.length ca) (tabs) (tabs) (nr + 1))) (fun j _ => (tabs).length - (intOf j).toNat)
          case atStart => exact ⟨0, Nat.zero_le _, rfl, HLAW2⟩
          case round =>
            obtain ⟨m, hm2, rfl, HL⟩ := hrel
            by_cases hmt : m < (tabs).length
            · have k0 : (0 : Int) ≤ (m : Int) := by omega
              have k1 : (m : Int) < ((tabs).length : Int) := by omega
              have k2 : (m : Int) < 17 := by omega
              go_wp2_with fail
              refine (at_in _ b names vt2 (tabs) (nr + 1) m _ wr HL.out.ps.plane hmt rfl (HOK.out m hmt).cap).mono ?_
              rintro e w5 ⟨vr, rfl, htab, hb5⟩
              obtain ⟨A5, c5, rfl, -, -, -⟩ := htab.1
              obtain ⟨x, hx⟩ : ∃ x, (tabs)[m]'hmt = x := ⟨_, rfl⟩
              have hown := Rp.own_form HL.out.all (by intro e; rw [e] at hmt; simp at hmt)
              obtain ⟨g, cap, hv, hwg, hgl, -, -⟩ := hown
              injection hv with e1 e2 e3
              subst e1
              clear e2 e3
              have HL5 := Lib.hid (HL.out.later hb5)
              have HTB := Lib.hid htab.1
              have hal := HL5.out.all
              obtain ⟨Ap, cp, a0, a1, a2, ar, -, -⟩ := tabOwn_at hal hmt
              have hgl5 : g < w5.heap.size := Nat.lt_of_lt_of_le hgl hb5.size
              rw [hx] at a0 a1 a2 ar HTB ⊢
              have HAR := Lib.hid ar
              have HX := Lib.hid hx
              clear ar hal htab hb5 hx
              go_wp2_with fail
              go_region_with (go_at_call 12; refine (tabSame_any x x _ _ A5 Ap c5 cp _ (Rp.sl_below HTB.out (by repeat first | exact Below.refl _ _ | refine bel ?_ _ | refine belDrew ?_)) (Rp.sl_below HAR.out (by repeat first | exact Below.refl _ _ | refine bel ?_ _ | refine belDrew ?_))).mono ?_; rintro e w6 ⟨rfl, hb6⟩; rw [decide_eq_true (rfl : x = x)])
              all_goals
                have HL6 := Lib.hid (HL5.out.later (belTrans (by repeat first | exact Below.refl _ _ | refine bel ?_ _ | refine belDrew ?_) hb6))
                clear hb6 a0 a1 a2
                go_wp2
                go_roundw
                case rel => exact ⟨m + 1, by omega, by go_num, HL6⟩
                case measure => simp [intOf]; omega
            · go_wp2
              go_roundw
              case rel => exact ⟨k + 1, by go_num, vt2, tabs, nr + 1, HL.out, by omega, by have := HSUM.out; omega, HOK.out⟩
              case measure => simp [intOf]; omega
        · rw [hpf] at hq
          obtain ⟨rfl, hn16, htok⟩ := pubF_ok hpf
          obtain ⟨rfl, vt2, hl2⟩ := HLAW.out.publish hq
          have HL2 := Lib.hid hl2
          have HTOK := Lib.hid htok
          have HOK := Lib.hid (tabs_add HOK0.out htok)
          have hlen : (tabs ++ [t]).length = tabs.length + 1 := by simp
          have HLEN := Lib.hid hlen
          have hlt2 : tabs.length < (tabs ++ [t]).length := by omega
          have hgt : (tabs ++ [t])[tabs.length]'hlt2 = t := by simp
          have HGT := Lib.hid hgt
          have hcap := htok.cap
          have hwit := at_in (Im b vt2 (.slice Aa tabs.length ca)) b names vt2 (tabs ++ [t]) nr tabs.length (((tabs.length + 1 : Nat) : Int)) w2 hl2.ps.plane hlt2 (by omega) (by rw [hgt]; exact hcap)
          rw [hgt] at hwit
          have HWIT := Lib.hid hwit
          clear hq hpf hl2 hc hsum htok hlen hgt hwit
          go_wp2_with fail
          refine HWIT.out.mono ?_
          rintro e w3 ⟨vr, rfl, htab, hb3⟩
          obtain ⟨A3, c3, rfl, -, -, -⟩ := htab.1
          have HL3 := Lib.hid (HL2.out.later hb3)
          have HTAB := Lib.hid htab
          have HB3 := Lib.hid hb3
          clear htab hb3 HWIT
          have hv1 : (t.version != (tabs.length : Int) + 1) = false := by rw [bne_eq_false_iff_eq]; have := HTOK.out.version; omega
          have i1 : IntKind.i64.wrap ((tabs.length : Int) + 1) = (tabs.length : Int) + 1 := IntWalk.i64_in _ (by omega)
          go_wp2_with fail
          refine (whole_ok t names _ Sn A3 An c3 cn _ (Rp.sl_below HTAB.out.1 (by repeat first | exact Below.refl _ _ | refine bel ?_ _ | refine belDrew ?_)) HTAB.out.2.1 (Rp.sl_below HN.out (belTrans HL3.out.below (by repeat first | exact Below.refl _ _ | refine bel ?_ _ | refine belDrew ?_))) (by have := HTOK.out.version; omega) (by have := HTOK.out.version; omega) HTOK.out.err HTOK.out.desc).mono ?_
          rintro e w4 ⟨rfl, hb4⟩
          have hB4 : Below w3.heap.size w3 w4 := belTrans (bel (Below.refl _ _) _) hb4
          have HL4 := Lib.hid (HL3.out.later hB4)
          have hlt4 : w3.heap.size < w4.heap.size := by have := hb4.size; simp at this; omega
          have q0 : w4.cell? ⟨w3.heap.size, 0, none⟩ = some (.int .i64 t.version) := (hb4.cell (p := ⟨w3.heap.size, 0, none⟩) (by simp)).trans (by go_simp)
          have q1 : w4.cell? ⟨w3.heap.size, 1, none⟩ = some (.slice A3 t.rules.length c3) := (hb4.cell (p := ⟨w3.heap.size, 1, none⟩) (by simp)).trans (by go_simp)
          have q2 : w4.cell? ⟨w3.heap.size, 2, none⟩ = some (.string t.format) := (hb4.cell (p := ⟨w3.heap.size, 2, none⟩) (by simp)).trans (by go_simp)
          have HTA4 : Hid (TabAt w4 (fun k => (Im b vt2 (.slice Aa tabs.length ca) k ∧ k < w2.heap.size) ∨ (w2.heap.size ≤ k ∧ k < w4.heap.size)) (.slice A3 t.rules.length c3) t) := ⟨Rp.sl_mono (Rp.sl_below HTAB.out.1 hB4) fun k hk _ => by
            rcases hk with h | h
            · exact .inl h
            · exact .inr ⟨h.1, Nat.lt_of_lt_of_le h.2 hB4.size⟩, HTAB.out.2⟩
          have hw24 : w2.heap.size ≤ w4.heap.size := Nat.le_trans HB3.out.size hB4.size
          clear hb4 hB4
          obtain ⟨inner, hown, hrel⟩ := HL4.out.all
          have HOWN := Lib.hid hown
          have HREL := Lib.hid hrel
          clear hown hrel
          have hwl : w.heap.size ≤ w4.heap.size := HL4.out.below.size
          obtain ⟨i0, hi0, hz0, hz1, hz2⟩ := info_parts3 infoTab
          go_wp2_with (at_builtin; refine wpList_append_own_at _ rfl (.tmp 77) (.tmp 79) 26 rfl w.heap.size 32 i0 _ 3 48 Tryz.underlying26 hi0 hz0 hz1 hz2 rfl (by decide) (.slice Aa tabs.length ca) tabs.length inner rfl (HOWN.out.alloc _) ⟨w4.heap.size, 0, none⟩ 1 1 [.int .i64 t.version, .slice A3 t.rules.length c3, .string t.format] rfl rfl (by exact World.news_of_block (cs := #[.int .i64 t.version, .slice A3 t.rules.length c3, .string t.format]) (t := 32) (fr := (0, 0)) (heap_at _ _ _ (by first | rfl | simp))) (by simp [Value.oneCell']) (by unfold maxLen; omega) (by omega) (by simp; omega) ?_; intro v6 w6 hown6 hg6 _ hat6)
          have hl6 := HL4.out.append HM.out HOWN.out HREL.out hw24 HTA4.out (fun g e => (Rp.own_base HL2.out.ps.plane.own g e).2) (fun g e => (Rp.own_base HL2.out.all g e).2) HL2.out.ps.plane.lt (bel (Below.refl _ _) _) hg6 hown6 hat6
          obtain ⟨A6, c6, rfl, -, -⟩ := Rp.own_slice hl6.all
          have HLAW2 := Lib.hid hl6
          have hfew2 : (tabs ++ [t]).length ≤ 16 := by have := HLEN.out; omega
          obtain ⟨ts, hts⟩ : ∃ ts, tabs ++ [t] = ts := ⟨_, rfl⟩
          have HTS := Lib.hid hts
          clear hl6 hown6 hg6 hat6 q0 q1 q2 hv1 i1
          rw [hts] at HLAW2 HOK HLEN hfew2 ⊢
          clear hts
          go_loopw [12] (fun j wq => ∃ m : Nat, m ≤ (ts).length ∧ j = .int .i64 m ∧ Hid (Law w wq b names vt2 (.slice A6 ts.length c6) (ts) (ts) (nr))) (fun j _ => (ts).length - (intOf j).toNat)
          case atStart => exact ⟨0, Nat.zero_le _, rfl, HLAW2⟩
          case round =>
            obtain ⟨m, hm2, rfl, HL⟩ := hrel
            by_cases hmt : m < (ts).length
            · have k0 : (0 : Int) ≤ (m : Int) := by omega
              have k1 : (m : Int) < ((ts).length : Int) := by omega
              have k2 : (m : Int) < 17 := by omega
              go_wp2_with fail
              refine (at_in _ b names vt2 (ts) (nr) m _ wr HL.out.ps.plane hmt rfl (HOK.out m hmt).cap).mono ?_
              rintro e w5 ⟨vr, rfl, htab, hb5⟩
              obtain ⟨A5, c5, rfl, -, -, -⟩ := htab.1
              obtain ⟨x, hx⟩ : ∃ x, (ts)[m]'hmt = x := ⟨_, rfl⟩
              have hown := Rp.own_form HL.out.all (by intro e; rw [e] at hmt; simp at hmt)
              obtain ⟨g, cap, hv, hwg, hgl, -, -⟩ := hown
              injection hv with e1 e2 e3
              subst e1
              clear e2 e3
              have HL5 := Lib.hid (HL.out.later hb5)
              have HTB := Lib.hid htab.1
              have hal := HL5.out.all
              obtain ⟨Ap, cp, a0, a1, a2, ar, -, -⟩ := tabOwn_at hal hmt
              have hgl5 : g < w5.heap.size := Nat.lt_of_lt_of_le hgl hb5.size
              rw [hx] at a0 a1 a2 ar HTB ⊢
              have HAR := Lib.hid ar
              have HX := Lib.hid hx
              clear ar hal htab hb5 hx
              go_wp2_with fail
              go_region_with (go_at_call 12; refine (tabSame_any x x _ _ A5 Ap c5 cp _ (Rp.sl_below HTB.out (by repeat first | exact Below.refl _ _ | refine bel ?_ _ | refine belDrew ?_)) (Rp.sl_below HAR.out (by repeat first | exact Below.refl _ _ | refine bel ?_ _ | refine belDrew ?_))).mono ?_; rintro e w6 ⟨rfl, hb6⟩; rw [decide_eq_true (rfl : x = x)])
              all_goals
                have HL6 := Lib.hid (HL5.out.later (belTrans (by repeat first | exact Below.refl _ _ | refine bel ?_ _ | refine belDrew ?_) hb6))
                clear hb6 a0 a1 a2
                go_wp2
                go_roundw
                case rel => exact ⟨m + 1, by omega, by go_num, HL6⟩
                case measure => simp [intOf]; omega
            · go_wp2
              go_roundw
              case rel => exact ⟨k + 1, by go_num, vt2, ts, nr, HL.out, by omega, by have := HSUM.out; rw [HLEN.out]; omega, HOK.out⟩
              case measure => simp [intOf]; omega
    · have hkl2 : k = l.length := by omega
      have HSUM2 : Hid (tabs.length + nr = l.length) := by rw [← hkl2]; exact HSUM.out
      have v2 := HLAW.out.ps.plane.c2
      have v3 := HLAW.out.ps.plane.c3
      have hs1 : ((tabs.length : Int) + (nr : Int) == (l.length : Int)) = true := by rw [beq_iff_eq]; have := HSUM2.out; omega
      have hs2 : decide ((tabs.length : Int) ≤ 16) = true := decide_eq_true (by omega)
      have hnr : (nr : Int) ≤ 1000 := by have := HSUM2.out; omega
      go_wp2_with (first | (go_at_call 13; refine (versions_any b _ _ v2).mono ?_; rintro e w' ⟨rfl, rfl⟩) | (go_at_call 14; refine (refused_any b _ _ v3).mono ?_; rintro e w' ⟨rfl, rfl⟩) | (go_at_call 7; refine (ctlKnown_any _ HLAW.out.ps.mc).mono ?_; rintro e w9 ⟨rfl, hb9⟩))
      go_ret
      exact ⟨rfl, belTrans HLAW.out.below hb9⟩
end Go.Proofs.YtnbgfpcpfknjoaaGreatDoor
