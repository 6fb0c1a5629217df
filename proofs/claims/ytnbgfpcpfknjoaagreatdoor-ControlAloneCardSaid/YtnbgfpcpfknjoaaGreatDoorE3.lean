/- conf's reader: all lines. -/
import Derived.Test.YtnbgfpcpfknjoaaGreatDoorE2
namespace Go.Proofs.YtnbgfpcpfknjoaaGreatDoor
set_option linter.all false
open Go.RowKit

def kFormat : ByteArray := ⟨#[102, 111, 114, 109, 97, 116]⟩
def kRule : ByteArray := ⟨#[114, 117, 108, 101]⟩
def kEnd : ByteArray := ⟨#[101, 110, 100]⟩
def loopF (lines : List ByteArray) : Nat → Nat → List Rule → Nat × List Rule × Bool
  | 0, at_, rs => (at_, rs, false)
  | n + 1, at_, rs =>
    if (wordF lines at_).1 = kRule then
      match ruleF lines at_ with
      | (a, none) => (a, rs, false)
      | (a, some r) => loopF lines n a (rs ++ [r])
    else if (wordF lines at_).1 = kEnd then
      (if lines.getD at_ empty = kEnd then (at_ + 1, rs, decide (at_ + 1 = lines.length)) else (at_, rs, false))
    else (at_, rs, false)
/-- Where the lines of a reader begin that are no format's, and the format. -/
def headF (lines : List ByteArray) : Nat × ByteArray :=
  if (wordF lines 0).1 = kFormat ∧ (wordF lines 0).2 ≠ empty then (1, (wordF lines 0).2) else (0, empty)
/-- All lines: at which line it ends, the rules, and whether they may be. -/
def readF (lines : List ByteArray) : Nat × List Rule × Bool := loopF lines (lines.length + 1) (headF lines).1 []

/-- The reader at work. -/
structure RS (w wx : World) (b : Nat) (Al : Option Addr) (cl : Nat) (lines : List ByteArray) (at_ : Nat) (vr : Value) (f : ByteArray) (rules : List Rule) : Prop where
  rdr : Rdr wx b (fun k => k < b) Al cl lines at_ vr f
  rr : RR wx b wx.heap.size vr rules
  bb : Below b w wx
  mc : MaxCell wx
  pos : 0 < b
  len : rules.length ≤ at_
theorem RS.below {w wx w1 : World} {b : Nat} {Al : Option Addr} {cl : Nat} {lines : List ByteArray} {at_ : Nat} {vr : Value} {f : ByteArray} {rules : List Rule} (h : RS w wx b Al cl lines at_ vr f rules) (hb : Below wx.heap.size wx w1) : RS w w1 b Al cl lines at_ vr f rules := by
  have hbl := h.rdr.lt
  refine ⟨h.rdr.below hb, ?_, h.bb.trans (hb.mono (by omega)), h.mc.below hb, h.pos, h.len⟩
  exact (h.rr.frame (fun k _ _ hk => hb.block k hk) (fun k hk => (Rp.own_base h.rr k hk).2)).top
theorem RS.next {w wx : World} {b : Nat} {Al : Option Addr} {cl : Nat} {lines : List ByteArray} {at_ : Nat} {vr : Value} {f : ByteArray} {rules : List Rule} (h : RS w wx b Al cl lines at_ vr f rules) (hlt : at_ < lines.length) : RS w (wx.setCell ⟨b, 1, none⟩ (.int .i64 ((at_ + 1 : Nat) : Int))) b Al cl lines (at_ + 1) vr f rules := by
  have hne : ∀ k, b < k → (wx.setCell ⟨b, 1, none⟩ (.int .i64 ((at_ + 1 : Nat) : Int))).heap[k]? = wx.heap[k]? := fun k hk => Below.heap_setCell _ _ _ _ (by show k ≠ b; omega)
  refine ⟨h.rdr.next hlt, ?_, h.bb.setCell (p := ⟨b, 1, none⟩) (Nat.le_refl _) _, h.mc.keep (Below.heap_setCell _ _ _ _ (by have := h.pos; show 0 ≠ b; omega)), h.pos, by have := h.len; omega⟩
  exact (h.rr.frame (fun k hk _ _ => hne k hk) (fun k hk => (Rp.own_base h.rr k hk).2)).top
theorem RS.format {w wx : World} {b : Nat} {Al : Option Addr} {cl : Nat} {lines : List ByteArray} {at_ : Nat} {vr : Value} {f : ByteArray} {rules : List Rule} (h : RS w wx b Al cl lines at_ vr f rules) (g : ByteArray) : RS w (wx.setCell ⟨b, 3, none⟩ (.string g)) b Al cl lines at_ vr g rules := by
  have hr := h.rdr
  have hne : ∀ k, b < k → (wx.setCell ⟨b, 3, none⟩ (.string g)).heap[k]? = wx.heap[k]? := fun k hk => Below.heap_setCell _ _ _ _ (by show k ≠ b; omega)
  refine ⟨⟨(cell_setCell_ne _ (by decide)).trans hr.c0, (cell_setCell_ne _ (by decide)).trans hr.c1, (cell_setCell_ne _ (by decide)).trans hr.c2, cell_setCell_eq _ hr.c3, fun j => (frozen_setCell _ _ _ _).trans (hr.fz j), Rp.sl_frame hr.sl (by simp [World.setCell]) (fun k hk _ => Below.heap_setCell _ _ _ _ (by rintro rfl; exact hr.nS hk)), hr.nS, hr.small, hr.few, hr.atm⟩, ?_, h.bb.setCell (p := ⟨b, 3, none⟩) (Nat.le_refl _) _, h.mc.keep (Below.heap_setCell _ _ _ _ (by have := h.pos; show 0 ≠ b; omega)), h.pos, h.len⟩
  exact (h.rr.frame (fun k hk _ _ => hne k hk) (fun k hk => (Rp.own_base h.rr k hk).2)).top

theorem empty_of_size {s : ByteArray} (h : s.size = 0) : s = empty := by
  apply bytes_ext
  rw [List.eq_nil_of_length_eq_zero (l := s.data.toList) (by rw [Array.length_toList]; exact h)]; rfl
def ReadMu (b : Nat) (lines : List ByteArray) (wx : World) : Nat := lines.length - (match wx.cell? ⟨b, 1, none⟩ with | some v => (intOf v).toNat | none => 0)
theorem ReadMu_lt {b : Nat} {lines : List ByteArray} {wx w' : World} {n m : Nat} (h : wx.cell? ⟨b, 1, none⟩ = some (.int .i64 (n : Int))) (h' : w'.cell? ⟨b, 1, none⟩ = some (.int .i64 (m : Int))) (hlt : n < lines.length) (hnm : n < m) : ReadMu b lines w' < ReadMu b lines wx := by
  unfold ReadMu
  rw [h, h']
  simp [intOf]
  omega
def ReadJ (w : World) (b : Nat) (Al : Option Addr) (cl : Nat) (lines : List ByteArray) (f : ByteArray) (T : Nat × List Rule × Bool) (wx : World) : Prop :=
  ∃ (at_ : Nat) (Ar : Option Addr) (cr : Nat) (rules : List Rule), RS w wx b Al cl lines at_ (.slice Ar rules.length cr) f rules ∧ ∃ fuel, lines.length - at_ < fuel ∧ loopF lines fuel at_ rules = T
def ReadPost (w : World) (b : Nat) (Al : Option Addr) (cl : Nat) (lines : List ByteArray) (f : ByteArray) (o : Nat × List Rule × Bool) (e : Ending) (w' : World) : Prop :=
  e = .returned (.bool o.2.2) ∧ ∃ vr', Rdr w' b (fun k => k < b) Al cl lines o.1 vr' f ∧ Below b w w' ∧ MaxCell w' ∧ (o.2.2 = true → RR w' b w'.heap.size vr' o.2.1)
theorem RS.fail {w wx : World} {b : Nat} {Al : Option Addr} {cl : Nat} {lines : List ByteArray} {at_ : Nat} {vr : Value} {f : ByteArray} {rules rs : List Rule} (h : RS w wx b Al cl lines at_ vr f rules) {o : Nat × List Rule × Bool} (ho : o = (at_, rs, false)) : ReadPost w b Al cl lines f o (.returned (.bool false)) wx := by
  subst ho
  exact ⟨rfl, vr, h.rdr, h.bb, h.mc, fun e => by cases e⟩
theorem RS.done {w wx : World} {b : Nat} {Al : Option Addr} {cl : Nat} {lines : List ByteArray} {at_ : Nat} {vr : Value} {f : ByteArray} {rules : List Rule} {q : Bool} (h : RS w wx b Al cl lines at_ vr f rules) {o : Nat × List Rule × Bool} (ho : o = (at_, rules, q)) : ReadPost w b Al cl lines f o (.returned (.bool q)) wx := by
  subst ho
  exact ⟨rfl, vr, h.rdr, h.bb, h.mc, fun _ => h.rr⟩
theorem rulePost_none {w w' : World} {b : Nat} {Al : Option Addr} {cl : Nat} {lines : List ByteArray} {f : ByteArray} {rules : List Rule} {a : Nat} {e : Ending} (h : RulePost w b Al cl lines f rules (a, none) e w') : e = .returned (.bool false) ∧ ∃ vr', Rdr w' b (fun k => k < b) Al cl lines a vr' f ∧ Below b w w' ∧ MaxCell w' := by
  obtain ⟨vr', h1, h2, h3, h4⟩ := h
  exact ⟨h4, vr', h1, h2, h3⟩
theorem rulePost_some {w w' : World} {b : Nat} {Al : Option Addr} {cl : Nat} {lines : List ByteArray} {f : ByteArray} {rules : List Rule} {a : Nat} {r : Rule} {e : Ending} (h : RulePost w b Al cl lines f rules (a, some r) e w') : e = .returned (.bool true) ∧ ∃ Ar cr, Rdr w' b (fun k => k < b) Al cl lines a (.slice Ar (rules ++ [r]).length cr) f ∧ Below b w w' ∧ MaxCell w' ∧ RR w' b w'.heap.size (.slice Ar (rules ++ [r]).length cr) (rules ++ [r]) := by
  obtain ⟨vr', h1, h2, h3, h4, h5⟩ := h
  obtain ⟨A, c, rfl, _, _⟩ := Rp.own_slice h5
  exact ⟨h4, A, c, h1, h2, h3, h5⟩

set_option maxRecDepth 100000 in
set_option maxHeartbeats 4000000 in
theorem read_any (b : Nat) (Al : Option Addr) (cl : Nat) (lines : List ByteArray) (w : World) (hr : RS w w b Al cl lines 0 (.slice none 0 0) empty []) :
    Calls Tryz.prog 42 #[.pointer (some ⟨b, 0, none⟩)] w (ReadPost w b Al cl lines (headF lines).2 (readF lines)) := by
  obtain ⟨T, hT⟩ : ∃ T, readF lines = T := ⟨_, rfl⟩
  have hfew := hr.rdr.few
  have HS := Lib.hid hr.rdr.small
  have HT := Lib.hid hT
  rw [hT]
  have HR := Lib.hid hr
  clear hr hT
  go_enter Tryz.func42, Tryz.ntmps42
  go_wp2_with fail
  refine (word_any b _ Al cl lines 0 (.slice none 0 0) empty w HR.out.rdr HR.out.mc).mono ?_
  rintro e w1 ⟨rfl, n, hw1⟩
  have HR1 : Hid (RS w w1 b Al cl lines 0 (.slice none 0 0) empty []) := by rw [hw1]; exact HR.out.below (belDrewN (Below.refl _ _) _)
  clear hw1
  have key : ∀ (f : ByteArray) (at_ : Nat) (wy : World), headF lines = (at_, f) → RS w wy b Al cl lines at_ (.slice none 0 0) f [] → Hid (headF lines = (at_, f)) ∧ Hid (ReadJ w b Al cl lines f T wy) := by
    intro f at_ wy hh hs
    refine ⟨hh, at_, none, 0, [], hs, lines.length + 1, by omega, ?_⟩
    have := HT.out
    unfold readF at this
    rwa [hh] at this
  have HK := Lib.hid key
  clear key
  by_cases h1 : (wordF lines 0).1 = kFormat
  · have hlt := word_lt (lines := lines) (at_ := 0) (by rw [h1]; decide)
    by_cases h2 : (wordF lines 0).2 = empty
    · have h1' : ((wordF lines 0).1.toList == [102, 111, 114, 109, 97, 116]) = true := by rw [h1, toList_bs]; rfl
      have h2' : (!(wordF lines 0).2.toList.isEmpty) = false := by rw [h2, isEmpty_toList]; rfl
      have hJ := HK.out empty 0 w1 (by unfold headF; rw [if_neg (fun h => h.2 h2)]) HR1.out
      obtain ⟨HH, HJ⟩ := hJ
      clear h1 h2 HK HR1
      go_wp2_with fail
      rw [HH.out]
      go_loopw [5] (fun _ wr => ReadJ w b Al cl lines empty T wr) (fun _ wr => ReadMu b lines wr)
      case atStart => exact HJ.out
      case round =>
        obtain ⟨at_, Ar, cr, rules, hrs, fuel, hfu, hlp⟩ := hrel
        have HRS := Lib.hid hrs
        have HLP := Lib.hid hlp
        clear hrs hlp HJ
        obtain ⟨fuel, rfl⟩ : ∃ g, fuel = g + 1 := ⟨fuel - 1, by omega⟩
        go_wp2_with fail
        refine (word_any b _ Al cl lines at_ (.slice Ar rules.length cr) empty wr HRS.out.rdr HRS.out.mc).mono ?_
        rintro e w2 ⟨rfl, n2, hw2⟩
        have HR2 : Hid (RS w w2 b Al cl lines at_ (.slice Ar rules.length cr) empty rules) := by rw [hw2]; exact HRS.out.below (belDrewN (Below.refl _ _) _)
        have HC0 := Lib.hid HRS.out.rdr.c1
        clear hw2 HRS
        by_cases hk : (wordF lines at_).1 = kRule
        · have hlt := word_lt (lines := lines) (at_ := at_) (by rw [hk]; decide)
          have hk' : ((wordF lines at_).1.toList == [114, 117, 108, 101]) = true := by rw [hk, toList_bs]; rfl
          have hq0 := ruleF_at hlt
          have hlen := HR2.out.len
          have hc := rule_any b Al cl lines at_ Ar cr empty rules w2 HR2.out.rdr HR2.out.mc HR2.out.rr (by omega) HR2.out.pos hlt
          rcases hq : ruleF lines at_ with ⟨a, _ | r⟩
          · have HT2 : Hid (T = (a, rules, false)) := by have := HLP.out; rw [loopF, if_pos hk, hq] at this; exact this.symm
            rw [hq] at hc
            have HC := Lib.hid hc
            clear hk hq hq0 hc HLP
            go_wp2_with fail
            refine HC.out.mono ?_
            intro e w3 hp
            obtain ⟨rfl, hp2⟩ := rulePost_none hp
            have HP := Lib.hid hp2
            clear hp hp2 HC
            go_wp2
            go_ret
            obtain ⟨vr', g1, g2, g3⟩ := HP.out
            rw [HT2.out]
            exact ⟨rfl, vr', g1, HR2.out.bb.trans g2, g3, fun e => by cases e⟩
          · have HT2 : Hid (loopF lines fuel a (rules ++ [r]) = T) := by have := HLP.out; rw [loopF, if_pos hk, hq] at this; exact this
            rw [hq] at hc hq0
            have ha := hq0.2.2 (by simp)
            have ha2 := hq0.2.1
            dsimp only at ha ha2
            have HC := Lib.hid hc
            clear hk hq hq0 hc HLP
            go_wp2_with fail
            refine HC.out.mono ?_
            intro e w3 hp
            obtain ⟨rfl, Ar3, cr3, g1, g2, g3, g4⟩ := rulePost_some hp
            have HP : Hid (RS w w3 b Al cl lines a (.slice Ar3 (rules ++ [r]).length cr3) empty (rules ++ [r])) := ⟨g1, g4, HR2.out.bb.trans g2, g3, HR2.out.pos, by simp; omega⟩
            clear hp HC g1 g2 g3 g4
            go_wp2
            go_roundw
            case rel => exact ⟨a, Ar3, cr3, _, HP.out, fuel, by omega, HT2.out⟩
            case measure => exact ReadMu_lt HC0.out HP.out.rdr.c1 hlt (by omega)
        · have hk' : ((wordF lines at_).1.toList == [114, 117, 108, 101]) = false := by
            have e1 : kRule.toList = [114, 117, 108, 101] := by rw [toList_bs]; rfl
            rw [← e1]; exact ne_of_toList hk
          by_cases he : (wordF lines at_).1 = kEnd
          · have hlt := word_lt (lines := lines) (at_ := at_) (by rw [he]; decide)
            have he' : ((wordF lines at_).1.toList == [101, 110, 100]) = true := by rw [he, toList_bs]; rfl
            have c0 := HR2.out.rdr.c0
            have c1 := HR2.out.rdr.c1
            have f1 := HR2.out.rdr.fz 1
            obtain ⟨bl, ol, rfl, hc⟩ := strR_at HR2.out.rdr.sl hlt
            have h0 : (0 : Int) ≤ (at_ : Int) := by omega
            have h1 : (at_ : Int) < (lines.length : Int) := by omega
            by_cases hl : lines[at_]'hlt = kEnd
            · have hl' : (!((lines[at_]'hlt).toList == [101, 110, 100])) = false := by rw [hl, toList_bs]; rfl
              have HT2 : Hid (T = (at_ + 1, rules, decide (at_ + 1 = lines.length))) := by have := HLP.out; rw [loopF, if_neg hk, if_pos he, if_pos (by rw [getD_lt hlt]; exact hl)] at this; exact this.symm
              have HQ : Hid ((((at_ : Int) + 1) == (lines.length : Int)) = decide (at_ + 1 = lines.length)) := by
                unfold Hid; rw [Bool.eq_iff_iff, beq_iff_eq, decide_eq_true_iff]; omega
              clear hk he hl HLP
              go_wp2_with fail
              go_quiet (fail)
              go_wp2_with fail
              go_quiet (fail)
              go_wp2
              go_ret
              exact (((HR2.out.below (belDrewN (Below.refl _ _) _)).next hlt).below (belDrewN (Below.refl _ _) _)).done (q := ((at_ : Int) + 1 == (lines.length : Int))) (by rw [HQ.out]; exact HT2.out)
            · have hl' : (!((lines[at_]'hlt).toList == [101, 110, 100])) = true := by
                have e1 : kEnd.toList = [101, 110, 100] := by rw [toList_bs]; rfl
                rw [← e1, ne_of_toList hl]; rfl
              have HT2 : Hid (T = (at_, rules, false)) := by have := HLP.out; rw [loopF, if_neg hk, if_pos he, if_neg (by rw [getD_lt hlt]; exact hl)] at this; exact this.symm
              clear hk he hl HLP
              go_wp2_with fail
              go_quiet (fail)
              go_wp2
              go_ret
              exact (HR2.out.below (belDrewN (Below.refl _ _) _)).fail HT2.out
          · have he' : ((wordF lines at_).1.toList == [101, 110, 100]) = false := by
              have e1 : kEnd.toList = [101, 110, 100] := by rw [toList_bs]; rfl
              rw [← e1]; exact ne_of_toList he
            have HT2 : Hid (T = (at_, rules, false)) := by have := HLP.out; rw [loopF, if_neg hk, if_neg he] at this; exact this.symm
            clear hk he HLP
            go_wp2
            go_ret
            exact HR2.out.fail HT2.out
    · have h1' : ((wordF lines 0).1.toList == [102, 111, 114, 109, 97, 116]) = true := by rw [h1, toList_bs]; rfl
      have h2' : (!(wordF lines 0).2.toList.isEmpty) = true := by rw [isEmpty_toList, Bool.not_eq_true', decide_eq_false_iff_not]; exact fun h => h2 (empty_of_size h)
      have hJ := HK.out (wordF lines 0).2 1 ((w1.setCell ⟨b, 3, none⟩ (.string (wordF lines 0).2)).setCell ⟨b, 1, none⟩ (.int .i64 ((0 + 1 : Nat) : Int))) (by unfold headF; rw [if_pos ⟨h1, h2⟩]) ((HR1.out.format _).next hlt)
      obtain ⟨HH, HJ⟩ := hJ
      have c1 := HR1.out.rdr.c1
      have f1 := HR1.out.rdr.fz 1
      have c3 := HR1.out.rdr.c3
      have f3 := HR1.out.rdr.fz 3
      clear h1 h2 HK HR1
      go_wp2_with fail
      rw [HH.out]
      go_loopw [5] (fun _ wr => ReadJ w b Al cl lines (wordF lines 0).2 T wr) (fun _ wr => ReadMu b lines wr)
      case atStart => exact HJ.out
      case round =>
        obtain ⟨at_, Ar, cr, rules, hrs, fuel, hfu, hlp⟩ := hrel
        have HRS := Lib.hid hrs
        have HLP := Lib.hid hlp
        clear hrs hlp HJ
        obtain ⟨fuel, rfl⟩ : ∃ g, fuel = g + 1 := ⟨fuel - 1, by omega⟩
        go_wp2_with fail
        refine (word_any b _ Al cl lines at_ (.slice Ar rules.length cr) (wordF lines 0).2 wr HRS.out.rdr HRS.out.mc).mono ?_
        rintro e w2 ⟨rfl, n2, hw2⟩
        have HR2 : Hid (RS w w2 b Al cl lines at_ (.slice Ar rules.length cr) (wordF lines 0).2 rules) := by rw [hw2]; exact HRS.out.below (belDrewN (Below.refl _ _) _)
        have HC0 := Lib.hid HRS.out.rdr.c1
        clear hw2 HRS
        by_cases hk : (wordF lines at_).1 = kRule
        · have hlt := word_lt (lines := lines) (at_ := at_) (by rw [hk]; decide)
          have hk' : ((wordF lines at_).1.toList == [114, 117, 108, 101]) = true := by rw [hk, toList_bs]; rfl
          have hq0 := ruleF_at hlt
          have hlen := HR2.out.len
          have hc := rule_any b Al cl lines at_ Ar cr (wordF lines 0).2 rules w2 HR2.out.rdr HR2.out.mc HR2.out.rr (by omega) HR2.out.pos hlt
          rcases hq : ruleF lines at_ with ⟨a, _ | r⟩
          · have HT2 : Hid (T = (a, rules, false)) := by have := HLP.out; rw [loopF, if_pos hk, hq] at this; exact this.symm
            rw [hq] at hc
            have HC := Lib.hid hc
            clear hk hq hq0 hc HLP
            go_wp2_with fail
            refine HC.out.mono ?_
            intro e w3 hp
            obtain ⟨rfl, hp2⟩ := rulePost_none hp
            have HP := Lib.hid hp2
            clear hp hp2 HC
            go_wp2
            go_ret
            obtain ⟨vr', g1, g2, g3⟩ := HP.out
            rw [HT2.out]
            exact ⟨rfl, vr', g1, HR2.out.bb.trans g2, g3, fun e => by cases e⟩
          · have HT2 : Hid (loopF lines fuel a (rules ++ [r]) = T) := by have := HLP.out; rw [loopF, if_pos hk, hq] at this; exact this
            rw [hq] at hc hq0
            have ha := hq0.2.2 (by simp)
            have ha2 := hq0.2.1
            dsimp only at ha ha2
            have HC := Lib.hid hc
            clear hk hq hq0 hc HLP
            go_wp2_with fail
            refine HC.out.mono ?_
            intro e w3 hp
            obtain ⟨rfl, Ar3, cr3, g1, g2, g3, g4⟩ := rulePost_some hp
            have HP : Hid (RS w w3 b Al cl lines a (.slice Ar3 (rules ++ [r]).length cr3) (wordF lines 0).2 (rules ++ [r])) := ⟨g1, g4, HR2.out.bb.trans g2, g3, HR2.out.pos, by simp; omega⟩
            clear hp HC g1 g2 g3 g4
            go_wp2
            go_roundw
            case rel => exact ⟨a, Ar3, cr3, _, HP.out, fuel, by omega, HT2.out⟩
            case measure => exact ReadMu_lt HC0.out HP.out.rdr.c1 hlt (by omega)
        · have hk' : ((wordF lines at_).1.toList == [114, 117, 108, 101]) = false := by
            have e1 : kRule.toList = [114, 117, 108, 101] := by rw [toList_bs]; rfl
            rw [← e1]; exact ne_of_toList hk
          by_cases he : (wordF lines at_).1 = kEnd
          · have hlt := word_lt (lines := lines) (at_ := at_) (by rw [he]; decide)
            have he' : ((wordF lines at_).1.toList == [101, 110, 100]) = true := by rw [he, toList_bs]; rfl
            have c0 := HR2.out.rdr.c0
            have c1 := HR2.out.rdr.c1
            have f1 := HR2.out.rdr.fz 1
            obtain ⟨bl, ol, rfl, hc⟩ := strR_at HR2.out.rdr.sl hlt
            have h0 : (0 : Int) ≤ (at_ : Int) := by omega
            have h1 : (at_ : Int) < (lines.length : Int) := by omega
            by_cases hl : lines[at_]'hlt = kEnd
            · have hl' : (!((lines[at_]'hlt).toList == [101, 110, 100])) = false := by rw [hl, toList_bs]; rfl
              have HT2 : Hid (T = (at_ + 1, rules, decide (at_ + 1 = lines.length))) := by have := HLP.out; rw [loopF, if_neg hk, if_pos he, if_pos (by rw [getD_lt hlt]; exact hl)] at this; exact this.symm
              have HQ : Hid ((((at_ : Int) + 1) == (lines.length : Int)) = decide (at_ + 1 = lines.length)) := by
                unfold Hid; rw [Bool.eq_iff_iff, beq_iff_eq, decide_eq_true_iff]; omega
              clear hk he hl HLP
              go_wp2_with fail
              go_quiet (fail)
              go_wp2_with fail
              go_quiet (fail)
              go_wp2
              go_ret
              exact (((HR2.out.below (belDrewN (Below.refl _ _) _)).next hlt).below (belDrewN (Below.refl _ _) _)).done (q := ((at_ : Int) + 1 == (lines.length : Int))) (by rw [HQ.out]; exact HT2.out)
            · have hl' : (!((lines[at_]'hlt).toList == [101, 110, 100])) = true := by
                have e1 : kEnd.toList = [101, 110, 100] := by rw [toList_bs]; rfl
                rw [← e1, ne_of_toList hl]; rfl
              have HT2 : Hid (T = (at_, rules, false)) := by have := HLP.out; rw [loopF, if_neg hk, if_pos he, if_neg (by rw [getD_lt hlt]; exact hl)] at this; exact this.symm
              clear hk he hl HLP
              go_wp2_with fail
              go_quiet (fail)
              go_wp2
              go_ret
              exact (HR2.out.below (belDrewN (Below.refl _ _) _)).fail HT2.out
          · have he' : ((wordF lines at_).1.toList == [101, 110, 100]) = false := by
              have e1 : kEnd.toList = [101, 110, 100] := by rw [toList_bs]; rfl
              rw [← e1]; exact ne_of_toList he
            have HT2 : Hid (T = (at_, rules, false)) := by have := HLP.out; rw [loopF, if_neg hk, if_neg he] at this; exact this.symm
            clear hk he HLP
            go_wp2
            go_ret
            exact HR2.out.fail HT2.out
  · have h1' : ((wordF lines 0).1.toList == [102, 111, 114, 109, 97, 116]) = false := by
      have e1 : kFormat.toList = [102, 111, 114, 109, 97, 116] := by rw [toList_bs]; rfl
      rw [← e1]; exact ne_of_toList h1
    have hJ := HK.out empty 0 w1 (by unfold headF; rw [if_neg (fun h => h1 h.1)]) HR1.out
    obtain ⟨HH, HJ⟩ := hJ
    clear h1 HK HR1
    go_wp2_with fail
    rw [HH.out]
    go_loopw [5] (fun _ wr => ReadJ w b Al cl lines empty T wr) (fun _ wr => ReadMu b lines wr)
    case atStart => exact HJ.out
    case round =>
      obtain ⟨at_, Ar, cr, rules, hrs, fuel, hfu, hlp⟩ := hrel
      have HRS := Lib.hid hrs
      have HLP := Lib.hid hlp
      clear hrs hlp HJ
      obtain ⟨fuel, rfl⟩ : ∃ g, fuel = g + 1 := ⟨fuel - 1, by omega⟩
      go_wp2_with fail
      refine (word_any b _ Al cl lines at_ (.slice Ar rules.length cr) empty wr HRS.out.rdr HRS.out.mc).mono ?_
      rintro e w2 ⟨rfl, n2, hw2⟩
      have HR2 : Hid (RS w w2 b Al cl lines at_ (.slice Ar rules.length cr) empty rules) := by rw [hw2]; exact HRS.out.below (belDrewN (Below.refl _ _) _)
      have HC0 := Lib.hid HRS.out.rdr.c1
      clear hw2 HRS
      by_cases hk : (wordF lines at_).1 = kRule
      · have hlt := word_lt (lines := lines) (at_ := at_) (by rw [hk]; decide)
        have hk' : ((wordF lines at_).1.toList == [114, 117, 108, 101]) = true := by rw [hk, toList_bs]; rfl
        have hq0 := ruleF_at hlt
        have hlen := HR2.out.len
        have hc := rule_any b Al cl lines at_ Ar cr empty rules w2 HR2.out.rdr HR2.out.mc HR2.out.rr (by omega) HR2.out.pos hlt
        rcases hq : ruleF lines at_ with ⟨a, _ | r⟩
        · have HT2 : Hid (T = (a, rules, false)) := by have := HLP.out; rw [loopF, if_pos hk, hq] at this; exact this.symm
          rw [hq] at hc
          have HC := Lib.hid hc
          clear hk hq hq0 hc HLP
          go_wp2_with fail
          refine HC.out.mono ?_
          intro e w3 hp
          obtain ⟨rfl, hp2⟩ := rulePost_none hp
          have HP := Lib.hid hp2
          clear hp hp2 HC
          go_wp2
          go_ret
          obtain ⟨vr', g1, g2, g3⟩ := HP.out
          rw [HT2.out]
          exact ⟨rfl, vr', g1, HR2.out.bb.trans g2, g3, fun e => by cases e⟩
        · have HT2 : Hid (loopF lines fuel a (rules ++ [r]) = T) := by have := HLP.out; rw [loopF, if_pos hk, hq] at this; exact this
          rw [hq] at hc hq0
          have ha := hq0.2.2 (by simp)
          have ha2 := hq0.2.1
          dsimp only at ha ha2
          have HC := Lib.hid hc
          clear hk hq hq0 hc HLP
          go_wp2_with fail
          refine HC.out.mono ?_
          intro e w3 hp
          obtain ⟨rfl, Ar3, cr3, g1, g2, g3, g4⟩ := rulePost_some hp
          have HP : Hid (RS w w3 b Al cl lines a (.slice Ar3 (rules ++ [r]).length cr3) empty (rules ++ [r])) := ⟨g1, g4, HR2.out.bb.trans g2, g3, HR2.out.pos, by simp; omega⟩
          clear hp HC g1 g2 g3 g4
          go_wp2
          go_roundw
          case rel => exact ⟨a, Ar3, cr3, _, HP.out, fuel, by omega, HT2.out⟩
          case measure => exact ReadMu_lt HC0.out HP.out.rdr.c1 hlt (by omega)
      · have hk' : ((wordF lines at_).1.toList == [114, 117, 108, 101]) = false := by
          have e1 : kRule.toList = [114, 117, 108, 101] := by rw [toList_bs]; rfl
          rw [← e1]; exact ne_of_toList hk
        by_cases he : (wordF lines at_).1 = kEnd
        · have hlt := word_lt (lines := lines) (at_ := at_) (by rw [he]; decide)
          have he' : ((wordF lines at_).1.toList == [101, 110, 100]) = true := by rw [he, toList_bs]; rfl
          have c0 := HR2.out.rdr.c0
          have c1 := HR2.out.rdr.c1
          have f1 := HR2.out.rdr.fz 1
          obtain ⟨bl, ol, rfl, hc⟩ := strR_at HR2.out.rdr.sl hlt
          have h0 : (0 : Int) ≤ (at_ : Int) := by omega
          have h1 : (at_ : Int) < (lines.length : Int) := by omega
          by_cases hl : lines[at_]'hlt = kEnd
          · have hl' : (!((lines[at_]'hlt).toList == [101, 110, 100])) = false := by rw [hl, toList_bs]; rfl
            have HT2 : Hid (T = (at_ + 1, rules, decide (at_ + 1 = lines.length))) := by have := HLP.out; rw [loopF, if_neg hk, if_pos he, if_pos (by rw [getD_lt hlt]; exact hl)] at this; exact this.symm
            have HQ : Hid ((((at_ : Int) + 1) == (lines.length : Int)) = decide (at_ + 1 = lines.length)) := by
              unfold Hid; rw [Bool.eq_iff_iff, beq_iff_eq, decide_eq_true_iff]; omega
            clear hk he hl HLP
            go_wp2_with fail
            go_quiet (fail)
            go_wp2_with fail
            go_quiet (fail)
            go_wp2
            go_ret
            exact (((HR2.out.below (belDrewN (Below.refl _ _) _)).next hlt).below (belDrewN (Below.refl _ _) _)).done (q := ((at_ : Int) + 1 == (lines.length : Int))) (by rw [HQ.out]; exact HT2.out)
          · have hl' : (!((lines[at_]'hlt).toList == [101, 110, 100])) = true := by
              have e1 : kEnd.toList = [101, 110, 100] := by rw [toList_bs]; rfl
              rw [← e1, ne_of_toList hl]; rfl
            have HT2 : Hid (T = (at_, rules, false)) := by have := HLP.out; rw [loopF, if_neg hk, if_pos he, if_neg (by rw [getD_lt hlt]; exact hl)] at this; exact this.symm
            clear hk he hl HLP
            go_wp2_with fail
            go_quiet (fail)
            go_wp2
            go_ret
            exact (HR2.out.below (belDrewN (Below.refl _ _) _)).fail HT2.out
        · have he' : ((wordF lines at_).1.toList == [101, 110, 100]) = false := by
            have e1 : kEnd.toList = [101, 110, 100] := by rw [toList_bs]; rfl
            rw [← e1]; exact ne_of_toList he
          have HT2 : Hid (T = (at_, rules, false)) := by have := HLP.out; rw [loopF, if_neg hk, if_neg he] at this; exact this.symm
          clear hk he HLP
          go_wp2
          go_ret
          exact HR2.out.fail HT2.out
end Go.Proofs.YtnbgfpcpfknjoaaGreatDoor
