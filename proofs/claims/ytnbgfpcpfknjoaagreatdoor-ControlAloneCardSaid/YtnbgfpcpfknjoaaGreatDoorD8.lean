/- conf's reader: what a line tells, by definition; the contracts of pred and option in one. -/
import Derived.Test.YtnbgfpcpfknjoaaGreatDoorD5
import Derived.Test.YtnbgfpcpfknjoaaGreatDoorD6
import Derived.Test.YtnbgfpcpfknjoaaGreatDoorD7
namespace Go.Proofs.YtnbgfpcpfknjoaaGreatDoor
set_option linter.all false
open Go.RowKit

def kMethod : ByteArray := ⟨#[109, 101, 116, 104, 111, 100]⟩
def kHost : ByteArray := ⟨#[104, 111, 115, 116]⟩
def kExact : ByteArray := ⟨#[101, 120, 97, 99, 116]⟩
def kPrefix : ByteArray := ⟨#[112, 114, 101, 102, 105, 120]⟩
def kHead : ByteArray := ⟨#[104, 101, 97, 100]⟩
def kHas : ByteArray := ⟨#[104, 97, 115]⟩
def kAbort : ByteArray := ⟨#[97, 98, 111, 114, 116]⟩
def kDelay : ByteArray := ⟨#[100, 101, 108, 97, 121]⟩
def kMirror : ByteArray := ⟨#[109, 105, 114, 114, 111, 114]⟩
def kSample : ByteArray := ⟨#[115, 97, 109, 112, 108, 101]⟩

/-- The predicate of a line. -/
def predF (lines : List ByteArray) (at_ : Nat) : Option Pred :=
  let first := (wordF lines at_).1
  let rest := (wordF lines at_).2
  if first = kMethod then (if singleF (lines.getD at_ empty) rest = true then some ⟨1, empty, rest⟩ else none)
  else if first = kHost then (if singleF (lines.getD at_ empty) rest = true then some ⟨2, empty, rest⟩ else none)
  else if first = kExact then (if singleF (lines.getD at_ empty) rest = true then some ⟨3, empty, rest⟩ else none)
  else if first = kPrefix then (if singleF (lines.getD at_ empty) rest = true then some ⟨4, empty, rest⟩ else none)
  else if first = kHead then (if (cutS rest).2.2 = true then some ⟨5, (cutS rest).1, (cutS rest).2.1⟩ else none)
  else if first = kHas then (if singleF (lines.getD at_ empty) rest = true then some ⟨6, rest, empty⟩ else none)
  else none
/-- What a line behind the target tells: which of the four (0: none), whether it may be, the rule then. -/
def optF (r : Rule) (lines : List ByteArray) (at_ : Nat) : Nat × Bool × Rule :=
  let first := (wordF lines at_).1
  let rest := (wordF lines at_).2
  if first = kAbort then (match pairF rest with | some (x, y) => (1, true, { r with abortPct := x, abortStatus := y }) | none => (1, false, r))
  else if first = kDelay then (match pairF rest with | some (x, y) => (2, true, { r with delayPct := x, delayTicks := y }) | none => (2, false, r))
  else if first = kMirror then (if (twoF rest).2.2 = true then (3, true, { r with mirrorPct := (twoF rest).1, mirror := (twoF rest).2.1 }) else (3, false, r))
  else if first = kSample then (4, (numF rest).2, { r with sample := (numF rest).1 })
  else (0, false, r)

theorem word_lt {lines : List ByteArray} {at_ : Nat} (h : (wordF lines at_).1 ≠ empty) : at_ < lines.length := by
  by_cases hlt : at_ < lines.length
  · exact hlt
  · exact absurd (by unfold wordF; rw [dif_neg hlt]) h
theorem getD_lt {lines : List ByteArray} {at_ : Nat} (h : at_ < lines.length) : lines.getD at_ empty = lines[at_]'h := by
  rw [List.getD_eq_getElem?_getD, List.getElem?_eq_getElem h]; rfl
theorem ne_of_toList {a b : ByteArray} (h : a ≠ b) : (a.toList == b.toList) = false := by rw [toList_beq]; exact decide_eq_false h

def PredPost (bx : Nat) (r : Rule) (o : Option Pred) (w : World) (e : Ending) (w' : World) : Prop :=
  match o with
  | some p => e = .returned (.bool true) ∧ NewPred bx r p w w'
  | none => e = .returned (.bool false) ∧ Below w.heap.size w w'
theorem predR_any (b bx : Nat) (Al : Option Addr) (cl : Nat) (lines : List ByteArray) (at_ : Nat) (vr : Value) (f : ByteArray) (r : Rule) (v : Value) (w : World) (hr : Rdr w b (fun k => k < b) Al cl lines at_ vr f) (hm : MaxCell w) (hx : XR w bx r v) (ho : PR w bx v r.preds) (hbx : b < bx) (hfew : r.preds.length ≤ 5000) :
    Calls Tryz.prog 89 #[.pointer (some ⟨b, 0, none⟩), .pointer (some ⟨bx, 0, none⟩)] w (PredPost bx r (predF lines at_) w) := by
  unfold predF
  by_cases h1 : (wordF lines at_).1 = kMethod
  · have hlt := word_lt (lines := lines) (at_ := at_) (by rw [h1]; decide)
    simp only [if_pos h1, getD_lt hlt]
    cases hs : singleF (lines[at_]'hlt) (wordF lines at_).2
    · exact pred_n1 b bx Al cl lines at_ vr f r v w hr hm hx ho hbx hfew hlt h1 hs
    · exact pred_y1 b bx Al cl lines at_ vr f r v w hr hm hx ho hbx hfew hlt h1 hs
  by_cases h2 : (wordF lines at_).1 = kHost
  · have hlt := word_lt (lines := lines) (at_ := at_) (by rw [h2]; decide)
    simp only [if_neg h1, if_pos h2, getD_lt hlt]
    cases hs : singleF (lines[at_]'hlt) (wordF lines at_).2
    · exact pred_n2 b bx Al cl lines at_ vr f r v w hr hm hx ho hbx hfew hlt h2 hs
    · exact pred_y2 b bx Al cl lines at_ vr f r v w hr hm hx ho hbx hfew hlt h2 hs
  by_cases h3 : (wordF lines at_).1 = kExact
  · have hlt := word_lt (lines := lines) (at_ := at_) (by rw [h3]; decide)
    simp only [if_neg h1, if_neg h2, if_pos h3, getD_lt hlt]
    cases hs : singleF (lines[at_]'hlt) (wordF lines at_).2
    · exact pred_n3 b bx Al cl lines at_ vr f r v w hr hm hx ho hbx hfew hlt h3 hs
    · exact pred_y3 b bx Al cl lines at_ vr f r v w hr hm hx ho hbx hfew hlt h3 hs
  by_cases h4 : (wordF lines at_).1 = kPrefix
  · have hlt := word_lt (lines := lines) (at_ := at_) (by rw [h4]; decide)
    simp only [if_neg h1, if_neg h2, if_neg h3, if_pos h4, getD_lt hlt]
    cases hs : singleF (lines[at_]'hlt) (wordF lines at_).2
    · exact pred_n4 b bx Al cl lines at_ vr f r v w hr hm hx ho hbx hfew hlt h4 hs
    · exact pred_y4 b bx Al cl lines at_ vr f r v w hr hm hx ho hbx hfew hlt h4 hs
  by_cases h5 : (wordF lines at_).1 = kHead
  · have hlt := word_lt (lines := lines) (at_ := at_) (by rw [h5]; decide)
    simp only [if_neg h1, if_neg h2, if_neg h3, if_neg h4, if_pos h5]
    cases hs : (cutS (wordF lines at_).2).2.2
    · exact pred_n5 b bx Al cl lines at_ vr f r v w hr hm hx ho hbx hfew hlt h5 hs
    · exact pred_y5 b bx Al cl lines at_ vr f r v w hr hm hx ho hbx hfew hlt h5 hs
  by_cases h6 : (wordF lines at_).1 = kHas
  · have hlt := word_lt (lines := lines) (at_ := at_) (by rw [h6]; decide)
    simp only [if_neg h1, if_neg h2, if_neg h3, if_neg h4, if_neg h5, if_pos h6, getD_lt hlt]
    cases hs : singleF (lines[at_]'hlt) (wordF lines at_).2
    · exact pred_n6 b bx Al cl lines at_ vr f r v w hr hm hx ho hbx hfew hlt h6 hs
    · exact pred_y6 b bx Al cl lines at_ vr f r v w hr hm hx ho hbx hfew hlt h6 hs
  · simp only [if_neg h1, if_neg h2, if_neg h3, if_neg h4, if_neg h5, if_neg h6]
    refine pred_none b bx Al cl lines at_ vr f r v w hr hm hx ho hbx hfew ?_
    have e1 : kMethod.toList = [109, 101, 116, 104, 111, 100] := by rw [toList_bs]; rfl
    have e2 : kHost.toList = [104, 111, 115, 116] := by rw [toList_bs]; rfl
    have e3 : kExact.toList = [101, 120, 97, 99, 116] := by rw [toList_bs]; rfl
    have e4 : kPrefix.toList = [112, 114, 101, 102, 105, 120] := by rw [toList_bs]; rfl
    have e5 : kHead.toList = [104, 101, 97, 100] := by rw [toList_bs]; rfl
    have e6 : kHas.toList = [104, 97, 115] := by rw [toList_bs]; rfl
    intro u hu
    simp only [List.mem_cons, List.not_mem_nil, or_false] at hu
    rcases hu with rfl | rfl | rfl | rfl | rfl | rfl
    · rw [← e1]; exact ne_of_toList (Ne.symm h1)
    · rw [← e2]; exact ne_of_toList (Ne.symm h2)
    · rw [← e3]; exact ne_of_toList (Ne.symm h3)
    · rw [← e4]; exact ne_of_toList (Ne.symm h4)
    · rw [← e5]; exact ne_of_toList (Ne.symm h5)
    · rw [← e6]; exact ne_of_toList (Ne.symm h6)

theorem optR_any (b bx : Nat) (Al : Option Addr) (cl : Nat) (lines : List ByteArray) (at_ : Nat) (vr : Value) (f : ByteArray) (r : Rule) (v : Value) (w : World) (hr : Rdr w b (fun k => k < b) Al cl lines at_ vr f) (hm : MaxCell w) (hx : XR w bx r v) (hbx : b < bx) :
    Calls Tryz.prog 91 #[.pointer (some ⟨b, 0, none⟩), .pointer (some ⟨bx, 0, none⟩)] w fun e w' => e = .returned (.tuple #[.int .i64 (optF r lines at_).1, .bool (optF r lines at_).2.1]) ∧ Opt w w' bx (optF r lines at_).2.2 v := by
  unfold optF
  by_cases h1 : (wordF lines at_).1 = kAbort
  · have hlt := word_lt (lines := lines) (at_ := at_) (by rw [h1]; decide)
    simp only [if_pos h1]
    cases hs : pairF (wordF lines at_).2 with
    | none => exact opt_abort_n b bx Al cl lines at_ vr f r v w hr hm hx hbx hlt h1 hs
    | some p => obtain ⟨x, y⟩ := p; exact opt_abort_y b bx Al cl lines at_ vr f r v w hr hm hx hbx hlt h1 x y hs
  by_cases h2 : (wordF lines at_).1 = kDelay
  · have hlt := word_lt (lines := lines) (at_ := at_) (by rw [h2]; decide)
    simp only [if_neg h1, if_pos h2]
    cases hs : pairF (wordF lines at_).2 with
    | none => exact opt_delay_n b bx Al cl lines at_ vr f r v w hr hm hx hbx hlt h2 hs
    | some p => obtain ⟨x, y⟩ := p; exact opt_delay_y b bx Al cl lines at_ vr f r v w hr hm hx hbx hlt h2 x y hs
  by_cases h3 : (wordF lines at_).1 = kMirror
  · have hlt := word_lt (lines := lines) (at_ := at_) (by rw [h3]; decide)
    simp only [if_neg h1, if_neg h2, if_pos h3]
    cases hs : (twoF (wordF lines at_).2).2.2
    · exact opt_mirror_n b bx Al cl lines at_ vr f r v w hr hm hx hbx hlt h3 hs
    · exact opt_mirror_y b bx Al cl lines at_ vr f r v w hr hm hx hbx hlt h3 hs
  by_cases h4 : (wordF lines at_).1 = kSample
  · have hlt := word_lt (lines := lines) (at_ := at_) (by rw [h4]; decide)
    simp only [if_neg h1, if_neg h2, if_neg h3, if_pos h4]
    exact opt_sample b bx Al cl lines at_ vr f r v w hr hm hx hbx hlt h4
  · simp only [if_neg h1, if_neg h2, if_neg h3, if_neg h4]
    refine opt_none b bx Al cl lines at_ vr f r v w hr hm hx hbx ?_
    have e1 : kAbort.toList = [97, 98, 111, 114, 116] := by rw [toList_bs]; rfl
    have e2 : kDelay.toList = [100, 101, 108, 97, 121] := by rw [toList_bs]; rfl
    have e3 : kMirror.toList = [109, 105, 114, 114, 111, 114] := by rw [toList_bs]; rfl
    have e4 : kSample.toList = [115, 97, 109, 112, 108, 101] := by rw [toList_bs]; rfl
    intro u hu
    simp only [List.mem_cons, List.not_mem_nil, or_false] at hu
    rcases hu with rfl | rfl | rfl | rfl
    · rw [← e1]; exact ne_of_toList h1
    · rw [← e2]; exact ne_of_toList h2
    · rw [← e3]; exact ne_of_toList h3
    · rw [← e4]; exact ne_of_toList h4
end Go.Proofs.YtnbgfpcpfknjoaaGreatDoor
