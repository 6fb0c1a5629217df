/- conf's reader: its state; a line's first word; one word behind it. -/
import Derived.Test.YtnbgfpcpfknjoaaGreatDoorD2
import Derived.Test.YtnbgfpcpfknjoaaGreatDoorB1
namespace Go.Proofs.YtnbgfpcpfknjoaaGreatDoor
set_option linter.all false
open Go.RowKit

theorem quiet_add {P : Program} {f : FuncId} {args : Array Value} {w : World} {a n : Nat} {v : Value}
    (h : Calls P f args (w.drewN (a + n)) fun e w' => e = .returned v ∧ ∃ m, w' = (w.drewN (a + n)).drewN m) :
    Calls P f args (w.drewN (a + n)) fun e w'' => e = .returned v ∧ ∃ m, w'' = w.drewN (a + m) :=
  h.mono fun _ _ ⟨he, m, hm⟩ => ⟨he, n + m, by rw [hm, World.drewN_drewN, Nat.add_assoc]⟩

/-- A reader in memory: its lines (which lie in S), its place, its rules and its format. -/
structure Rdr (w : World) (b : Nat) (S : Nat → Prop) (Al : Option Addr) (cl : Nat) (lines : List ByteArray) (at_ : Nat) (vr : Value) (f : ByteArray) : Prop where
  c0 : w.cell? ⟨b, 0, none⟩ = some (.slice Al lines.length cl)
  c1 : w.cell? ⟨b, 1, none⟩ = some (.int .i64 at_)
  c2 : w.cell? ⟨b, 2, none⟩ = some vr
  c3 : w.cell? ⟨b, 3, none⟩ = some (.string f)
  fz : ∀ j, w.frozen? ⟨b, j, none⟩ = false
  sl : strR.sl w S (.slice Al lines.length cl) lines
  nS : ¬ S b
  small : ∀ i, ∀ hi : i < lines.length, (lines[i]'hi).size ≤ 5000
  few : lines.length ≤ 5000
  atm : at_ ≤ lines.length
theorem Rdr.frame {w w' : World} {b : Nat} {S : Nat → Prop} {Al : Option Addr} {cl : Nat} {lines : List ByteArray} {at_ : Nat} {vr : Value} {f : ByteArray} (h : Rdr w b S Al cl lines at_ vr f) (hsz : w.heap.size ≤ w'.heap.size) (hb : w'.heap[b]? = w.heap[b]?) (hS : ∀ k, S k → k < w.heap.size → w'.heap[k]? = w.heap[k]?) : Rdr w' b S Al cl lines at_ vr f :=
  ⟨(World.cell?_of_block (a := ⟨b, 0, none⟩) hb).trans h.c0, (World.cell?_of_block (a := ⟨b, 1, none⟩) hb).trans h.c1, (World.cell?_of_block (a := ⟨b, 2, none⟩) hb).trans h.c2, (World.cell?_of_block (a := ⟨b, 3, none⟩) hb).trans h.c3, fun j => (World.frozen?_of_block (a := ⟨b, j, none⟩) hb).trans (h.fz j), Rp.sl_frame h.sl hsz hS, h.nS, h.small, h.few, h.atm⟩
theorem Rdr.lt {w : World} {b : Nat} {S : Nat → Prop} {Al : Option Addr} {cl : Nat} {lines : List ByteArray} {at_ : Nat} {vr : Value} {f : ByteArray} (h : Rdr w b S Al cl lines at_ vr f) : b < w.heap.size := World.block_lt_of_cell? w _ h.c0
theorem Rdr.below {w w' : World} {b : Nat} {S : Nat → Prop} {Al : Option Addr} {cl : Nat} {lines : List ByteArray} {at_ : Nat} {vr : Value} {f : ByteArray} (h : Rdr w b S Al cl lines at_ vr f) (hb : Below w.heap.size w w') : Rdr w' b S Al cl lines at_ vr f :=
  h.frame hb.size (hb.block b h.lt) fun k _ hk => hb.block k hk

def empty : ByteArray := ⟨#[]⟩
/-- The next line's first word, and what stands behind its blank. -/
def wordF (lines : List ByteArray) (at_ : Nat) : ByteArray × ByteArray :=
  if h : at_ < lines.length then ((cutS (lines[at_]'h)).1, (cutS (lines[at_]'h)).2.1) else (empty, empty)
theorem ret_ss {p : ByteArray × ByteArray} {a b : ByteArray} (h : p = (a, b)) : Ending.returned (.tuple #[.string a, .string b]) = .returned (.tuple #[.string p.1, .string p.2]) := by rw [h]

set_option maxHeartbeats 1000000 in
theorem word_any (b : Nat) (S : Nat → Prop) (Al : Option Addr) (cl : Nat) (lines : List ByteArray) (at_ : Nat) (vr : Value) (f : ByteArray) (w : World) (hr : Rdr w b S Al cl lines at_ vr f) (hm : MaxCell w) :
    Calls Tryz.prog 63 #[.pointer (some ⟨b, 0, none⟩)] w fun e w' => e = .returned (.tuple #[.string (wordF lines at_).1, .string (wordF lines at_).2]) ∧ ∃ n, w' = w.drewN n := by
  have c0 := hr.c0
  have c1 := hr.c1
  have HR := Lib.hid hr
  have HM := Lib.hid hm
  have few := hr.few
  clear hr hm
  by_cases hlt : at_ < lines.length
  · obtain ⟨bl, ol, rfl, hc⟩ := strR_at HR.out.sl hlt
    have hd : ¬ ((lines.length : Int) ≤ (at_ : Int)) := by omega
    have h0 : (0 : Int) ≤ (at_ : Int) := by omega
    have h1 : (at_ : Int) < (lines.length : Int) := by omega
    have HW : Hid (wordF lines at_ = ((cutS (lines[at_]'hlt)).1, (cutS (lines[at_]'hlt)).2.1)) := by unfold Hid wordF; rw [dif_pos hlt]
    have HS : Hid ((lines[at_]'hlt).size < 4294967281) := by have := HR.out.small at_ hlt; unfold Hid; omega
    go_enter Tryz.func63, Tryz.ntmps63
    go_wp2_with fail
    go_quiet (fail)
    go_wp2_with fail
    go_quiet ((go_at_call 87; exact quiet_add (cut_any _ _ HS.out (HM.out.drewN _))))
    go_wp2
    go_ret2
    exact ⟨ret_ss HW.out, _, by first | rfl | (rw [World.drewN_drewN])⟩
  · have HW : Hid (wordF lines at_ = (empty, empty)) := by unfold Hid wordF; rw [dif_neg hlt]
    have hd : (lines.length : Int) ≤ (at_ : Int) := by omega
    go_enter Tryz.func63, Tryz.ntmps63
    go_wp2_with fail
    go_quiet (fail)
    go_wp2
    go_ret2
    exact ⟨ret_ss HW.out, _, rfl⟩

def singleF (line rest : ByteArray) : Bool := countBl line == 1 && !hasBl rest
set_option maxHeartbeats 1000000 in
theorem single_any (b : Nat) (S : Nat → Prop) (Al : Option Addr) (cl : Nat) (lines : List ByteArray) (at_ : Nat) (vr : Value) (f rest : ByteArray) (w : World) (hr : Rdr w b S Al cl lines at_ vr f) (hlt : at_ < lines.length) :
    Calls Tryz.prog 90 #[.pointer (some ⟨b, 0, none⟩), .string rest] w fun e w' => e = .returned (.bool (singleF (lines[at_]'hlt) rest)) ∧ ∃ n, w' = w.drewN n := by
  have c0 := hr.c0
  have c1 := hr.c1
  obtain ⟨bl, ol, rfl, hc⟩ := strR_at hr.sl hlt
  have h0 : (0 : Int) ≤ (at_ : Int) := by omega
  have h1 : (at_ : Int) < (lines.length : Int) := by omega
  have few := hr.few
  clear hr
  by_cases h2 : countBl (lines[at_]'hlt) = 1
  · have h2' : (((countBl (lines[at_]'hlt) : Nat) : Int) == 1) = true := beq_iff_eq.2 (by omega)
    have HF : Hid (singleF (lines[at_]'hlt) rest = !hasBl rest) := by unfold Hid singleF; simp [h2]
    clear h2
    go_enter Tryz.func90, Tryz.ntmps90
    go_wp2_with fail
    go_quiet ((first | (go_at_call 85; exact Calls.quiet_of_same ((count_bl _ _).mono fun _ _ h => ⟨h.1, h.2.symm⟩)) | (go_at_call 112; exact Calls.quiet_of_same ((contains_bl _ _).mono fun _ _ h => ⟨h.1, h.2.symm⟩))))
    go_wp2
    go_ret
    exact ⟨ret_bool HF.out.symm, _, rfl⟩
  · have h2' : (((countBl (lines[at_]'hlt) : Nat) : Int) == 1) = false := beq_eq_false_iff_ne.2 (by omega)
    have HF : Hid (singleF (lines[at_]'hlt) rest = false) := by unfold Hid singleF; simp [h2]
    clear h2
    go_enter Tryz.func90, Tryz.ntmps90
    go_wp2_with fail
    go_quiet ((first | (go_at_call 85; exact Calls.quiet_of_same ((count_bl _ _).mono fun _ _ h => ⟨h.1, h.2.symm⟩)) | (go_at_call 112; exact Calls.quiet_of_same ((contains_bl _ _).mono fun _ _ h => ⟨h.1, h.2.symm⟩))))
    go_wp2
    go_ret
    exact ⟨ret_bool HF.out.symm, _, rfl⟩

def wordsV : Array Value := #[.string ⟨#[]⟩, .string ⟨#[109, 101, 116, 104, 111, 100]⟩, .string ⟨#[104, 111, 115, 116]⟩, .string ⟨#[101, 120, 97, 99, 116]⟩, .string ⟨#[112, 114, 101, 102, 105, 120]⟩, .string ⟨#[104, 101, 97, 100]⟩, .string ⟨#[104, 97, 115]⟩]
set_option maxHeartbeats 1000000 in
theorem words_any (w : World) :
    Calls Tryz.prog 75 #[] w fun e w' => e = .returned (.agg #[.string ⟨#[]⟩, .string ⟨#[109, 101, 116, 104, 111, 100]⟩, .string ⟨#[104, 111, 115, 116]⟩, .string ⟨#[101, 120, 97, 99, 116]⟩, .string ⟨#[112, 114, 101, 102, 105, 120]⟩, .string ⟨#[104, 101, 97, 100]⟩, .string ⟨#[104, 97, 115]⟩]) ∧ Below w.heap.size w w' := by
  go_enter Tryz.func75, Tryz.ntmps75
  go_wp2
  exact bodyPost_ret (v := .agg #[.string ⟨#[]⟩, .string ⟨#[109, 101, 116, 104, 111, 100]⟩, .string ⟨#[104, 111, 115, 116]⟩, .string ⟨#[101, 120, 97, 99, 116]⟩, .string ⟨#[112, 114, 101, 102, 105, 120]⟩, .string ⟨#[104, 101, 97, 100]⟩, .string ⟨#[104, 97, 115]⟩]) (by simp [results, Tryz.results75, go_sem]) rfl ⟨rfl, bel (Below.refl _ _) _⟩
end Go.Proofs.YtnbgfpcpfknjoaaGreatDoor
