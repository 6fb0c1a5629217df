/- conf's reader: predicates. -/
import Derived.Test.YtnbgfpcpfknjoaaGreatDoorD3
import Derived.Test.YtnbgfpcpfknjoaaGreatDoorRP
import Derived.Deep.AppendLies
import Derived.Deep.RegionLaw
namespace Go.Proofs.YtnbgfpcpfknjoaaGreatDoor
set_option linter.all false
open Go.RowKit

theorem ownsRow_below {w w1 : World} {base e sz n : Nat} {v : Value} {xs : List Value} (h : w.ownsRow base e sz v n xs) (hb : Below w.heap.size w w1) : w1.ownsRow base e sz v n xs := by
  refine ⟨h.1, ?_⟩
  rcases h.2 with h2 | ⟨g, cap, cur, rfl, hg, hh, r⟩
  · exact .inl h2
  · exact .inr ⟨g, cap, cur, rfl, hg, (hb.block g (Array.getElem?_eq_some_iff.1 hh).1).trans hh, r⟩
theorem heap_two (w : World) (x y : Obj) : ((w.alloc x).alloc y).heap[w.heap.size + 1]? = some y := by
  have := heap_alloc_new (w.alloc x) y
  rwa [World.size_alloc] at this
theorem heap_at (w : World) (y : Obj) (n : Nat) (h : w.heap.size = n) : (w.alloc y).heap[n]? = some y := by
  subst h
  exact heap_alloc_new w y
/-- A rule that is being read: its cells in a block of its own. -/
structure XR (w : World) (b : Nat) (r : Rule) (v : Value) : Prop where
  c0 : w.cell? ⟨b, 0, none⟩ = some (.int .i64 r.rank)
  c1 : w.cell? ⟨b, 1, none⟩ = some v
  c2 : w.cell? ⟨b, 2, none⟩ = some (.string r.target)
  c3 : w.cell? ⟨b, 3, none⟩ = some (.int .i64 r.abortPct)
  c4 : w.cell? ⟨b, 4, none⟩ = some (.int .i64 r.abortStatus)
  c5 : w.cell? ⟨b, 5, none⟩ = some (.int .i64 r.delayPct)
  c6 : w.cell? ⟨b, 6, none⟩ = some (.int .i64 r.delayTicks)
  c7 : w.cell? ⟨b, 7, none⟩ = some (.int .i64 r.mirrorPct)
  c8 : w.cell? ⟨b, 8, none⟩ = some (.string r.mirror)
  c9 : w.cell? ⟨b, 9, none⟩ = some (.int .i64 r.sample)
  fz : ∀ j, w.frozen? ⟨b, j, none⟩ = false
theorem XR.lt {w : World} {b : Nat} {r : Rule} {v : Value} (h : XR w b r v) : b < w.heap.size := World.block_lt_of_cell? w _ h.c0
theorem XR.frame {w w' : World} {b : Nat} {r : Rule} {v : Value} (h : XR w b r v) (hb : w'.heap[b]? = w.heap[b]?) : XR w' b r v :=
  ⟨(World.cell?_of_block (a := ⟨b, 0, none⟩) hb).trans h.c0, (World.cell?_of_block (a := ⟨b, 1, none⟩) hb).trans h.c1, (World.cell?_of_block (a := ⟨b, 2, none⟩) hb).trans h.c2, (World.cell?_of_block (a := ⟨b, 3, none⟩) hb).trans h.c3, (World.cell?_of_block (a := ⟨b, 4, none⟩) hb).trans h.c4, (World.cell?_of_block (a := ⟨b, 5, none⟩) hb).trans h.c5, (World.cell?_of_block (a := ⟨b, 6, none⟩) hb).trans h.c6, (World.cell?_of_block (a := ⟨b, 7, none⟩) hb).trans h.c7, (World.cell?_of_block (a := ⟨b, 8, none⟩) hb).trans h.c8, (World.cell?_of_block (a := ⟨b, 9, none⟩) hb).trans h.c9, fun j => (World.frozen?_of_block (a := ⟨b, j, none⟩) hb).trans (h.fz j)⟩
theorem frozen_setCell (w : World) (a : Addr) (v : Value) (p : Addr) : (w.setCell a v).frozen? p = w.frozen? p := by
  unfold World.frozen? World.setCell
  simp only [Array.getElem?_modify]
  by_cases h : a.block = p.block
  · rw [if_pos h]
    cases w.heap[p.block]? with
    | none => rfl
    | some o => cases o <;> rfl
  · rw [if_neg h]
theorem cell_setCell_ne {w : World} {b i j : Nat} (v : Value) (h : i ≠ j) : (w.setCell ⟨b, i, none⟩ v).cell? ⟨b, j, none⟩ = w.cell? ⟨b, j, none⟩ := by
  unfold World.cell? World.setCell
  simp only [Array.getElem?_modify, if_true]
  cases w.heap[b]? with
  | none => rfl
  | some o => cases o <;> simp [Array.getElem?_setIfInBounds_ne h]
theorem cell_setCell_eq {w : World} {b i : Nat} {u : Value} (v : Value) (h : w.cell? ⟨b, i, none⟩ = some u) : (w.setCell ⟨b, i, none⟩ v).cell? ⟨b, i, none⟩ = some v := World.cell?_setCell_same w _ v h
theorem XR.setPreds {w : World} {b : Nat} {r : Rule} {v : Value} (h : XR w b r v) (v' : Value) (ps : List Pred) : XR (w.setCell ⟨b, 1, none⟩ v') b { r with preds := ps } v' :=
  ⟨(cell_setCell_ne v' (by decide)).trans h.c0, cell_setCell_eq v' h.c1, (cell_setCell_ne v' (by decide)).trans h.c2, (cell_setCell_ne v' (by decide)).trans h.c3, (cell_setCell_ne v' (by decide)).trans h.c4, (cell_setCell_ne v' (by decide)).trans h.c5, (cell_setCell_ne v' (by decide)).trans h.c6, (cell_setCell_ne v' (by decide)).trans h.c7, (cell_setCell_ne v' (by decide)).trans h.c8, (cell_setCell_ne v' (by decide)).trans h.c9, fun j => (frozen_setCell _ _ _ _).trans (h.fz j)⟩
/-- The predicates of a rule that is being read: a row of its own, made behind the rule's block. -/
def PR (w : World) (bx : Nat) (v : Value) (ps : List Pred) : Prop := predR.own w (fun _ => False) (bx + 1) 68 v ps
def NewPred (bx : Nat) (r : Rule) (p : Pred) (w w' : World) : Prop := ∃ v', XR w' bx { r with preds := r.preds ++ [p] } v' ∧ PR w' bx v' (r.preds ++ [p]) ∧ Below bx w w'
theorem newPred_fin {w W w3 : World} {bx g cap : Nat} {r : Rule} {p : Pred} {v : Value} {inner : List Value} (hx : XR w bx r v) (hW : Below w.heap.size w W) (hown : w.ownsRow (bx + 1) 68 3 v r.preds.length inner) (hrel : ∀ i x, r.preds[i]? = some x → predR.rel w (fun _ => False) x ((inner.drop (i * 3)).take 3))
    (hp : p.name.size ≤ maxLen ∧ p.value.size ≤ maxLen ∧ -9223372036854775808 ≤ p.kind ∧ p.kind ≤ 9223372036854775807) (hg : W.grownBy w3 v.ownBlock) (hown3 : w3.ownsRow (bx + 1) 68 3 (.slice (some ⟨g, 0, none⟩) (r.preds.length + 1) cap) (r.preds.length + 1) (inner ++ p.cells)) : NewPred bx r p w (w3.setCell ⟨bx, 1, none⟩ (.slice (some ⟨g, 0, none⟩) (r.preds.length + 1) cap)) := by
  have hlt := hx.lt
  have hne : some bx ≠ v.ownBlock := fun e => by have := (hown.lt bx e.symm).1; omega
  have hbx : w3.heap[bx]? = w.heap[bx]? := (hg.block bx (Nat.lt_of_lt_of_le hlt hW.size) hne).trans (hW.block bx hlt)
  refine ⟨_, (hx.frame hbx).setPreds _ _, ?_, ?_⟩
  · have h3 : predR.own w3 (fun _ => False) (bx + 1) 68 (.slice (some ⟨g, 0, none⟩) (r.preds.length + 1) cap) (r.preds ++ [p]) :=
      Rp.own_of_append (R := predR) (w := w) (ys := [p]) (news := p.cells) hown.1 hown3 (fun i x hi => hrel i x hi) (fun i x hi => by
        rcases i with _ | i
        · have : p = x := by simpa using hi
          subst this
          exact ⟨rfl, hp⟩
        · simp at hi)
    refine Rp.own_frame h3 (fun k hk _ => hk.elim) (fun k hk => Below.heap_setCell _ _ _ _ ?_)
    have := (Rp.own_base h3 k hk).1
    show k ≠ bx
    omega
  · have h1 : Below bx w W := hW.mono (by omega)
    have h2 : Below bx w w3 := h1.grown hg (by have := hW.size; omega) (fun k hk => by have := (hown.lt k hk).1; omega)
    exact h2.setCell (p := ⟨bx, 1, none⟩) (Nat.le_refl _) _
theorem newOk (k : Int) (n v : ByteArray) (hk : 1 ≤ k ∧ k ≤ 6) (hn : n.size ≤ 5000) (hv : v.size ≤ 5000) : (Pred.mk k n v).name.size ≤ maxLen ∧ (Pred.mk k n v).value.size ≤ maxLen ∧ -9223372036854775808 ≤ (Pred.mk k n v).kind ∧ (Pred.mk k n v).kind ≤ 9223372036854775807 := by
  show n.size ≤ maxLen ∧ v.size ≤ maxLen ∧ -9223372036854775808 ≤ k ∧ k ≤ 9223372036854775807
  unfold maxLen
  omega
theorem empty_size : empty.size ≤ 5000 := by show (#[] : Array UInt8).size ≤ 5000; simp

theorem words_at0 (w : World) : (Instr.index 117 (.agg #[.string ⟨#[]⟩, .string ⟨#[109, 101, 116, 104, 111, 100]⟩, .string ⟨#[104, 111, 115, 116]⟩, .string ⟨#[101, 120, 97, 99, 116]⟩, .string ⟨#[112, 114, 101, 102, 105, 120]⟩, .string ⟨#[104, 101, 97, 100]⟩, .string ⟨#[104, 97, 115]⟩]) (.int .i64 0)).run Tryz.prog w = .ok (.string ⟨#[]⟩) w := by kernel_rfl
theorem words_at1 (w : World) : (Instr.index 117 (.agg #[.string ⟨#[]⟩, .string ⟨#[109, 101, 116, 104, 111, 100]⟩, .string ⟨#[104, 111, 115, 116]⟩, .string ⟨#[101, 120, 97, 99, 116]⟩, .string ⟨#[112, 114, 101, 102, 105, 120]⟩, .string ⟨#[104, 101, 97, 100]⟩, .string ⟨#[104, 97, 115]⟩]) (.int .i64 1)).run Tryz.prog w = .ok (.string ⟨#[109, 101, 116, 104, 111, 100]⟩) w := by kernel_rfl
theorem words_at2 (w : World) : (Instr.index 117 (.agg #[.string ⟨#[]⟩, .string ⟨#[109, 101, 116, 104, 111, 100]⟩, .string ⟨#[104, 111, 115, 116]⟩, .string ⟨#[101, 120, 97, 99, 116]⟩, .string ⟨#[112, 114, 101, 102, 105, 120]⟩, .string ⟨#[104, 101, 97, 100]⟩, .string ⟨#[104, 97, 115]⟩]) (.int .i64 2)).run Tryz.prog w = .ok (.string ⟨#[104, 111, 115, 116]⟩) w := by kernel_rfl
theorem words_at3 (w : World) : (Instr.index 117 (.agg #[.string ⟨#[]⟩, .string ⟨#[109, 101, 116, 104, 111, 100]⟩, .string ⟨#[104, 111, 115, 116]⟩, .string ⟨#[101, 120, 97, 99, 116]⟩, .string ⟨#[112, 114, 101, 102, 105, 120]⟩, .string ⟨#[104, 101, 97, 100]⟩, .string ⟨#[104, 97, 115]⟩]) (.int .i64 3)).run Tryz.prog w = .ok (.string ⟨#[101, 120, 97, 99, 116]⟩) w := by kernel_rfl
theorem words_at4 (w : World) : (Instr.index 117 (.agg #[.string ⟨#[]⟩, .string ⟨#[109, 101, 116, 104, 111, 100]⟩, .string ⟨#[104, 111, 115, 116]⟩, .string ⟨#[101, 120, 97, 99, 116]⟩, .string ⟨#[112, 114, 101, 102, 105, 120]⟩, .string ⟨#[104, 101, 97, 100]⟩, .string ⟨#[104, 97, 115]⟩]) (.int .i64 4)).run Tryz.prog w = .ok (.string ⟨#[112, 114, 101, 102, 105, 120]⟩) w := by kernel_rfl
theorem words_at5 (w : World) : (Instr.index 117 (.agg #[.string ⟨#[]⟩, .string ⟨#[109, 101, 116, 104, 111, 100]⟩, .string ⟨#[104, 111, 115, 116]⟩, .string ⟨#[101, 120, 97, 99, 116]⟩, .string ⟨#[112, 114, 101, 102, 105, 120]⟩, .string ⟨#[104, 101, 97, 100]⟩, .string ⟨#[104, 97, 115]⟩]) (.int .i64 5)).run Tryz.prog w = .ok (.string ⟨#[104, 101, 97, 100]⟩) w := by kernel_rfl
theorem words_at6 (w : World) : (Instr.index 117 (.agg #[.string ⟨#[]⟩, .string ⟨#[109, 101, 116, 104, 111, 100]⟩, .string ⟨#[104, 111, 115, 116]⟩, .string ⟨#[101, 120, 97, 99, 116]⟩, .string ⟨#[112, 114, 101, 102, 105, 120]⟩, .string ⟨#[104, 101, 97, 100]⟩, .string ⟨#[104, 97, 115]⟩]) (.int .i64 6)).run Tryz.prog w = .ok (.string ⟨#[104, 97, 115]⟩) w := by kernel_rfl

set_option maxRecDepth 100000 in
set_option maxHeartbeats 2000000 in
theorem pred_y1 (b bx : Nat) (Al : Option Addr) (cl : Nat) (lines : List ByteArray) (at_ : Nat) (vr : Value) (f : ByteArray) (r : Rule) (v : Value) (w : World) (hr : Rdr w b (fun k => k < b) Al cl lines at_ vr f) (hm : MaxCell w) (hx : XR w bx r v) (ho : PR w bx v r.preds) (hbx : b < bx) (hfew : r.preds.length ≤ 5000) (hlt : at_ < lines.length) (hw : (wordF lines at_).1 = ⟨#[109, 101, 116, 104, 111, 100]⟩) (hs : singleF (lines[at_]'hlt) (wordF lines at_).2 = true) :
    Calls Tryz.prog 89 #[.pointer (some ⟨b, 0, none⟩), .pointer (some ⟨bx, 0, none⟩)] w fun e w' => e = .returned (.bool true) ∧ NewPred bx r ⟨1, empty, (wordF lines at_).2⟩ w w' := by
  have HR := Lib.hid hr
  have HM := Lib.hid hm
  have HX := Lib.hid hx
  have HO := Lib.hid ho
  have HS := Lib.hid hs
  have HW := Lib.hid hw
  have hsz : Hid ((wordF lines at_).2.size ≤ 5000) := by
    unfold Hid wordF; rw [dif_pos hlt]; exact Nat.le_trans (cutS_len _).2 (hr.small at_ hlt)
  clear hr hm hx ho hs hw
  have i0 := words_at0
  have i1 := words_at1
  go_enter Tryz.func89, Tryz.ntmps89
  go_wp2_with fail
  refine (word_any b _ Al cl lines at_ vr f w HR.out HM.out).mono ?_
  rintro e w1 ⟨rfl, n, rfl⟩
  rw [HW.out]
  go_wp2_with fail
  refine (words_any _).mono ?_
  rintro e w1 ⟨rfl, hb⟩
  go_wp2_with fail
  refine wp_loop_rounds 2 ?_
  rw [rounds_succ]
  go_wp2_with fail
  rw [rounds_succ]
  go_wp2_with fail
  have hbw : Below w.heap.size w w1 := belTrans (belDrewN (Below.refl _ _) n) hb
  have HR2 := (HR.out.below hbw).below (bel (Below.refl _ _) (.cells #[.int .i64 1, .string ⟨#[]⟩, .string (wordF lines at_).2] 68))
  refine (single_any b _ Al cl lines at_ vr f _ _ HR2 hlt).mono ?_
  clear HR2
  rintro e w2 ⟨rfl, n2, rfl⟩
  rw [HS.out]
  obtain ⟨A0, c0, rfl, -, -⟩ := Rp.own_slice HO.out
  obtain ⟨inner, hown, hrel⟩ := HO.out
  have hbxl : bx < w.heap.size := HX.out.lt
  have hbx1 : bx < w1.heap.size := Nat.lt_of_lt_of_le hbxl hbw.size
  have x1 : w1.cell? ⟨bx, 1, none⟩ = some (.slice A0 r.preds.length c0) := (hbw.cell (p := ⟨bx, 1, none⟩) hbxl).trans HX.out.c1
  have f1 : w1.frozen? ⟨bx, 1, none⟩ = false := (hbw.frozen (p := ⟨bx, 1, none⟩) hbxl).trans (HX.out.fz 1)
  obtain ⟨i0', hi0', hz0, hz1, hz2⟩ := info_parts3 infoPred
  have HOWN := Lib.hid hown
  have HREL := Lib.hid hrel
  clear hown hrel
  have HOWN1 := Lib.hid (ownsRow_below HOWN.out hbw)
  have HLEN : Hid (r.preds.length + 1 ≤ maxLen ∧ (r.preds.length + 1) * 40 ≤ 140737488355328) := ⟨by unfold maxLen; omega, by omega⟩
  have hne : some bx ≠ (Value.slice A0 r.preds.length c0).ownBlock := fun e => by have := (HOWN.out.lt bx e.symm).1; omega
  have hbase := (show bx + 1 ≤ w1.heap.size from hbx1)
  go_wp2_with fail
  go_region_law (refine step_append_lies _ rfl (.tmp 63) (.tmp 65) 63 rfl (bx + 1) 68 i0' _ 3 40 Tryz.underlying63 hi0' hz0 hz1 hz2 rfl (by decide) (.slice A0 r.preds.length c0) r.preds.length inner (by simp [Act.eval, Act.put]) (by exact ownsRow_below HOWN1.out (by repeat first | exact Below.refl _ _ | refine bel ?_ _ | refine belDrew ?_ | refine belDrewN ?_ _ | refine belSet ?_ (by simp) _)) ⟨w1.heap.size + 1, 0, none⟩ 1 1 [.int .i64 1, .string ⟨#[]⟩, .string (wordF lines at_).2] (by simp [Act.eval, Act.put]) rfl (by exact World.news_of_block (cs := #[.int .i64 1, .string ⟨#[]⟩, .string (wordF lines at_).2]) (t := 68) (fr := (0, 0)) (heap_at _ _ _ (by simp))) (by simp [Value.oneCell']) (by decide) HLEN.out.1 HLEN.out.2 (by simp; omega) (w1.heap.size + 2) (by simp) ?_; intro g cap w3 hown3 hg hat hlt3; have s1 := (hg.cell_far ⟨bx, 1, none⟩ (by simp; omega) hne).trans ((Below.cell (w := w1) (B := w1.heap.size) (by repeat first | exact Below.refl _ _ | refine bel ?_ _ | refine belDrew ?_ | refine belDrewN ?_ _ | refine belSet ?_ (by simp) _) hbx1).trans x1); have s2 := (hg.frozen_far ⟨bx, 1, none⟩ (by simp; omega) hne).trans ((Below.frozen (w := w1) (B := w1.heap.size) (by repeat first | exact Below.refl _ _ | refine bel ?_ _ | refine belDrew ?_ | refine belDrewN ?_ _ | refine belSet ?_ (by simp) _) hbx1).trans f1))
  all_goals
    have HG := Lib.hid hg
    have HO3 := Lib.hid hown3
    clear hg hown3 hat hlt3
    go_wp2
    go_ret
    exact ⟨rfl, newPred_fin (p := ⟨1, empty, (wordF lines at_).2⟩) HX.out (belTrans hbw (by repeat first | exact Below.refl _ _ | refine bel ?_ _ | refine belDrew ?_ | refine belDrewN ?_ _ | refine belSet ?_ (by simp) _)) HOWN.out HREL.out (newOk _ _ _ (by decide) empty_size hsz.out) HG.out HO3.out⟩

set_option maxRecDepth 100000 in
set_option maxHeartbeats 2000000 in
theorem pred_n1 (b bx : Nat) (Al : Option Addr) (cl : Nat) (lines : List ByteArray) (at_ : Nat) (vr : Value) (f : ByteArray) (r : Rule) (v : Value) (w : World) (hr : Rdr w b (fun k => k < b) Al cl lines at_ vr f) (hm : MaxCell w) (hx : XR w bx r v) (ho : PR w bx v r.preds) (hbx : b < bx) (hfew : r.preds.length ≤ 5000) (hlt : at_ < lines.length) (hw : (wordF lines at_).1 = ⟨#[109, 101, 116, 104, 111, 100]⟩) (hs : singleF (lines[at_]'hlt) (wordF lines at_).2 = false) :
    Calls Tryz.prog 89 #[.pointer (some ⟨b, 0, none⟩), .pointer (some ⟨bx, 0, none⟩)] w fun e w' => e = .returned (.bool false) ∧ Below w.heap.size w w' := by
  have HR := Lib.hid hr
  have HM := Lib.hid hm
  have HX := Lib.hid hx
  have HO := Lib.hid ho
  have HS := Lib.hid hs
  have HW := Lib.hid hw
  have hsz : Hid ((wordF lines at_).2.size ≤ 5000) := by
    unfold Hid wordF; rw [dif_pos hlt]; exact Nat.le_trans (cutS_len _).2 (hr.small at_ hlt)
  clear hr hm hx ho hs hw
  have i0 := words_at0
  have i1 := words_at1
  go_enter Tryz.func89, Tryz.ntmps89
  go_wp2_with fail
  refine (word_any b _ Al cl lines at_ vr f w HR.out HM.out).mono ?_
  rintro e w1 ⟨rfl, n, rfl⟩
  rw [HW.out]
  go_wp2_with fail
  refine (words_any _).mono ?_
  rintro e w1 ⟨rfl, hb⟩
  go_wp2_with fail
  refine wp_loop_rounds 2 ?_
  rw [rounds_succ]
  go_wp2_with fail
  rw [rounds_succ]
  go_wp2_with fail
  have hbw : Below w.heap.size w w1 := belTrans (belDrewN (Below.refl _ _) n) hb
  have HR2 := (HR.out.below hbw).below (bel (Below.refl _ _) (.cells #[.int .i64 1, .string ⟨#[]⟩, .string (wordF lines at_).2] 68))
  refine (single_any b _ Al cl lines at_ vr f _ _ HR2 hlt).mono ?_
  clear HR2
  rintro e w2 ⟨rfl, n2, rfl⟩
  rw [HS.out]
  go_wp2
  go_ret
  exact ⟨rfl, belTrans hbw (by repeat first | exact Below.refl _ _ | refine bel ?_ _ | refine belDrew ?_ | refine belDrewN ?_ _ | refine belSet ?_ (by simp) _)⟩

set_option maxRecDepth 100000 in
set_option maxHeartbeats 2000000 in
theorem pred_y2 (b bx : Nat) (Al : Option Addr) (cl : Nat) (lines : List ByteArray) (at_ : Nat) (vr : Value) (f : ByteArray) (r : Rule) (v : Value) (w : World) (hr : Rdr w b (fun k => k < b) Al cl lines at_ vr f) (hm : MaxCell w) (hx : XR w bx r v) (ho : PR w bx v r.preds) (hbx : b < bx) (hfew : r.preds.length ≤ 5000) (hlt : at_ < lines.length) (hw : (wordF lines at_).1 = ⟨#[104, 111, 115, 116]⟩) (hs : singleF (lines[at_]'hlt) (wordF lines at_).2 = true) :
    Calls Tryz.prog 89 #[.pointer (some ⟨b, 0, none⟩), .pointer (some ⟨bx, 0, none⟩)] w fun e w' => e = .returned (.bool true) ∧ NewPred bx r ⟨2, empty, (wordF lines at_).2⟩ w w' := by
  have HR := Lib.hid hr
  have HM := Lib.hid hm
  have HX := Lib.hid hx
  have HO := Lib.hid ho
  have HS := Lib.hid hs
  have HW := Lib.hid hw
  have hsz : Hid ((wordF lines at_).2.size ≤ 5000) := by
    unfold Hid wordF; rw [dif_pos hlt]; exact Nat.le_trans (cutS_len _).2 (hr.small at_ hlt)
  clear hr hm hx ho hs hw
  have i0 := words_at0
  have i1 := words_at1
  have i2 := words_at2
  go_enter Tryz.func89, Tryz.ntmps89
  go_wp2_with fail
  refine (word_any b _ Al cl lines at_ vr f w HR.out HM.out).mono ?_
  rintro e w1 ⟨rfl, n, rfl⟩
  rw [HW.out]
  go_wp2_with fail
  refine (words_any _).mono ?_
  rintro e w1 ⟨rfl, hb⟩
  go_wp2_with fail
  refine wp_loop_rounds 3 ?_
  rw [rounds_succ]
  go_wp2_with fail
  rw [rounds_succ]
  go_wp2_with fail
  rw [rounds_succ]
  go_wp2_with fail
  have hbw : Below w.heap.size w w1 := belTrans (belDrewN (Below.refl _ _) n) hb
  have HR2 := (HR.out.below hbw).below (bel (Below.refl _ _) (.cells #[.int .i64 2, .string ⟨#[]⟩, .string (wordF lines at_).2] 68))
  refine (single_any b _ Al cl lines at_ vr f _ _ HR2 hlt).mono ?_
  clear HR2
  rintro e w2 ⟨rfl, n2, rfl⟩
  rw [HS.out]
  obtain ⟨A0, c0, rfl, -, -⟩ := Rp.own_slice HO.out
  obtain ⟨inner, hown, hrel⟩ := HO.out
  have hbxl : bx < w.heap.size := HX.out.lt
  have hbx1 : bx < w1.heap.size := Nat.lt_of_lt_of_le hbxl hbw.size
  have x1 : w1.cell? ⟨bx, 1, none⟩ = some (.slice A0 r.preds.length c0) := (hbw.cell (p := ⟨bx, 1, none⟩) hbxl).trans HX.out.c1
  have f1 : w1.frozen? ⟨bx, 1, none⟩ = false := (hbw.frozen (p := ⟨bx, 1, none⟩) hbxl).trans (HX.out.fz 1)
  obtain ⟨i0', hi0', hz0, hz1, hz2⟩ := info_parts3 infoPred
  have HOWN := Lib.hid hown
  have HREL := Lib.hid hrel
  clear hown hrel
  have HOWN1 := Lib.hid (ownsRow_below HOWN.out hbw)
  have HLEN : Hid (r.preds.length + 1 ≤ maxLen ∧ (r.preds.length + 1) * 40 ≤ 140737488355328) := ⟨by unfold maxLen; omega, by omega⟩
  have hne : some bx ≠ (Value.slice A0 r.preds.length c0).ownBlock := fun e => by have := (HOWN.out.lt bx e.symm).1; omega
  have hbase := (show bx + 1 ≤ w1.heap.size from hbx1)
  go_wp2_with fail
  go_region_law (refine step_append_lies _ rfl (.tmp 63) (.tmp 65) 63 rfl (bx + 1) 68 i0' _ 3 40 Tryz.underlying63 hi0' hz0 hz1 hz2 rfl (by decide) (.slice A0 r.preds.length c0) r.preds.length inner (by simp [Act.eval, Act.put]) (by exact ownsRow_below HOWN1.out (by repeat first | exact Below.refl _ _ | refine bel ?_ _ | refine belDrew ?_ | refine belDrewN ?_ _ | refine belSet ?_ (by simp) _)) ⟨w1.heap.size + 1, 0, none⟩ 1 1 [.int .i64 2, .string ⟨#[]⟩, .string (wordF lines at_).2] (by simp [Act.eval, Act.put]) rfl (by exact World.news_of_block (cs := #[.int .i64 2, .string ⟨#[]⟩, .string (wordF lines at_).2]) (t := 68) (fr := (0, 0)) (heap_at _ _ _ (by simp))) (by simp [Value.oneCell']) (by decide) HLEN.out.1 HLEN.out.2 (by simp; omega) (w1.heap.size + 2) (by simp) ?_; intro g cap w3 hown3 hg hat hlt3; have s1 := (hg.cell_far ⟨bx, 1, none⟩ (by simp; omega) hne).trans ((Below.cell (w := w1) (B := w1.heap.size) (by repeat first | exact Below.refl _ _ | refine bel ?_ _ | refine belDrew ?_ | refine belDrewN ?_ _ | refine belSet ?_ (by simp) _) hbx1).trans x1); have s2 := (hg.frozen_far ⟨bx, 1, none⟩ (by simp; omega) hne).trans ((Below.frozen (w := w1) (B := w1.heap.size) (by repeat first | exact Below.refl _ _ | refine bel ?_ _ | refine belDrew ?_ | refine belDrewN ?_ _ | refine belSet ?_ (by simp) _) hbx1).trans f1))
  all_goals
    have HG := Lib.hid hg
    have HO3 := Lib.hid hown3
    clear hg hown3 hat hlt3
    go_wp2
    go_ret
    exact ⟨rfl, newPred_fin (p := ⟨2, empty, (wordF lines at_).2⟩) HX.out (belTrans hbw (by repeat first | exact Below.refl _ _ | refine bel ?_ _ | refine belDrew ?_ | refine belDrewN ?_ _ | refine belSet ?_ (by simp) _)) HOWN.out HREL.out (newOk _ _ _ (by decide) empty_size hsz.out) HG.out HO3.out⟩

set_option maxRecDepth 100000 in
set_option maxHeartbeats 2000000 in
theorem pred_n2 (b bx : Nat) (Al : Option Addr) (cl : Nat) (lines : List ByteArray) (at_ : Nat) (vr : Value) (f : ByteArray) (r : Rule) (v : Value) (w : World) (hr : Rdr w b (fun k => k < b) Al cl lines at_ vr f) (hm : MaxCell w) (hx : XR w bx r v) (ho : PR w bx v r.preds) (hbx : b < bx) (hfew : r.preds.length ≤ 5000) (hlt : at_ < lines.length) (hw : (wordF lines at_).1 = ⟨#[104, 111, 115, 116]⟩) (hs : singleF (lines[at_]'hlt) (wordF lines at_).2 = false) :
    Calls Tryz.prog 89 #[.pointer (some ⟨b, 0, none⟩), .pointer (some ⟨bx, 0, none⟩)] w fun e w' => e = .returned (.bool false) ∧ Below w.heap.size w w' := by
  have HR := Lib.hid hr
  have HM := Lib.hid hm
  have HX := Lib.hid hx
  have HO := Lib.hid ho
  have HS := Lib.hid hs
  have HW := Lib.hid hw
  have hsz : Hid ((wordF lines at_).2.size ≤ 5000) := by
    unfold Hid wordF; rw [dif_pos hlt]; exact Nat.le_trans (cutS_len _).2 (hr.small at_ hlt)
  clear hr hm hx ho hs hw
  have i0 := words_at0
  have i1 := words_at1
  have i2 := words_at2
  go_enter Tryz.func89, Tryz.ntmps89
  go_wp2_with fail
  refine (word_any b _ Al cl lines at_ vr f w HR.out HM.out).mono ?_
  rintro e w1 ⟨rfl, n, rfl⟩
  rw [HW.out]
  go_wp2_with fail
  refine (words_any _).mono ?_
  rintro e w1 ⟨rfl, hb⟩
  go_wp2_with fail
  refine wp_loop_rounds 3 ?_
  rw [rounds_succ]
  go_wp2_with fail
  rw [rounds_succ]
  go_wp2_with fail
  rw [rounds_succ]
  go_wp2_with fail
  have hbw : Below w.heap.size w w1 := belTrans (belDrewN (Below.refl _ _) n) hb
  have HR2 := (HR.out.below hbw).below (bel (Below.refl _ _) (.cells #[.int .i64 2, .string ⟨#[]⟩, .string (wordF lines at_).2] 68))
  refine (single_any b _ Al cl lines at_ vr f _ _ HR2 hlt).mono ?_
  clear HR2
  rintro e w2 ⟨rfl, n2, rfl⟩
  rw [HS.out]
  go_wp2
  go_ret
  exact ⟨rfl, belTrans hbw (by repeat first | exact Below.refl _ _ | refine bel ?_ _ | refine belDrew ?_ | refine belDrewN ?_ _ | refine belSet ?_ (by simp) _)⟩

set_option maxRecDepth 100000 in
set_option maxHeartbeats 2000000 in
theorem pred_y3 (b bx : Nat) (Al : Option Addr) (cl : Nat) (lines : List ByteArray) (at_ : Nat) (vr : Value) (f : ByteArray) (r : Rule) (v : Value) (w : World) (hr : Rdr w b (fun k => k < b) Al cl lines at_ vr f) (hm : MaxCell w) (hx : XR w bx r v) (ho : PR w bx v r.preds) (hbx : b < bx) (hfew : r.preds.length ≤ 5000) (hlt : at_ < lines.length) (hw : (wordF lines at_).1 = ⟨#[101, 120, 97, 99, 116]⟩) (hs : singleF (lines[at_]'hlt) (wordF lines at_).2 = true) :
    Calls Tryz.prog 89 #[.pointer (some ⟨b, 0, none⟩), .pointer (some ⟨bx, 0, none⟩)] w fun e w' => e = .returned (.bool true) ∧ NewPred bx r ⟨3, empty, (wordF lines at_).2⟩ w w' := by
  have HR := Lib.hid hr
  have HM := Lib.hid hm
  have HX := Lib.hid hx
  have HO := Lib.hid ho
  have HS := Lib.hid hs
  have HW := Lib.hid hw
  have hsz : Hid ((wordF lines at_).2.size ≤ 5000) := by
    unfold Hid wordF; rw [dif_pos hlt]; exact Nat.le_trans (cutS_len _).2 (hr.small at_ hlt)
  clear hr hm hx ho hs hw
  have i0 := words_at0
  have i1 := words_at1
  have i2 := words_at2
  have i3 := words_at3
  go_enter Tryz.func89, Tryz.ntmps89
  go_wp2_with fail
  refine (word_any b _ Al cl lines at_ vr f w HR.out HM.out).mono ?_
  rintro e w1 ⟨rfl, n, rfl⟩
  rw [HW.out]
  go_wp2_with fail
  refine (words_any _).mono ?_
  rintro e w1 ⟨rfl, hb⟩
  go_wp2_with fail
  refine wp_loop_rounds 4 ?_
  rw [rounds_succ]
  go_wp2_with fail
  rw [rounds_succ]
  go_wp2_with fail
  rw [rounds_succ]
  go_wp2_with fail
  rw [rounds_succ]
  go_wp2_with fail
  have hbw : Below w.heap.size w w1 := belTrans (belDrewN (Below.refl _ _) n) hb
  have HR2 := (HR.out.below hbw).below (bel (Below.refl _ _) (.cells #[.int .i64 3, .string ⟨#[]⟩, .string (wordF lines at_).2] 68))
  refine (single_any b _ Al cl lines at_ vr f _ _ HR2 hlt).mono ?_
  clear HR2
  rintro e w2 ⟨rfl, n2, rfl⟩
  rw [HS.out]
  obtain ⟨A0, c0, rfl, -, -⟩ := Rp.own_slice HO.out
  obtain ⟨inner, hown, hrel⟩ := HO.out
  have hbxl : bx < w.heap.size := HX.out.lt
  have hbx1 : bx < w1.heap.size := Nat.lt_of_lt_of_le hbxl hbw.size
  have x1 : w1.cell? ⟨bx, 1, none⟩ = some (.slice A0 r.preds.length c0) := (hbw.cell (p := ⟨bx, 1, none⟩) hbxl).trans HX.out.c1
  have f1 : w1.frozen? ⟨bx, 1, none⟩ = false := (hbw.frozen (p := ⟨bx, 1, none⟩) hbxl).trans (HX.out.fz 1)
  obtain ⟨i0', hi0', hz0, hz1, hz2⟩ := info_parts3 infoPred
  have HOWN := Lib.hid hown
  have HREL := Lib.hid hrel
  clear hown hrel
  have HOWN1 := Lib.hid (ownsRow_below HOWN.out hbw)
  have HLEN : Hid (r.preds.length + 1 ≤ maxLen ∧ (r.preds.length + 1) * 40 ≤ 140737488355328) := ⟨by unfold maxLen; omega, by omega⟩
  have hne : some bx ≠ (Value.slice A0 r.preds.length c0).ownBlock := fun e => by have := (HOWN.out.lt bx e.symm).1; omega
  have hbase := (show bx + 1 ≤ w1.heap.size from hbx1)
  go_wp2_with fail
  go_region_law (refine step_append_lies _ rfl (.tmp 63) (.tmp 65) 63 rfl (bx + 1) 68 i0' _ 3 40 Tryz.underlying63 hi0' hz0 hz1 hz2 rfl (by decide) (.slice A0 r.preds.length c0) r.preds.length inner (by simp [Act.eval, Act.put]) (by exact ownsRow_below HOWN1.out (by repeat first | exact Below.refl _ _ | refine bel ?_ _ | refine belDrew ?_ | refine belDrewN ?_ _ | refine belSet ?_ (by simp) _)) ⟨w1.heap.size + 1, 0, none⟩ 1 1 [.int .i64 3, .string ⟨#[]⟩, .string (wordF lines at_).2] (by simp [Act.eval, Act.put]) rfl (by exact World.news_of_block (cs := #[.int .i64 3, .string ⟨#[]⟩, .string (wordF lines at_).2]) (t := 68) (fr := (0, 0)) (heap_at _ _ _ (by simp))) (by simp [Value.oneCell']) (by decide) HLEN.out.1 HLEN.out.2 (by simp; omega) (w1.heap.size + 2) (by simp) ?_; intro g cap w3 hown3 hg hat hlt3; have s1 := (hg.cell_far ⟨bx, 1, none⟩ (by simp; omega) hne).trans ((Below.cell (w := w1) (B := w1.heap.size) (by repeat first | exact Below.refl _ _ | refine bel ?_ _ | refine belDrew ?_ | refine belDrewN ?_ _ | refine belSet ?_ (by simp) _) hbx1).trans x1); have s2 := (hg.frozen_far ⟨bx, 1, none⟩ (by simp; omega) hne).trans ((Below.frozen (w := w1) (B := w1.heap.size) (by repeat first | exact Below.refl _ _ | refine bel ?_ _ | refine belDrew ?_ | refine belDrewN ?_ _ | refine belSet ?_ (by simp) _) hbx1).trans f1))
  all_goals
    have HG := Lib.hid hg
    have HO3 := Lib.hid hown3
    clear hg hown3 hat hlt3
    go_wp2
    go_ret
    exact ⟨rfl, newPred_fin (p := ⟨3, empty, (wordF lines at_).2⟩) HX.out (belTrans hbw (by repeat first | exact Below.refl _ _ | refine bel ?_ _ | refine belDrew ?_ | refine belDrewN ?_ _ | refine belSet ?_ (by simp) _)) HOWN.out HREL.out (newOk _ _ _ (by decide) empty_size hsz.out) HG.out HO3.out⟩

set_option maxRecDepth 100000 in
set_option maxHeartbeats 2000000 in
theorem pred_n3 (b bx : Nat) (Al : Option Addr) (cl : Nat) (lines : List ByteArray) (at_ : Nat) (vr : Value) (f : ByteArray) (r : Rule) (v : Value) (w : World) (hr : Rdr w b (fun k => k < b) Al cl lines at_ vr f) (hm : MaxCell w) (hx : XR w bx r v) (ho : PR w bx v r.preds) (hbx : b < bx) (hfew : r.preds.length ≤ 5000) (hlt : at_ < lines.length) (hw : (wordF lines at_).1 = ⟨#[101, 120, 97, 99, 116]⟩) (hs : singleF (lines[at_]'hlt) (wordF lines at_).2 = false) :
    Calls Tryz.prog 89 #[.pointer (some ⟨b, 0, none⟩), .pointer (some ⟨bx, 0, none⟩)] w fun e w' => e = .returned (.bool false) ∧ Below w.heap.size w w' := by
  have HR := Lib.hid hr
  have HM := Lib.hid hm
  have HX := Lib.hid hx
  have HO := Lib.hid ho
  have HS := Lib.hid hs
  have HW := Lib.hid hw
  have hsz : Hid ((wordF lines at_).2.size ≤ 5000) := by
    unfold Hid wordF; rw [dif_pos hlt]; exact Nat.le_trans (cutS_len _).2 (hr.small at_ hlt)
  clear hr hm hx ho hs hw
  have i0 := words_at0
  have i1 := words_at1
  have i2 := words_at2
  have i3 := words_at3
  go_enter Tryz.func89, Tryz.ntmps89
  go_wp2_with fail
  refine (word_any b _ Al cl lines at_ vr f w HR.out HM.out).mono ?_
  rintro e w1 ⟨rfl, n, rfl⟩
  rw [HW.out]
  go_wp2_with fail
  refine (words_any _).mono ?_
  rintro e w1 ⟨rfl, hb⟩
  go_wp2_with fail
  refine wp_loop_rounds 4 ?_
  rw [rounds_succ]
  go_wp2_with fail
  rw [rounds_succ]
  go_wp2_with fail
  rw [rounds_succ]
  go_wp2_with fail
  rw [rounds_succ]
  go_wp2_with fail
  have hbw : Below w.heap.size w w1 := belTrans (belDrewN (Below.refl _ _) n) hb
  have HR2 := (HR.out.below hbw).below (bel (Below.refl _ _) (.cells #[.int .i64 3, .string ⟨#[]⟩, .string (wordF lines at_).2] 68))
  refine (single_any b _ Al cl lines at_ vr f _ _ HR2 hlt).mono ?_
  clear HR2
  rintro e w2 ⟨rfl, n2, rfl⟩
  rw [HS.out]
  go_wp2
  go_ret
  exact ⟨rfl, belTrans hbw (by repeat first | exact Below.refl _ _ | refine bel ?_ _ | refine belDrew ?_ | refine belDrewN ?_ _ | refine belSet ?_ (by simp) _)⟩

set_option maxRecDepth 100000 in
set_option maxHeartbeats 2000000 in
theorem pred_y4 (b bx : Nat) (Al : Option Addr) (cl : Nat) (lines : List ByteArray) (at_ : Nat) (vr : Value) (f : ByteArray) (r : Rule) (v : Value) (w : World) (hr : Rdr w b (fun k => k < b) Al cl lines at_ vr f) (hm : MaxCell w) (hx : XR w bx r v) (ho : PR w bx v r.preds) (hbx : b < bx) (hfew : r.preds.length ≤ 5000) (hlt : at_ < lines.length) (hw : (wordF lines at_).1 = ⟨#[112, 114, 101, 102, 105, 120]⟩) (hs : singleF (lines[at_]'hlt) (wordF lines at_).2 = true) :
    Calls Tryz.prog 89 #[.pointer (some ⟨b, 0, none⟩), .pointer (some ⟨bx, 0, none⟩)] w fun e w' => e = .returned (.bool true) ∧ NewPred bx r ⟨4, empty, (wordF lines at_).2⟩ w w' := by
  have HR := Lib.hid hr
  have HM := Lib.hid hm
  have HX := Lib.hid hx
  have HO := Lib.hid ho
  have HS := Lib.hid hs
  have HW := Lib.hid hw
  have hsz : Hid ((wordF lines at_).2.size ≤ 5000) := by
    unfold Hid wordF; rw [dif_pos hlt]; exact Nat.le_trans (cutS_len _).2 (hr.small at_ hlt)
  clear hr hm hx ho hs hw
  have i0 := words_at0
  have i1 := words_at1
  have i2 := words_at2
  have i3 := words_at3
  have i4 := words_at4
  go_enter Tryz.func89, Tryz.ntmps89
  go_wp2_with fail
  refine (word_any b _ Al cl lines at_ vr f w HR.out HM.out).mono ?_
  rintro e w1 ⟨rfl, n, rfl⟩
  rw [HW.out]
  go_wp2_with fail
  refine (words_any _).mono ?_
  rintro e w1 ⟨rfl, hb⟩
  go_wp2_with fail
  refine wp_loop_rounds 5 ?_
  rw [rounds_succ]
  go_wp2_with fail
  rw [rounds_succ]
  go_wp2_with fail
  rw [rounds_succ]
  go_wp2_with fail
  rw [rounds_succ]
  go_wp2_with fail
  rw [rounds_succ]
  go_wp2_with fail
  have hbw : Below w.heap.size w w1 := belTrans (belDrewN (Below.refl _ _) n) hb
  have HR2 := (HR.out.below hbw).below (bel (Below.refl _ _) (.cells #[.int .i64 4, .string ⟨#[]⟩, .string (wordF lines at_).2] 68))
  refine (single_any b _ Al cl lines at_ vr f _ _ HR2 hlt).mono ?_
  clear HR2
  rintro e w2 ⟨rfl, n2, rfl⟩
  rw [HS.out]
  obtain ⟨A0, c0, rfl, -, -⟩ := Rp.own_slice HO.out
  obtain ⟨inner, hown, hrel⟩ := HO.out
  have hbxl : bx < w.heap.size := HX.out.lt
  have hbx1 : bx < w1.heap.size := Nat.lt_of_lt_of_le hbxl hbw.size
  have x1 : w1.cell? ⟨bx, 1, none⟩ = some (.slice A0 r.preds.length c0) := (hbw.cell (p := ⟨bx, 1, none⟩) hbxl).trans HX.out.c1
  have f1 : w1.frozen? ⟨bx, 1, none⟩ = false := (hbw.frozen (p := ⟨bx, 1, none⟩) hbxl).trans (HX.out.fz 1)
  obtain ⟨i0', hi0', hz0, hz1, hz2⟩ := info_parts3 infoPred
  have HOWN := Lib.hid hown
  have HREL := Lib.hid hrel
  clear hown hrel
  have HOWN1 := Lib.hid (ownsRow_below HOWN.out hbw)
  have HLEN : Hid (r.preds.length + 1 ≤ maxLen ∧ (r.preds.length + 1) * 40 ≤ 140737488355328) := ⟨by unfold maxLen; omega, by omega⟩
  have hne : some bx ≠ (Value.slice A0 r.preds.length c0).ownBlock := fun e => by have := (HOWN.out.lt bx e.symm).1; omega
  have hbase := (show bx + 1 ≤ w1.heap.size from hbx1)
  go_wp2_with fail
  go_region_law (refine step_append_lies _ rfl (.tmp 63) (.tmp 65) 63 rfl (bx + 1) 68 i0' _ 3 40 Tryz.underlying63 hi0' hz0 hz1 hz2 rfl (by decide) (.slice A0 r.preds.length c0) r.preds.length inner (by simp [Act.eval, Act.put]) (by exact ownsRow_below HOWN1.out (by repeat first | exact Below.refl _ _ | refine bel ?_ _ | refine belDrew ?_ | refine belDrewN ?_ _ | refine belSet ?_ (by simp) _)) ⟨w1.heap.size + 1, 0, none⟩ 1 1 [.int .i64 4, .string ⟨#[]⟩, .string (wordF lines at_).2] (by simp [Act.eval, Act.put]) rfl (by exact World.news_of_block (cs := #[.int .i64 4, .string ⟨#[]⟩, .string (wordF lines at_).2]) (t := 68) (fr := (0, 0)) (heap_at _ _ _ (by simp))) (by simp [Value.oneCell']) (by decide) HLEN.out.1 HLEN.out.2 (by simp; omega) (w1.heap.size + 2) (by simp) ?_; intro g cap w3 hown3 hg hat hlt3; have s1 := (hg.cell_far ⟨bx, 1, none⟩ (by simp; omega) hne).trans ((Below.cell (w := w1) (B := w1.heap.size) (by repeat first | exact Below.refl _ _ | refine bel ?_ _ | refine belDrew ?_ | refine belDrewN ?_ _ | refine belSet ?_ (by simp) _) hbx1).trans x1); have s2 := (hg.frozen_far ⟨bx, 1, none⟩ (by simp; omega) hne).trans ((Below.frozen (w := w1) (B := w1.heap.size) (by repeat first | exact Below.refl _ _ | refine bel ?_ _ | refine belDrew ?_ | refine belDrewN ?_ _ | refine belSet ?_ (by simp) _) hbx1).trans f1))
  all_goals
    have HG := Lib.hid hg
    have HO3 := Lib.hid hown3
    clear hg hown3 hat hlt3
    go_wp2
    go_ret
    exact ⟨rfl, newPred_fin (p := ⟨4, empty, (wordF lines at_).2⟩) HX.out (belTrans hbw (by repeat first | exact Below.refl _ _ | refine bel ?_ _ | refine belDrew ?_ | refine belDrewN ?_ _ | refine belSet ?_ (by simp) _)) HOWN.out HREL.out (newOk _ _ _ (by decide) empty_size hsz.out) HG.out HO3.out⟩

set_option maxRecDepth 100000 in
set_option maxHeartbeats 2000000 in
theorem pred_n4 (b bx : Nat) (Al : Option Addr) (cl : Nat) (lines : List ByteArray) (at_ : Nat) (vr : Value) (f : ByteArray) (r : Rule) (v : Value) (w : World) (hr : Rdr w b (fun k => k < b) Al cl lines at_ vr f) (hm : MaxCell w) (hx : XR w bx r v) (ho : PR w bx v r.preds) (hbx : b < bx) (hfew : r.preds.length ≤ 5000) (hlt : at_ < lines.length) (hw : (wordF lines at_).1 = ⟨#[112, 114, 101, 102, 105, 120]⟩) (hs : singleF (lines[at_]'hlt) (wordF lines at_).2 = false) :
    Calls Tryz.prog 89 #[.pointer (some ⟨b, 0, none⟩), .pointer (some ⟨bx, 0, none⟩)] w fun e w' => e = .returned (.bool false) ∧ Below w.heap.size w w' := by
  have HR := Lib.hid hr
  have HM := Lib.hid hm
  have HX := Lib.hid hx
  have HO := Lib.hid ho
  have HS := Lib.hid hs
  have HW := Lib.hid hw
  have hsz : Hid ((wordF lines at_).2.size ≤ 5000) := by
    unfold Hid wordF; rw [dif_pos hlt]; exact Nat.le_trans (cutS_len _).2 (hr.small at_ hlt)
  clear hr hm hx ho hs hw
  have i0 := words_at0
  have i1 := words_at1
  have i2 := words_at2
  have i3 := words_at3
  have i4 := words_at4
  go_enter Tryz.func89, Tryz.ntmps89
  go_wp2_with fail
  refine (word_any b _ Al cl lines at_ vr f w HR.out HM.out).mono ?_
  rintro e w1 ⟨rfl, n, rfl⟩
  rw [HW.out]
  go_wp2_with fail
  refine (words_any _).mono ?_
  rintro e w1 ⟨rfl, hb⟩
  go_wp2_with fail
  refine wp_loop_rounds 5 ?_
  rw [rounds_succ]
  go_wp2_with fail
  rw [rounds_succ]
  go_wp2_with fail
  rw [rounds_succ]
  go_wp2_with fail
  rw [rounds_succ]
  go_wp2_with fail
  rw [rounds_succ]
  go_wp2_with fail
  have hbw : Below w.heap.size w w1 := belTrans (belDrewN (Below.refl _ _) n) hb
  have HR2 := (HR.out.below hbw).below (bel (Below.refl _ _) (.cells #[.int .i64 4, .string ⟨#[]⟩, .string (wordF lines at_).2] 68))
  refine (single_any b _ Al cl lines at_ vr f _ _ HR2 hlt).mono ?_
  clear HR2
  rintro e w2 ⟨rfl, n2, rfl⟩
  rw [HS.out]
  go_wp2
  go_ret
  exact ⟨rfl, belTrans hbw (by repeat first | exact Below.refl _ _ | refine bel ?_ _ | refine belDrew ?_ | refine belDrewN ?_ _ | refine belSet ?_ (by simp) _)⟩
end Go.Proofs.YtnbgfpcpfknjoaaGreatDoor
