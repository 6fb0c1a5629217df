/- conf.Read. -/
import Derived.Test.YtnbgfpcpfknjoaaGreatDoorE3
import Derived.Test.YtnbgfpcpfknjoaaGreatDoorC2
import Derived.Lib.SplitLaws
namespace Go.Proofs.YtnbgfpcpfknjoaaGreatDoor
set_option linter.all false
open Go.RowKit

def nl : ByteArray := ⟨#[10]⟩
def linesOf (s : ByteArray) : List ByteArray := Lib.splitB nl 0 (Lib.countB s nl) s
theorem linesOf_length (s : ByteArray) : (linesOf s).length = Lib.countB s nl + 1 := Lib.splitB_all nl (by decide) 0 _ s rfl
theorem countB_nl (s : ByteArray) : Lib.countB s nl ≤ s.size := Lib.countB_le nl (by decide) s.size s (Nat.le_refl _)
def lastOf (s : ByteArray) : ByteArray := (linesOf s).getD (Lib.countB s nl) empty
def headOf (s : ByteArray) : List ByteArray := (linesOf s).take (Lib.countB s nl)
theorem headOf_length (s : ByteArray) : (headOf s).length = Lib.countB s nl := by unfold headOf; rw [List.length_take, linesOf_length]; omega
theorem splitB_small (sep : ByteArray) : ∀ (k : Nat) (s : ByteArray), ∀ x ∈ Lib.splitB sep 0 k s, x.size ≤ s.size
  | 0, s, x, h => by simp [Lib.splitB] at h; rw [h]; exact Nat.le_refl _
  | k + 1, s, x, h => by
    unfold Lib.splitB at h
    split at h
    · simp at h; rw [h]; exact Nat.le_refl _
    · rcases List.mem_cons.1 h with rfl | h
      · rw [ByteArray.size_extract]; omega
      · have := splitB_small sep k _ x h
        rw [ByteArray.size_extract] at this; omega
/-- The config of a text: the line of the error, the error, the rules and the format. -/
def confReadF (s : ByteArray) : Int × Int × List Rule × ByteArray :=
  if 4096 < s.size then (0, 6, [], empty)
  else
    let t := readF (headOf s)
    let f := (headF (headOf s)).2
    if t.2.2 = false ∨ lastOf s ≠ empty then ((t.1 : Int) + 1, 3, [], empty)
    else if cfgChk confOne t.2.1 f ≠ 0 then (0, cfgChk confOne t.2.1 f, [], empty)
    else (0, 0, t.2.1, f)

theorem headF_len {l : List ByteArray} {n : Nat} (hs : ∀ i, ∀ hi : i < l.length, (l[i]'hi).size ≤ n) (hn : n ≤ 5000) : (headF l).2.size ≤ maxLen := by
  unfold headF
  split
  · exact size_max (wordF_len (fun i hi => Nat.le_trans (hs i hi) hn) 0).2
  · show (0 : Nat) ≤ maxLen; omega
def ConfPost (w : World) (o : Int × Int × List Rule × ByteArray) (e : Ending) (w' : World) : Prop :=
  ∃ A c, e = .returned (.tuple #[.agg #[.slice A o.2.2.1.length c, .string o.2.2.2], .int .i64 o.1, .int .i64 o.2.1]) ∧ ruleR.sl w' (fun k => w.heap.size ≤ k ∧ k < w'.heap.size) (.slice A o.2.2.1.length c) o.2.2.1 ∧ o.2.2.2.size ≤ maxLen ∧ Below w.heap.size w w' ∧ MaxCell w'
theorem ConfPost_none {w w' : World} (hm : MaxCell w) (hb : Below w.heap.size w w') {o : Int × Int × List Rule × ByteArray} {n e : Int} (ho : o = (n, e, [], empty)) : ConfPost w o (.returned (.tuple #[.agg #[.slice none 0 0, .string ⟨#[]⟩], .int .i64 n, .int .i64 e])) w' := by
  subst ho
  exact ⟨none, 0, rfl, Rp.sl_nil _ _ _, by show (0 : Nat) ≤ maxLen; omega, hb, hm.below hb⟩

/-- Where the lines of a text lie. -/
structure Lines (w w2 : World) (s : ByteArray) (n : Nat) : Prop where
  below : Below w.heap.size w w2
  size : w2.heap.size = w.heap.size + 1 + 1
  r0 : w2.cell? ⟨w.heap.size, 0, none⟩ = some (.slice none 0 0)
  r1 : w2.cell? ⟨w.heap.size, 1, none⟩ = some (.string ⟨#[]⟩)
  rf : ∀ j, w2.frozen? ⟨w.heap.size, j, none⟩ = false
  sl : strR.sl w2 (fun k => k < w.heap.size + 1 + 1) (.slice (some ⟨w.heap.size + 1, 0, none⟩) n (n + 1)) (headOf s)
  last : w2.cell? ⟨w.heap.size + 1, n, none⟩ = some (.string (lastOf s))
  len : (headOf s).length = n
  small : ∀ i, ∀ hi : i < (headOf s).length, ((headOf s)[i]'hi).size ≤ s.size
  few : n ≤ s.size
theorem headOf_small (s : ByteArray) (i : Nat) (hi : i < (headOf s).length) : ((headOf s)[i]'hi).size ≤ s.size :=
  splitB_small nl _ s _ (List.mem_of_mem_take (List.getElem_mem hi))
theorem lastOf_small (s : ByteArray) : (lastOf s).size ≤ s.size := by
  have h : Lib.countB s nl < (linesOf s).length := by rw [linesOf_length]; omega
  unfold lastOf
  rw [List.getD_eq_getElem?_getD, List.getElem?_eq_getElem h]
  exact splitB_small nl _ s _ (List.getElem_mem h)
theorem lines_made (w : World) (s : ByteArray) (hs : s.size ≤ 4096) (t u : Nat) :
    Lines w ((w.alloc (.cells #[.slice none 0 0, .string ⟨#[]⟩] t)).alloc (.cells ((linesOf s).map Value.string).toArray u)) s (Lib.countB s nl) := by
  have hc : ∀ i, i < (linesOf s).length → ((w.alloc (.cells #[.slice none 0 0, .string ⟨#[]⟩] t)).alloc (.cells ((linesOf s).map Value.string).toArray u)).cell? ⟨w.heap.size + 1, i, none⟩ = some (.string ((linesOf s).getD i empty)) := by
    intro i hi
    rw [World.cell?_alloc_at _ _ _ _ (by simp)]
    simp [List.getElem?_eq_getElem hi]
  refine ⟨bel (bel (Below.refl _ _) _) _, by simp, ?_, ?_, ?_, ?_, ?_, headOf_length s, headOf_small s, countB_nl s⟩
  · exact (Below.cell (p := ⟨w.heap.size, 0, none⟩) (bel (Below.refl _ (w.alloc _)) _) (by simp)).trans (by rw [World.cell?_alloc_at _ _ _ _ rfl]; rfl)
  · exact (Below.cell (p := ⟨w.heap.size, 1, none⟩) (bel (Below.refl _ (w.alloc _)) _) (by simp)).trans (by rw [World.cell?_alloc_at _ _ _ _ rfl]; rfl)
  · intro j
    exact (Below.frozen (p := ⟨w.heap.size, j, none⟩) (bel (Below.refl _ (w.alloc _)) _) (by simp)).trans (World.frozen?_alloc_at _ _ _ _ rfl)
  · refine ⟨some ⟨w.heap.size + 1, 0, none⟩, Lib.countB s nl + 1, by rw [headOf_length], by rw [headOf_length]; omega, by have := countB_nl s; unfold maxLen; omega, fun _ => ⟨w.heap.size + 1, 0, rfl, by omega, by simp, ?_⟩⟩
    intro i x hx
    have hi : i < (headOf s).length := (List.getElem?_eq_some_iff.1 hx).1
    have hx' : x = (headOf s)[i]'hi := ((List.getElem?_eq_some_iff.1 hx).2).symm
    refine ⟨[.string x], ⟨rfl, ?_⟩, fun j u hu => ?_⟩
    · rw [hx']; have := headOf_small s i hi; unfold maxLen; omega
    · rcases j with _ | j
      · simp at hu; subst hu
        have hl : i < (linesOf s).length := by rw [linesOf_length]; rw [headOf_length] at hi; omega
        have := hc i hl
        rw [show (0 + i * strR.sz + 0) = i by simp [strR, Rp.flat]]
        rw [this, hx']
        congr 2
        have e : (headOf s)[i]? = (linesOf s)[i]? := by unfold headOf; rw [List.getElem?_take, if_pos (by rw [headOf_length] at hi; exact hi)]
        rw [List.getElem?_eq_getElem hi, List.getElem?_eq_getElem hl] at e
        rw [List.getD_eq_getElem?_getD, List.getElem?_eq_getElem hl]
        exact (Option.some.inj e).symm
      · simp at hu
  · exact hc _ (by rw [linesOf_length]; omega)

theorem RS.start {w w2 : World} {s : ByteArray} {n : Nat} (h : Lines w w2 s n) (hs : s.size ≤ 4096) (hm : MaxCell w) (t : Nat) :
    RS (w2.alloc (.cells #[.slice (some ⟨w.heap.size + 1, 0, none⟩) n (n + 1), .int .i64 0, .slice none 0 0, .string ⟨#[]⟩] t)) (w2.alloc (.cells #[.slice (some ⟨w.heap.size + 1, 0, none⟩) n (n + 1), .int .i64 0, .slice none 0 0, .string ⟨#[]⟩] t)) w2.heap.size (some ⟨w.heap.size + 1, 0, none⟩) (n + 1) (headOf s) 0 (.slice none 0 0) empty [] := by
  have hsz := h.size
  have hc : ∀ j, (w2.alloc (.cells #[.slice (some ⟨w.heap.size + 1, 0, none⟩) n (n + 1), .int .i64 0, .slice none 0 0, .string ⟨#[]⟩] t)).cell? ⟨w2.heap.size, j, none⟩ = #[Value.slice (some ⟨w.heap.size + 1, 0, none⟩) n (n + 1), .int .i64 0, .slice none 0 0, .string ⟨#[]⟩][j]? := fun j => by rw [World.cell?_alloc_at _ _ _ _ rfl]
  refine ⟨⟨?_, ?_, ?_, ?_, fun j => World.frozen?_alloc_at _ _ _ _ rfl, ?_, by omega, ?_, ?_, Nat.zero_le _⟩, ⟨[], World.ownsRow_nil _ _ _ _, fun i x hx => by simp at hx⟩, Below.refl _ _, (hm.below h.below).below (bel (Below.refl _ _) _), by omega, Nat.zero_le _⟩
  · rw [hc, h.len]; rfl
  · rw [hc]; rfl
  · rw [hc]; rfl
  · rw [hc]; rfl
  · rw [h.len]
    exact Rp.sl_mono (Rp.sl_alloc h.sl _) fun k hk _ => by omega
  · intro i hi; have := h.small i hi; omega
  · have := h.few; rw [h.len]; omega

set_option maxRecDepth 100000 in
set_option maxHeartbeats 4000000 in
theorem confRead_any (s : ByteArray) (w : World) (hm : MaxCell w) (hs : s.size ≤ maxLen) :
    Calls Tryz.prog 21 #[.string s] w (ConfPost w (confReadF s)) := by
  unfold maxLen at hs
  have HM := Lib.hid hm
  by_cases hlong : 4096 < s.size
  · have h1 : decide (4096 < (s.size : Int)) = true := decide_eq_true (by omega)
    have HO : Hid (confReadF s = (0, 6, [], empty)) := by unfold Hid confReadF; rw [if_pos hlong]
    clear hm
    go_enter Tryz.func21, Tryz.ntmps21
    go_wp2
    exact bodyPost_ret (v := .tuple #[.agg #[.slice none 0 0, .string ⟨#[]⟩], .int .i64 0, .int .i64 6]) (by simp [results, Tryz.results21, go_sem]) rfl (ConfPost_none HM.out (by repeat first | exact Below.refl _ _ | refine bel ?_ _ | refine belSet ?_ (by simp) _) HO.out)
  · have h1 : decide (4096 < (s.size : Int)) = false := decide_eq_false (by omega)
    have hm1 : MaxCell (w.alloc (.cells #[.slice none 0 0, .string ⟨#[]⟩] 40)) := hm.below (bel (Below.refl _ _) _)
    obtain ⟨m, hm2⟩ := hm1
    have HM1 := Lib.hid hm2
    clear hm hm2
    go_enter Tryz.func21, Tryz.ntmps21
    go_wp2_with fail
    refine (Tryz.strings_Split s nl m _ (by omega) HM1.out (by decide)).mono ?_
    rintro e w2 ⟨rfl, hw2⟩
    have hL : Lines w w2 s (Lib.countB s nl) := by rw [hw2]; exact lines_made w s (by omega) _ _
    have HL := Lib.hid hL
    have hsz : w2.heap.size = w.heap.size + 1 + 1 := hL.size
    have hsz2 := Lib.hid hsz
    have hfew := hL.few
    clear hw2 hL hsz
    generalize Lib.countB s nl = n at *
    have g1 : ((↑(n + 1) : Int) - 1) = (n : Int) := by omega
    obtain ⟨T, hT⟩ : ∃ T, readF (headOf s) = T := ⟨_, rfl⟩
    obtain ⟨f, hf⟩ : ∃ f, (headF (headOf s)).2 = f := ⟨_, rfl⟩
    have hc := read_any _ _ _ _ _ (RS.start HL.out (by omega) HM.out 82)
    rw [hT, hf] at hc
    have HC := Lib.hid hc
    have HT := Lib.hid hT
    have HF := Lib.hid hf
    clear hc hT hf
    go_wp2_with fail
    refine HC.out.mono ?_
    rintro e w3 ⟨rfl, hp⟩
    have HP := Lib.hid hp
    clear hp HC
    obtain ⟨a, rules, ok⟩ := T
    dsimp only
    have hb3 : Below w2.heap.size w2 w3 := by
      obtain ⟨_, _, g, _⟩ := HP.out
      exact (bel (Below.refl _ w2) _).trans g
    obtain ⟨hcs, hfs⟩ := bcell hb3
    have hls : Hid (w2.heap.size = w.heap.size + 1 + 1) := hsz2
    have lc : w3.cell? ⟨w.heap.size + 1, n, none⟩ = some (.string (lastOf s)) := (hcs _ _ (by rw [hls.out]; omega)).trans HL.out.last
    have rc0 : w3.cell? ⟨w.heap.size, 0, none⟩ = some (.slice none 0 0) := (hcs _ _ (by rw [hls.out]; omega)).trans HL.out.r0
    have rc1 : w3.cell? ⟨w.heap.size, 1, none⟩ = some (.string ⟨#[]⟩) := (hcs _ _ (by rw [hls.out]; omega)).trans HL.out.r1
    have rf0 : w3.frozen? ⟨w.heap.size, 0, none⟩ = false := (hfs _ _ (by rw [hls.out]; omega)).trans (HL.out.rf 0)
    have rf1 : w3.frozen? ⟨w.heap.size, 1, none⟩ = false := (hfs _ _ (by rw [hls.out]; omega)).trans (HL.out.rf 1)
    have HB3 := Lib.hid hb3
    clear hcs hfs hb3 hls
    cases ok
    · have HO : Hid (confReadF s = ((a : Int) + 1, 3, [], empty)) := by unfold Hid confReadF; rw [if_neg hlong, HT.out]; exact if_pos (.inl rfl)
      obtain ⟨vr, hp⟩ := HP.out
      have pc1 := hp.1.c1
      have HP2 := Lib.hid hp
      clear hp HP
      have haf : a ≤ 5000 := by have := HP2.out.1.atm; rw [HL.out.len] at this; omega
      have hlt2 : w.heap.size < w2.heap.size := by have := hsz2.out; omega
      go_wp2_with fail
      go_region
      all_goals
        go_wp2
        refine bodyPost_ret (v := .tuple #[.agg #[.slice none 0 0, .string ⟨#[]⟩], .int .i64 ((a : Int) + 1), .int .i64 3]) (by simp [results, Tryz.results21, go_sem, rc0, rc1]) rfl (ConfPost_none HM.out ?_ HO.out)
        exact belSet (belSet (belDrew (HL.out.below.trans (HB3.out.mono (by omega)))) (by simp) _) (by simp) _
    · have hlt2 : w.heap.size < w2.heap.size := by have := hsz2.out; omega
      by_cases hl : lastOf s = empty
      · obtain ⟨vr, hp1, hp2, hp3, hp4⟩ := HP.out
        have hrr := hp4 rfl
        obtain ⟨A, c, rfl, hcl, hcm⟩ := Rp.own_slice hrr
        have pc2 := hp1.c2
        have pc3 := hp1.c3
        have HP1 := Lib.hid hp1
        have HRR := Lib.hid hrr
        clear hp1 hp2 hp3 hp4 hrr HP hcl hcm
        have hll : (!(lastOf s).toList.isEmpty) = false := by rw [hl, isEmpty_toList]; rfl
        have HLL := Lib.hid hl
        clear hl
        have hfm : f.size ≤ maxLen := by rw [← HF.out]; exact headF_len HL.out.small (by omega)
        have hsl : ruleR.sl w3 (fun k => w.heap.size ≤ k ∧ k < w3.heap.size) (.slice A rules.length c) rules :=
          Rp.own_sl HRR.out (fun k hk _ => ⟨by omega, hk.2.1⟩) (fun k hk hk2 => ⟨by omega, hk2⟩)
        have HSL := Lib.hid hsl
        have HFM := Lib.hid hfm
        clear hsl hfm
        go_wp2_with fail
        refine (confCheck_any rules f _ A c w3 HSL.out HFM.out).mono ?_
        rintro e w4 ⟨rfl, hb4⟩
        have hsz4 : w2.heap.size < w4.heap.size := Nat.lt_of_lt_of_le HP1.out.lt hb4.size
        obtain ⟨hcs, hfs⟩ := bcell hb4
        have hl3 : w2.heap.size < w3.heap.size := HP1.out.lt
        have qc0 : w4.cell? ⟨w.heap.size, 0, none⟩ = some (.slice none 0 0) := (hcs _ _ (by omega)).trans rc0
        have qc1 : w4.cell? ⟨w.heap.size, 1, none⟩ = some (.string ⟨#[]⟩) := (hcs _ _ (by omega)).trans rc1
        have qf0 : w4.frozen? ⟨w.heap.size, 0, none⟩ = false := (hfs _ _ (by omega)).trans rf0
        have qf1 : w4.frozen? ⟨w.heap.size, 1, none⟩ = false := (hfs _ _ (by omega)).trans rf1
        have qp2 : w4.cell? ⟨w2.heap.size, 2, none⟩ = some (.slice A rules.length c) := (hcs _ _ (by omega)).trans pc2
        have qp3 : w4.cell? ⟨w2.heap.size, 3, none⟩ = some (.string f) := (hcs _ _ (by omega)).trans pc3
        have HB4 := Lib.hid hb4
        clear hcs hfs hb4 rc0 rc1 rf0 rf1 pc2 pc3 lc
        by_cases hz : cfgChk confOne rules f = 0
        · have hz' : (cfgChk confOne rules f != 0) = false := by simp [hz]
          have HO : Hid (confReadF s = (0, 0, rules, f)) := by
            unfold Hid confReadF; rw [if_neg hlong, HT.out, HF.out]
            dsimp only
            rw [if_neg (fun e => e.elim (fun e => by cases e) (fun e => e HLL.out)), if_neg (by rw [hz]; decide)]
          clear hz
          go_wp2
          refine bodyPost_ret (v := .tuple #[.agg #[.slice A rules.length c, .string f], .int .i64 0, .int .i64 0]) (by simp [results, Tryz.results21, go_sem, qc0, qc1, qp2, qp3]) rfl ?_
          have hb : Below w.heap.size w w4 := (HL.out.below.trans (HB3.out.mono (by omega))).trans (HB4.out.mono (by omega))
          rw [HO.out]
          refine ⟨A, c, rfl, ?_, HFM.out, belSet (belSet hb (by simp) _) (by simp) _, HM.out.below (belSet (belSet hb (by simp) _) (by simp) _)⟩
          have hfar : ∀ k, w.heap.size < k → ∀ u v : Value, (((w4.setCell ⟨w.heap.size, 0, none⟩ u).setCell ⟨w.heap.size, 0 + 1, none⟩ v).heap[k]?) = w4.heap[k]? := fun k hk u v => (Below.heap_setCell _ _ _ _ (by show k ≠ w.heap.size; omega)).trans (Below.heap_setCell _ _ _ _ (by show k ≠ w.heap.size; omega))
          have h1 : ruleR.sl w4 (fun k => w2.heap.size ≤ k ∧ k < w4.heap.size) (.slice A rules.length c) rules :=
            Rp.sl_below (Rp.own_sl HRR.out (fun k hk hk2 => ⟨by omega, Nat.lt_of_lt_of_le hk2 HB4.out.size⟩) (fun k hk hk2 => ⟨by omega, Nat.lt_of_lt_of_le hk2 HB4.out.size⟩)) HB4.out
          refine Rp.sl_mono (Rp.sl_frame h1 (by simp [World.setCell]) fun k hk _ => hfar k (by omega) _ _) fun k hk _ => ⟨by omega, by simp [World.setCell]; exact hk.2⟩
        · have hz' : (cfgChk confOne rules f != 0) = true := by simp [hz]
          have HO : Hid (confReadF s = (0, cfgChk confOne rules f, [], empty)) := by
            unfold Hid confReadF; rw [if_neg hlong, HT.out, HF.out]
            dsimp only
            rw [if_neg (fun e => e.elim (fun e => by cases e) (fun e => e HLL.out)), if_pos hz]
          clear hz
          go_wp2
          refine bodyPost_ret (v := .tuple #[.agg #[.slice none 0 0, .string ⟨#[]⟩], .int .i64 0, .int .i64 (cfgChk confOne rules f)]) (by simp [results, Tryz.results21, go_sem, qc0, qc1]) rfl (ConfPost_none HM.out ?_ HO.out)
          exact belSet (belSet ((HL.out.below.trans (HB3.out.mono (by omega))).trans (HB4.out.mono (by omega))) (by simp) _) (by simp) _
      · have hll : (!(lastOf s).toList.isEmpty) = true := by rw [isEmpty_toList, Bool.not_eq_true', decide_eq_false_iff_not]; exact fun h => hl (empty_of_size h)
        have HO : Hid (confReadF s = ((a : Int) + 1, 3, [], empty)) := by unfold Hid confReadF; rw [if_neg hlong, HT.out]; exact if_pos (.inr hl)
        obtain ⟨vr, hp⟩ := HP.out
        have pc1 := hp.1.c1
        have HP2 := Lib.hid hp
        clear hp HP hl
        have haf : a ≤ 5000 := by have := HP2.out.1.atm; rw [HL.out.len] at this; omega
        go_wp2_with fail
        go_region
        all_goals
          go_wp2
          refine bodyPost_ret (v := .tuple #[.agg #[.slice none 0 0, .string ⟨#[]⟩], .int .i64 ((a : Int) + 1), .int .i64 3]) (by simp [results, Tryz.results21, go_sem, rc0, rc1]) rfl (ConfPost_none HM.out ?_ HO.out)
          exact belSet (belSet (belDrew (HL.out.below.trans (HB3.out.mono (by omega)))) (by simp) _) (by simp) _
end Go.Proofs.YtnbgfpcpfknjoaaGreatDoor
