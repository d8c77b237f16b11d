/- Runs: their copies and sizes. No condition. -/
import Derived.Test.YtmknnbbhhnmpaaaRunD
import Derived.Test.YtmknnbbhhnmpaaaProgEq
import Derived.Test.YtmknnbbhhnmpaaaState
namespace Go.Proofs.Ytmknnbbhhnmpaaa
open Go.RowKit
set_option linter.unusedVariables false
attribute [local go_sem] ext_cell ext_frozen ext_lt ext_le ext_le1 lt_s2 lt_s3 lt_s4 lt_s5 lt_s6 ext_lt1 ext_lt2 ext_lt3

def frCells (m : Fr × Value × Value) : List Value := [.int .i64 m.1.proc, .int .i64 m.1.pc, m.2.1, m.2.2]
theorem fr_len (m : Fr × Value × Value) : (frCells m).length = 4 := rfl
def OwnF (w : World) (B : Nat) (v : Value) (n : Nat) (ms : List (Fr × Value × Value)) : Prop :=
  ms.length = n ∧ w.ownsRow B 97 4 v n (ms.flatMap frCells) ∧ ∀ m, m ∈ ms → w.ownsRow B 3 1 m.2.1 m.1.vars.length (ints .i64 m.1.vars) ∧ w.ownsRow B 3 1 m.2.2 m.1.cells.length (ints .i64 m.1.cells)
theorem OwnF.rd {w : World} {B n cap : Nat} {a : Option Addr} {ms : List (Fr × Value × Value)} (h : OwnF w B (.slice a n cap) n ms) : RdF w a n (ms.map (·.1)) := by
  obtain ⟨hn, h1, h2⟩ := h
  have h3 := rdl_of_rd (E := fun w cs (m : Fr × Value × Value) => EFr w cs m.1) frCells (by omega) fr_len hn (owns_rd h1) (fun m hm => by
    obtain ⟨h4, h5⟩ := h2 m hm
    obtain ⟨a', c', hv⟩ := owns_slice h4
    obtain ⟨a2, c2, hv2⟩ := owns_slice h5
    rw [hv] at h4
    rw [hv2] at h5
    exact ⟨a', c', a2, c2, by rw [frCells, hv, hv2], owns_rd h4, owns_rd h5, Nat.le_trans (owns_cap h4).1 (owns_cap h4).2, Nat.le_trans (owns_cap h5).1 (owns_cap h5).2⟩)
  refine ⟨by rw [List.length_map]; exact hn, ?_⟩
  rcases h3.2 with h0 | ⟨b, off, e, hc⟩
  · exact .inl h0
  · refine .inr ⟨b, off, e, fun k p hp => ?_⟩
    rw [List.getElem?_map, Option.map_eq_some_iff] at hp
    obtain ⟨m, hm, rfl⟩ := hp
    exact hc k m hm
theorem OwnF.chg {F : Nat → Prop} {w w' : World} {B n : Nat} {v : Value} {ms : List (Fr × Value × Value)} (h : OwnF w B v n ms) (hc : Chg F w w') (hF : ∀ b, B ≤ b → b < w.heap.size → ¬ F b) : OwnF w' B v n ms :=
  ⟨h.1, owns_chg h.2.1 hc (fun b hb => hF b (h.2.1.lt b hb).1 (h.2.1.lt b hb).2), fun m hm => ⟨owns_chg (h.2.2 m hm).1 hc (fun b hb => hF b ((h.2.2 m hm).1.lt b hb).1 ((h.2.2 m hm).1.lt b hb).2), owns_chg (h.2.2 m hm).2 hc (fun b hb => hF b ((h.2.2 m hm).2.lt b hb).1 ((h.2.2 m hm).2.lt b hb).2)⟩⟩
theorem OwnF.grew {w w' : World} {B n : Nat} {v : Value} {ms : List (Fr × Value × Value)} (h : OwnF w B v n ms) (hc : Grew w w') : OwnF w' B v n ms :=
  h.chg (Chg.of_below (F := fun _ => False) hc) (fun _ _ _ hf => hf)

set_option maxHeartbeats 2000000 in
theorem toRunFrame (proc pc : Int) (a : Option Addr) (n cap : Nat) (a' : Option Addr) (n' cap' : Nat) (vs cs : List Int) (w : World) (hr : Rd w a n 1 (ints .i64 vs)) (hr' : Rd w a' n' 1 (ints .i64 cs)) (hm : n ≤ 1048576) (hm' : n' ≤ 1048576) :
    Calls Try.prog 166 #[.agg #[.int .i64 proc, .int .i64 pc, .slice a n cap, .slice a' n' cap']] w fun e w' => ∃ v v', e = .returned (.agg #[.int .i64 proc, .int .i64 pc, v, v']) ∧
      w'.ownsRow w.heap.size 3 1 v n (ints .i64 vs) ∧ w'.ownsRow w.heap.size 3 1 v' n' (ints .i64 cs) ∧ Grew w w' := by
  have HR := Lib.hid hr; clear hr
  have HR' := Lib.hid hr'; clear hr'
  go_enter Try.func166, Try.ntmps166
  go_wp2_with fail
  refine (toIntS a n cap vs _ (HR.out.grew (by repeat (first | with_reducible exact Below.refl _ _ | with_reducible assumption | with_reducible apply grew_ext | with_reducible apply grew_al | with_reducible apply grew_dn | with_reducible apply grew_d | (with_reducible refine grew_set ?_ (by first | omega | (repeat (first | with_reducible exact Nat.le_refl _ | with_reducible apply le_pl | with_reducible apply le_ext | with_reducible apply le_al))) _)))) (by omega)).mono ?_
  rintro e w1 ⟨v1, rfl, o1, g1⟩
  obtain ⟨a1, c1, rfl⟩ := owns_slice o1
  have b0 : Blk w1 w.heap.size 214 #[.int .i64 proc, .int .i64 pc, .slice a n cap, .slice a' n' cap'] := by have h := (((Blk.new w 214 #[.int .i64 proc, .int .i64 pc, .slice a n cap, .slice a' n' cap']).alloc _).alloc _).grew g1; simpa only [World.size_alloc] using h
  have b1 : Blk w1 (w.heap.size + 1) 97 #[.int .i64 0, .int .i64 0, .slice none 0 0, .slice none 0 0] := by have h := ((Blk.new (w.alloc _) 97 #[.int .i64 0, .int .i64 0, .slice none 0 0, .slice none 0 0]).alloc _).grew g1; simpa only [World.size_alloc] using h
  have b2 : Blk w1 (w.heap.size + 1 + 1) 97 #[.int .i64 proc, .int .i64 pc, .slice none 0 0, .slice none 0 0] := by have h := (Blk.new ((w.alloc _).alloc _) 97 #[.int .i64 proc, .int .i64 pc, .slice none 0 0, .slice none 0 0]).grew g1; simpa only [World.size_alloc] using h
  have BW : Hid (Grew w w1) := Lib.hid (grew_tr (grew_al (grew_al (grew_al (Below.refl _ _) _) _) _) g1)
  have s1 := g1.size
  simp only [World.size_alloc] at s1
  have HB0 := Lib.hid b0; have HB1 := Lib.hid b1; have HB2 := Lib.hid b2; clear b0 b1 b2
  have O1 := Lib.hid o1; clear o1 g1
  have q3 : w1.cell? ⟨w.heap.size, 3, none⟩ = some (.slice a' n' cap') := HB0.out.cell 3
  have r2 : w1.cell? ⟨w.heap.size + 1 + 1, 2, none⟩ = some (.slice none 0 0) := HB2.out.cell 2
  have f2 := fun i => HB2.out.frozen i
  go_wp2_with fail
  refine (toIntS a' n' cap' cs _ (HR'.out.grew (grew_set BW.out (by omega) _)) (by omega)).mono ?_
  rintro e w2 ⟨v2, rfl, o2, g2⟩
  obtain ⟨a2, c2, rfl⟩ := owns_slice o2
  clear q3 r2 f2
  have s2 := g2.size
  simp only [World.size_setCell] at s2
  have HC1 := Lib.hid ((HB1.out.far (p := ⟨w.heap.size + 1 + 1, 2, none⟩) (by show w.heap.size + 1 ≠ w.heap.size + 1 + 1; omega) _).grew g2); clear HB1
  have b2 : Blk w2 (w.heap.size + 1 + 1) 97 #[.int .i64 proc, .int .i64 pc, .slice a1 n c1, .slice none 0 0] := (HB2.out.set_ 2 _).grew g2
  have HC2 := Lib.hid b2; clear b2 HB2 HB0
  have O1' := Lib.hid (owns_grew (owns_set O1.out (by simp) _) g2); clear O1
  have BW2 : Hid (Grew w w2) := Lib.hid (grew_tr (grew_set BW.out (by omega) _) g2); clear BW
  have O2 := Lib.hid o2; clear o2 g2
  have r0 : w2.cell? ⟨w.heap.size + 1 + 1, 0, none⟩ = some (.int .i64 proc) := HC2.out.cell 0
  have r1 : w2.cell? ⟨w.heap.size + 1 + 1, 1, none⟩ = some (.int .i64 pc) := HC2.out.cell 1
  have r2 : w2.cell? ⟨w.heap.size + 1 + 1, 2, none⟩ = some (.slice a1 n c1) := HC2.out.cell 2
  have r3 : w2.cell? ⟨w.heap.size + 1 + 1, 3, none⟩ = some (.slice none 0 0) := HC2.out.cell 3
  have f2 := fun i => HC2.out.frozen i
  have u0 : w2.cell? ⟨w.heap.size + 1, 0, none⟩ = some (.int .i64 0) := HC1.out.cell 0
  have u1 : w2.cell? ⟨w.heap.size + 1, 1, none⟩ = some (.int .i64 0) := HC1.out.cell 1
  have u2 : w2.cell? ⟨w.heap.size + 1, 2, none⟩ = some (.slice none 0 0) := HC1.out.cell 2
  have u3 : w2.cell? ⟨w.heap.size + 1, 3, none⟩ = some (.slice none 0 0) := HC1.out.cell 3
  have f1 := fun i => HC1.out.frozen i
  go_wp2
  refine bodyPost_ret (by simp [results, Try.results166, go_sem, u0, u1, u2, u3]; try rfl) rfl ?_
  have BW := BW2.out
  refine ⟨_, _, rfl, owns_mono (owns_set (owns_set (owns_set (owns_set (owns_set O1'.out (by simp) _) (by simp) _) (by simp) _) (by simp) _) (by simp) _) (by simp; omega), owns_mono (owns_set (owns_set (owns_set (owns_set (owns_set O2.out (by simp; omega) _) (by simp; omega) _) (by simp; omega) _) (by simp; omega) _) (by simp; omega) _) (by simp; omega), ?_⟩
  repeat (first | with_reducible exact Below.refl _ _ | with_reducible assumption | with_reducible apply grew_ext | with_reducible apply grew_al | with_reducible apply grew_dn | with_reducible apply grew_d | (with_reducible refine grew_set ?_ (by first | omega | (repeat (first | with_reducible exact Nat.le_refl _ | with_reducible apply le_pl | with_reducible apply le_ext | with_reducible apply le_al))) _))
theorem frInfo : (Try.prog.info? 97).map (fun i => (i.zero, i.size, i.bytes)) = some (some (.agg #[.int .i64 0, .int .i64 0, .slice none 0 0, .slice none 0 0]), 4, 64) := by kernel_rfl
theorem frEl : El Try.prog 86 97 (.agg #[.int .i64 0, .int .i64 0, .slice none 0 0, .slice none 0 0]) 4 64 := El.mk' frInfo Try.underlying86 rfl (by omega)

set_option maxHeartbeats 2000000 in
theorem toRunFrameS (a : Option Addr) (n cap : Nat) (fs : List Fr) (w : World) (hr : RdF w a n fs) (hm : n ≤ 1048576) (hc : ∀ p, p ∈ fs → p.vars.length ≤ 1048576 ∧ p.cells.length ≤ 1048576) :
    Calls Try.prog 141 #[.slice a n cap] w fun e w' => ∃ v ms, e = .returned v ∧ OwnF w' w.heap.size v n ms ∧ ms.map (·.1) = fs ∧ Grew w w' := by
  have hl := hr.len
  obtain ⟨i0, hi, hz0, hz1, hz2⟩ := info_parts frInfo
  obtain ⟨w1, hmk, hown, hgr⟩ := run_make_full (P := Try.prog) w w.heap.size 86 97 i0 (.agg #[.int .i64 0, .int .i64 0, .slice none 0 0, .slice none 0 0]) 4 Try.underlying86 hi hz0 hz1 .i64 .i64 n (by rw [hz2]; omega) (by unfold maxLen; omega) (Nat.le_refl _)
  have HB := Lib.hid (Below.of_grownBy hgr (Nat.le_refl _) (fun k e => nomatch e)); clear hgr
  have HR := Lib.hid hr; clear hr
  have HL := Lib.hid hl; clear hl
  have HO := Lib.hid hown; clear hown
  have HC := Lib.hid hc; clear hc
  clear hi hz0 hz1 hz2
  go_enter Try.func141, Try.ntmps141
  go_wp2
  clear hmk
  go_loopw [4] (fun i wr => ∃ k : Nat, k ≤ n ∧ i = .int .i64 k ∧ Grew w wr ∧ ∃ (ys : List Value) (ms : List (Fr × Value × Value)), wr.ownsRow w.heap.size 97 4 (.slice (some ⟨w.heap.size, 0, none⟩) n n) n ys ∧ ms.map (·.1) = fs.take k ∧
    (∀ m, m ∈ ms → w.heap.size < wr.heap.size ∧ (wr.ownsRow (w.heap.size + 1) 3 1 m.2.1 m.1.vars.length (ints .i64 m.1.vars) ∧ wr.ownsRow (w.heap.size + 1) 3 1 m.2.2 m.1.cells.length (ints .i64 m.1.cells))) ∧ ∀ j, j < ms.length * 4 → ys[j]? = (ms.flatMap frCells)[j]?) (fun i _ => n - (intOf i).toNat)
  case atStart => exact ⟨0, Nat.zero_le _, rfl, HB.out, _, [], HO.out, by simp, by simp, fun j hj => absurd hj (by simp)⟩
  case round =>
    obtain ⟨k, hk, rfl, hg, ys, ms, how, hms, hmo, hys⟩ := hrel
    by_cases hlt : k < n
    · obtain ⟨b, off, proc, pc, vs, cs, va, vc, ca, cc, rfl, hx, c0, c1, c2, c3, hb, hi1, hi2, hi3⟩ := rdF_at (HR.out.grew hg) hlt
      have HX := Lib.hid hx; clear hx
      have HH := Lib.hid hys; clear hys
      have HG := Lib.hid hg; clear hg
      have HW := Lib.hid how; clear how
      have HM := Lib.hid hms; clear hms
      have HN := Lib.hid hmo; clear hmo
      have HI := Lib.hid hi1; clear hi1
      have HI2 := Lib.hid hi2; clear hi2
      obtain ⟨hlen, hlen2⟩ : vs.length ≤ 1048576 ∧ cs.length ≤ 1048576 := HC.out ⟨proc, pc, vs, cs⟩ (List.mem_of_getElem? HX.out)
      clear hi3
      go_wp2_with fail
      refine (toRunFrame proc pc va vs.length vc ca cs.length cc vs cs _ HI.out HI2.out hlen hlen2).mono ?_
      rintro e w2 ⟨v2, v3, rfl, o2, o3, g2⟩
      obtain ⟨a2, cp2, rfl⟩ := owns_slice o2
      obtain ⟨a3, cp3, rfl⟩ := owns_slice o3
      have HW2 := Lib.hid (owns_grew HW.out g2)
      obtain ⟨y0, e0⟩ := own_some HW2.out (j := k * 4) (by omega)
      obtain ⟨y1, e1⟩ := own_some HW2.out (j := k * 4 + 1) (by omega)
      obtain ⟨y2, e2⟩ := own_some HW2.out (j := k * 4 + 2) (by omega)
      obtain ⟨y3, e3⟩ := own_some HW2.out (j := k * 4 + 3) (by omega)
      have f0 := fun j => HW2.out.frozenAt j
      have hsz : w.heap.size < wr.heap.size := by
        have := World.block_lt_of_cell? _ _ (own_some HW.out (j := k * 4) (by omega)).choose_spec
        exact this
      have HN2 := Lib.hid (fun m hm => (⟨owns_grew (HN.out m hm).2.1 g2, owns_grew (HN.out m hm).2.2 g2⟩ : (w2.ownsRow (w.heap.size + 1) 3 1 m.2.1 m.1.vars.length (ints .i64 m.1.vars) ∧ w2.ownsRow (w.heap.size + 1) 3 1 m.2.2 m.1.cells.length (ints .i64 m.1.cells)))); clear HN
      have O2 := Lib.hid (owns_mono (base' := w.heap.size + 1) o2 (by omega)); clear o2
      have O3 := Lib.hid (owns_mono (base' := w.heap.size + 1) o3 (by omega)); clear o3
      have hsz2 : w.heap.size < w2.heap.size := Nat.lt_of_lt_of_le hsz g2.size
      have G2 := Lib.hid (grew_tr HG.out g2); clear g2
      clear c0 c1 c2 c3
      go_wp2
      go_roundw
      case rel =>
        obtain ⟨ho', hg'⟩ := own_sets (frCells (⟨proc, pc, vs, cs⟩, .slice a2 vs.length cp2, .slice a3 cs.length cp3)) _ _ (k * 4) HW2.out
        have hkl : ms.length = k := by rw [← List.length_map (f := (·.1)), HM.out, List.length_take]; have := HL.out; omega
        have hst := pre_step (f := frCells) fr_len (⟨proc, pc, vs, cs⟩, .slice a2 vs.length cp2, .slice a3 cs.length cp3) HW2.out.1 (by rw [hkl]; omega) HH.out
        rw [hkl] at hst
        have hown : ∀ (u : Value) (N : Nat) (xs : List Value), w2.ownsRow (w.heap.size + 1) 3 1 u N xs → (setCs w2 w.heap.size (k * 4) (frCells (⟨proc, pc, vs, cs⟩, .slice a2 vs.length cp2, .slice a3 cs.length cp3))).ownsRow (w.heap.size + 1) 3 1 u N xs :=
          fun u N xs h => owns_chg h (Chg.of_grownBy hg') (fun b hb e => by have := (h.lt b hb).1; simp only [Option.some.injEq] at e; omega)
        refine ⟨k + 1, by omega, by go_num, G2.out.grown hg' G2.out.size (fun j hj => by obtain rfl := Option.some.inj hj; exact Nat.le_refl _), _, ms ++ [(⟨proc, pc, vs, cs⟩, .slice a2 vs.length cp2, .slice a3 cs.length cp3)], ho', by rw [List.map_append, HM.out, take_get HX.out]; rfl, fun m hm => ⟨Nat.lt_of_lt_of_le hsz2 hg'.size, ?_⟩, hst⟩
        rcases List.mem_append.1 hm with hm | hm
        · exact ⟨hown _ _ _ (HN2.out m hm).1, hown _ _ _ (HN2.out m hm).2⟩
        · obtain rfl := List.mem_singleton.1 hm
          exact ⟨hown _ _ _ O2.out, hown _ _ _ O3.out⟩
      case measure => simp [intOf]; omega
    · have hml : ms.length = n := by rw [← List.length_map (f := (·.1)), hms, List.length_take]; have := HL.out; omega
      have hfin : ys = ms.flatMap frCells := pre_all fr_len how.1 hml hys
      have hmp : ms.map (·.1) = fs := by rw [hms]; exact List.take_of_length_le (by have := HL.out; omega)
      subst hfin
      clear hys
      have HO := Lib.hid how; clear how
      have HG := Lib.hid hg; clear hg
      have HM := Lib.hid hmp; clear hmp hms
      have HN := Lib.hid hmo; clear hmo
      have HK := Lib.hid hml; clear hml
      go_wp2
      go_ret
      exact ⟨_, ms, rfl, ⟨HK.out, HO.out, fun m hm => ⟨owns_mono (HN.out m hm).2.1 (by omega), owns_mono (HN.out m hm).2.2 (by omega)⟩⟩, HM.out, HG.out⟩


set_option maxHeartbeats 2000000 in
theorem toRunRun (st : Int) (a : Option Addr) (n cap : Nat) (fs : List Fr) (out proc pc : Int) (w : World) (hr : RdF w a n fs) (hm : n ≤ 1048576) (hc : ∀ p, p ∈ fs → p.vars.length ≤ 1048576 ∧ p.cells.length ≤ 1048576) :
    Calls Try.prog 67 #[.agg #[.int .i64 st, .slice a n cap, .int .i64 out, .int .i64 proc, .int .i64 pc]] w fun e w' => ∃ v ms, e = .returned (.agg #[.int .i64 st, v, .int .i64 out, .int .i64 proc, .int .i64 pc]) ∧ OwnF w' w.heap.size v n ms ∧ ms.map (·.1) = fs ∧ Grew w w' := by
  have HR := Lib.hid hr; clear hr
  have HC := Lib.hid hc; clear hc
  go_enter Try.func67, Try.ntmps67
  go_wp2_with fail
  refine (toRunFrameS _ _ _ fs _ (HR.out.grew (by repeat (first | with_reducible exact Below.refl _ _ | with_reducible assumption | with_reducible apply grew_ext | with_reducible apply grew_al | with_reducible apply grew_dn | with_reducible apply grew_d | (with_reducible refine grew_set ?_ (by first | omega | (repeat (first | with_reducible exact Nat.le_refl _ | with_reducible apply le_pl | with_reducible apply le_ext | with_reducible apply le_al))) _)))) hm HC.out).mono ?_
  rintro e w1 ⟨v1, ms, rfl, o1, hms, g1⟩
  obtain ⟨a1, c1, rfl⟩ := owns_slice o1.2.1
  obtain ⟨x, rfl⟩ := ext_of g1
  have O1 := Lib.hid o1; clear o1 g1
  have HM := Lib.hid hms; clear hms
  go_wp2
  go_returns
  refine ⟨_, ms, rfl, ⟨O1.out.1, owns_mono (owns_set (owns_set (owns_set (owns_set (owns_set (owns_set (owns_set (owns_set (owns_set O1.out.2.1 (by simp) _) (by simp) _) (by simp) _) (by simp) _) (by simp) _) (by simp) _) (by simp) _) (by simp) _) (by simp) _) (by simp; omega), fun m hm => ⟨owns_mono (owns_set (owns_set (owns_set (owns_set (owns_set (owns_set (owns_set (owns_set (owns_set (O1.out.2.2 m hm).1 (by simp) _) (by simp) _) (by simp) _) (by simp) _) (by simp) _) (by simp) _) (by simp) _) (by simp) _) (by simp) _) (by simp; omega), owns_mono (owns_set (owns_set (owns_set (owns_set (owns_set (owns_set (owns_set (owns_set (owns_set (O1.out.2.2 m hm).2 (by simp) _) (by simp) _) (by simp) _) (by simp) _) (by simp) _) (by simp) _) (by simp) _) (by simp) _) (by simp) _) (by simp; omega)⟩⟩, HM.out, ?_⟩
  repeat (first | with_reducible exact Below.refl _ _ | with_reducible assumption | with_reducible apply grew_ext | with_reducible apply grew_al | with_reducible apply grew_dn | with_reducible apply grew_d | (with_reducible refine grew_set ?_ (by first | omega | (repeat (first | with_reducible exact Nat.le_refl _ | with_reducible apply le_pl | with_reducible apply le_ext | with_reducible apply le_al))) _))

end Go.Proofs.Ytmknnbbhhnmpaaa
