/- Lemmas and walks of this proof, some texts one behind the other. No condition. -/
import Derived.Test.YtdddhnepanjmfaaGreatDIns
set_option linter.unusedSimpArgs false
set_option linter.unusedVariables false
/- Programs copied into new memory: what the copies own. No condition. -/
namespace Go.Proofs.YtdddhnepanjmfaaGreat
open Go.RowKit
set_option linter.unusedVariables false
attribute [local go_sem] ext_cell ext_frozen ext_lt ext_le ext_le1 lt_s2 lt_s3 lt_s4 lt_s5 lt_s6 ext_lt1 ext_lt2 ext_lt3

/-- Cells stored one behind the other. -/
def setCs (w : World) (g : Nat) : Nat → List Value → World
  | _, [] => w
  | o, c :: cs => setCs (w.setCell ⟨g, o, none⟩ c) g (o + 1) cs
def sets (ys : List Value) : Nat → List Value → List Value
  | _, [] => ys
  | o, c :: cs => sets (ys.set o c) (o + 1) cs
theorem sets_get : ∀ (cs ys : List Value) (o j : Nat), o + cs.length ≤ ys.length → (sets ys o cs)[j]? = if o ≤ j ∧ j < o + cs.length then cs[j - o]? else ys[j]?
  | [], ys, o, j, h => by
    rw [if_neg (by simp only [List.length_nil]; omega)]
    rfl
  | c :: cs, ys, o, j, h => by
    simp only [List.length_cons] at h ⊢
    rw [sets, sets_get cs (ys.set o c) (o + 1) j (by rw [List.length_set]; omega), List.getElem?_set]
    by_cases h1 : o = j
    · subst h1
      have h2 : ¬ (o + 1 ≤ o ∧ o < o + 1 + cs.length) := by omega
      have h3 : o ≤ o ∧ o < o + (cs.length + 1) := by omega
      rw [if_neg h2, if_pos rfl, if_pos h3, if_pos (by omega)]
      simp
    · by_cases h2 : o + 1 ≤ j ∧ j < o + 1 + cs.length
      · have h3 : o ≤ j ∧ j < o + (cs.length + 1) := by omega
        rw [if_pos h2, if_pos h3, show j - o = (j - (o + 1)) + 1 from by omega, List.getElem?_cons_succ]
      · have h3 : ¬ (o ≤ j ∧ j < o + (cs.length + 1)) := by omega
        rw [if_neg h2, if_neg h3, if_neg h1]
theorem own_sets {base : Nat} {e : TypeId} {size n cap g : Nat} : ∀ (cs : List Value) (w : World) (xs : List Value) (o : Nat), w.ownsRow base e size (.slice (some ⟨g, 0, none⟩) n cap) n xs →
    (setCs w g o cs).ownsRow base e size (.slice (some ⟨g, 0, none⟩) n cap) n (sets xs o cs) ∧ w.grownBy (setCs w g o cs) (some g)
  | [], w, xs, o, h => ⟨h, World.grownBy.refl w _⟩
  | c :: cs, w, xs, o, h => by
    obtain ⟨h1, h2⟩ := h.stored o c
    obtain ⟨h3, h4⟩ := own_sets cs _ _ (o + 1) h1
    exact ⟨h3, grownBy_trans h2 h4⟩
/-- A cell of a row that is owned is there. -/
theorem own_some {w : World} {base : Nat} {e : TypeId} {size n cap g : Nat} {xs : List Value} (h : w.ownsRow base e size (.slice (some ⟨g, 0, none⟩) n cap) n xs) {j : Nat} (hj : j < n * size) : ∃ y, w.cell? ⟨g, j, none⟩ = some y := by
  have hl := h.1
  have := h.cellAt j (by omega)
  exact ⟨xs[j]'(by omega), by rw [this, List.getElem?_eq_getElem (by omega)]⟩
/-- One element more is written. -/
theorem pre_step {α : Type} {f : α → List Value} {C : Nat} (hf : ∀ x, (f x).length = C) {ms : List α} {ys : List Value} {N : Nat} (m : α) (hl : ys.length = N) (hN : ms.length * C + C ≤ N)
    (h : ∀ j, j < ms.length * C → ys[j]? = (ms.flatMap f)[j]?) : ∀ j, j < (ms ++ [m]).length * C → (sets ys (ms.length * C) (f m))[j]? = ((ms ++ [m]).flatMap f)[j]? := by
  intro j hj
  have hfl := flat_len f C hf ms
  rw [List.length_append, List.length_singleton, Nat.succ_mul] at hj
  rw [sets_get _ _ _ _ (by rw [hf]; omega), hf, List.flatMap_append]
  by_cases h1 : j < ms.length * C
  · rw [if_neg (by omega), List.getElem?_append_left (by omega)]
    exact h j h1
  · rw [if_pos (by omega), List.getElem?_append_right (by omega), hfl]
    simp
theorem pre_all {α : Type} {f : α → List Value} {C : Nat} (hf : ∀ x, (f x).length = C) {ms : List α} {ys : List Value} {n : Nat} (hl : ys.length = n * C) (hm : ms.length = n)
    (h : ∀ j, j < ms.length * C → ys[j]? = (ms.flatMap f)[j]?) : ys = ms.flatMap f := by
  subst hm
  apply List.ext_getElem?
  intro j
  by_cases hj : j < ms.length * C
  · exact h j hj
  · rw [List.getElem?_eq_none (by omega), List.getElem?_eq_none (by rw [flat_len f C hf]; omega)]

theorem ins_len (i : Ins) : i.cells.length = 8 := rfl
/-- One instruction of a slice that is read. -/
theorem rdI_at {w : World} {a : Option Addr} {n : Nat} {is : List Ins} (h : RdL EIns 8 w a n is) {k : Nat} (hk : k < n) : ∃ b off op d ia ib rel lo hi to, a = some ⟨b, off, none⟩ ∧ is[k]? = some ⟨op, d, ia, ib, rel, lo, hi, to⟩ ∧
    w.cell? ⟨b, off + k * 8, none⟩ = some (.int .i64 op) ∧ w.cell? ⟨b, off + k * 8 + 1, none⟩ = some (.int .i64 d) ∧ w.cell? ⟨b, off + k * 8 + 2, none⟩ = some (.int .i64 ia) ∧ w.cell? ⟨b, off + k * 8 + 3, none⟩ = some (.int .i64 ib) ∧
    w.cell? ⟨b, off + k * 8 + 4, none⟩ = some (.int .i64 rel) ∧ w.cell? ⟨b, off + k * 8 + 5, none⟩ = some (.int .i64 lo) ∧ w.cell? ⟨b, off + k * 8 + 6, none⟩ = some (.int .i64 hi) ∧ w.cell? ⟨b, off + k * 8 + 7, none⟩ = some (.int .i64 to) ∧ b < w.heap.size := by
  obtain ⟨b, off, ⟨op, d, ia, ib, rel, lo, hi, to⟩, cs, rfl, hx, _, hc, rfl⟩ := h.at_ hk
  exact ⟨b, off, op, d, ia, ib, rel, lo, hi, to, rfl, hx, hc 0 _ rfl, hc 1 _ rfl, hc 2 _ rfl, hc 3 _ rfl, hc 4 _ rfl, hc 5 _ rfl, hc 6 _ rfl, hc 7 _ rfl, h.lt (by omega) rfl⟩
/-- One procedure of a slice that is read. -/
theorem rdP_at {w : World} {a : Option Addr} {n : Nat} {ps : List Prc} (h : RdP w a n ps) {k : Nat} (hk : k < n) : ∃ b off lo hi is ia ic, a = some ⟨b, off, none⟩ ∧ ps[k]? = some ⟨lo, hi, is⟩ ∧
    w.cell? ⟨b, off + k * 3, none⟩ = some (.int .i64 lo) ∧ w.cell? ⟨b, off + k * 3 + 1, none⟩ = some (.int .i64 hi) ∧ w.cell? ⟨b, off + k * 3 + 2, none⟩ = some (.slice ia is.length ic) ∧ b < w.heap.size ∧
    RdL EIns 8 w ia is.length is ∧ is.length ≤ ic ∧ ic ≤ maxLen := by
  obtain ⟨b, off, ⟨lo, hi, is⟩, cs, rfl, hx, _, hc, ⟨ia, ic, rfl, h1, h2, h3⟩⟩ := h.at_ hk
  exact ⟨b, off, lo, hi, is, ia, ic, rfl, hx, hc 0 _ rfl, hc 1 _ rfl, hc 2 _ rfl, h.lt (by omega) rfl, h1, h2, h3⟩

theorem insInfo : (Tryz.prog.info? 103).map (fun i => (i.zero, i.size, i.bytes)) = some (some (.agg #[.int .i64 0, .int .i64 0, .int .i64 0, .int .i64 0, .int .i64 0, .int .i64 0, .int .i64 0, .int .i64 0]), 8, 64) := by kernel_rfl
set_option maxHeartbeats 2000000 in
theorem toInsInsS (a : Option Addr) (n cap : Nat) (is : List Ins) (w : World) (hr : RdL EIns 8 w a n is) (hm : n ≤ 1048576) :
    Calls Tryz.prog 83 #[.slice a n cap] w fun e w' => ∃ v, e = .returned v ∧ w'.ownsRow w.heap.size 103 8 v n (is.flatMap Ins.cells) ∧ Grew w w' := by
  have hl := hr.len
  obtain ⟨i0, hi, hz0, hz1, hz2⟩ := info_parts insInfo
  obtain ⟨w1, hmk, hown, hgr⟩ := run_make_full (P := Tryz.prog) w w.heap.size 93 103 i0 (.agg #[.int .i64 0, .int .i64 0, .int .i64 0, .int .i64 0, .int .i64 0, .int .i64 0, .int .i64 0, .int .i64 0]) 8 Tryz.underlying93 hi hz0 hz1 .i64 .i64 n (by rw [hz2]; omega) (by unfold maxLen; omega) (Nat.le_refl _)
  have HB := Lib.hid (Below.of_grownBy hgr (Nat.le_refl _) (fun k e => nomatch e)); clear hgr
  have HR := Lib.hid hr; clear hr
  have HL := Lib.hid hl; clear hl
  have HO := Lib.hid hown; clear hown
  clear hi hz0 hz1 hz2
  go_enter Tryz.func83, Tryz.ntmps83
  go_wp2
  clear hmk
  go_loopw [4] (fun i wr => ∃ k : Nat, k ≤ n ∧ i = .int .i64 k ∧ Grew w wr ∧ ∃ ys, wr.ownsRow w.heap.size 103 8 (.slice (some ⟨w.heap.size, 0, none⟩) n n) n ys ∧ ∀ j, j < (is.take k).length * 8 → ys[j]? = ((is.take k).flatMap Ins.cells)[j]?) (fun i _ => n - (intOf i).toNat)
  case atStart => exact ⟨0, Nat.zero_le _, rfl, HB.out, _, HO.out, fun j hj => absurd hj (by simp)⟩
  case round =>
    obtain ⟨k, hk, rfl, hg, ys, how, hys⟩ := hrel
    by_cases hlt : k < n
    · obtain ⟨b, off, op, d, ia, ib, rel, lo, hi, to, rfl, hx, c0, c1, c2, c3, c4, c5, c6, c7, hb⟩ := rdI_at (HR.out.grew stays_ins hg) hlt
      have HX := Lib.hid hx; clear hx
      have HH := Lib.hid hys; clear hys
      have HG := Lib.hid hg; clear hg
      have HW := Lib.hid how; clear how
      go_wp2_with fail
      ((with_reducible refine (toInsIns ⟨op, d, ia, ib, rel, lo, hi, to⟩ _).mono ?_); rintro e w2 ⟨rfl, g2⟩)
      have HW2 := Lib.hid (owns_grew HW.out g2)
      obtain ⟨y0, e0⟩ := own_some HW2.out (j := k * 8) (by omega)
      obtain ⟨y1, e1⟩ := own_some HW2.out (j := k * 8 + 1) (by omega)
      obtain ⟨y2, e2⟩ := own_some HW2.out (j := k * 8 + 2) (by omega)
      obtain ⟨y3, e3⟩ := own_some HW2.out (j := k * 8 + 3) (by omega)
      obtain ⟨y4, e4⟩ := own_some HW2.out (j := k * 8 + 4) (by omega)
      obtain ⟨y5, e5⟩ := own_some HW2.out (j := k * 8 + 5) (by omega)
      obtain ⟨y6, e6⟩ := own_some HW2.out (j := k * 8 + 6) (by omega)
      obtain ⟨y7, e7⟩ := own_some HW2.out (j := k * 8 + 7) (by omega)
      have f0 := fun j => HW2.out.frozenAt j
      have G2 := Lib.hid (grew_tr HG.out g2); clear g2
      clear c0 c1 c2 c3 c4 c5 c6 c7
      go_wp2
      go_roundw
      case rel =>
        obtain ⟨ho', hg'⟩ := own_sets (Ins.cells ⟨op, d, ia, ib, rel, lo, hi, to⟩) _ _ (k * 8) HW2.out
        have hkl : (is.take k).length = k := by rw [List.length_take]; have := HL.out; omega
        have hst := pre_step (f := Ins.cells) ins_len ⟨op, d, ia, ib, rel, lo, hi, to⟩ HW2.out.1 (by rw [hkl]; omega) HH.out
        rw [hkl, ← take_get HX.out] at hst
        exact ⟨k + 1, by omega, by go_num, G2.out.grown hg' G2.out.size (fun j hj => by obtain rfl := Option.some.inj hj; exact Nat.le_refl _), _, ho', hst⟩
      case measure => simp [intOf]; omega
    · have hfin : ys = is.flatMap Ins.cells := by
        have h2 := HL.out
        rw [List.take_of_length_le (by omega)] at hys
        exact pre_all ins_len how.1 h2 hys
      subst hfin
      clear hys
      have HO := Lib.hid how; clear how
      have HG := Lib.hid hg; clear hg
      go_wp2
      go_ret
      exact ⟨_, rfl, HO.out, HG.out⟩

/-- What a copied program owns: a row of procedures, and for each its row of instructions. -/
def prcCells (m : Prc × Value) : List Value := [.int .i64 m.1.lo, .int .i64 m.1.hi, m.2]
theorem prc_len (m : Prc × Value) : (prcCells m).length = 3 := rfl
def OwnP (w : World) (B : Nat) (v : Value) (n : Nat) (ms : List (Prc × Value)) : Prop :=
  ms.length = n ∧ w.ownsRow B 95 3 v n (ms.flatMap prcCells) ∧ ∀ m, m ∈ ms → w.ownsRow B 103 8 m.2 m.1.code.length (m.1.code.flatMap Ins.cells)

theorem rdI_of_own {w : World} {B n cap : Nat} {a : Option Addr} {is : List Ins} (hn : is.length = n) (h : w.ownsRow B 103 8 (.slice a n cap) n (is.flatMap Ins.cells)) : RdL EIns 8 w a n is :=
  rdl_of_rd Ins.cells (by omega) ins_len hn (owns_rd h) (fun x _ => rfl)
theorem OwnP.rd {w : World} {B n cap : Nat} {a : Option Addr} {ms : List (Prc × Value)} (h : OwnP w B (.slice a n cap) n ms) : RdP w a n (ms.map (·.1)) := by
  obtain ⟨hn, h1, h2⟩ := h
  have h3 := rdl_of_rd (E := fun w cs (m : Prc × Value) => EPrc w cs m.1) prcCells (by omega) prc_len hn (owns_rd h1) (fun m hm => by
    obtain ⟨a', c', hv⟩ := owns_slice (h2 m hm)
    have h4 := h2 m hm
    rw [hv] at h4
    exact ⟨a', c', by rw [prcCells, hv], rdI_of_own rfl h4, owns_cap h4⟩)
  refine ⟨by rw [List.length_map]; exact hn, ?_⟩
  rcases h3.2 with h0 | ⟨b, off, e, hc⟩
  · exact .inl h0
  · refine .inr ⟨b, off, e, fun k p hp => ?_⟩
    rw [List.getElem?_map, Option.map_eq_some_iff] at hp
    obtain ⟨m, hm, rfl⟩ := hp
    exact hc k m hm
theorem OwnP.chg {F : Nat → Prop} {w w' : World} {B n : Nat} {v : Value} {ms : List (Prc × Value)} (h : OwnP w B v n ms) (hc : Chg F w w') (hF : ∀ b, B ≤ b → b < w.heap.size → ¬ F b) : OwnP w' B v n ms :=
  ⟨h.1, owns_chg h.2.1 hc (fun b hb => hF b (h.2.1.lt b hb).1 (h.2.1.lt b hb).2), fun m hm => owns_chg (h.2.2 m hm) hc (fun b hb => hF b ((h.2.2 m hm).lt b hb).1 ((h.2.2 m hm).lt b hb).2)⟩
theorem OwnP.grew {w w' : World} {B n : Nat} {v : Value} {ms : List (Prc × Value)} (h : OwnP w B v n ms) (hc : Grew w w') : OwnP w' B v n ms :=
  h.chg (Chg.of_below (F := fun _ => False) hc) (fun _ _ _ hf => hf)

theorem toPrcProc (lo hi : Int) (a : Option Addr) (n cap : Nat) (is : List Ins) (w : World) (hr : RdL EIns 8 w a n is) (hm : n ≤ 1048576) :
    Calls Tryz.prog 47 #[.agg #[.int .i64 lo, .int .i64 hi, .slice a n cap]] w fun e w' => ∃ v, e = .returned (.agg #[.int .i64 lo, .int .i64 hi, v]) ∧ w'.ownsRow w.heap.size 103 8 v n (is.flatMap Ins.cells) ∧ Grew w w' := by
  have HR := Lib.hid hr; clear hr
  go_enter Tryz.func47, Tryz.ntmps47
  go_wp2_with fail
  refine (toInsInsS _ _ _ is _ (HR.out.grew stays_ins (by unfold Grew; go_grown)) hm).mono ?_
  rintro e w1 ⟨v1, rfl, o1, g1⟩
  obtain ⟨a1, c1, rfl⟩ := owns_slice o1
  obtain ⟨x, rfl⟩ := ext_of g1
  have O1 := Lib.hid o1; clear o1 g1
  go_wp2
  go_returns
  refine ⟨_, rfl, owns_mono (owns_set (owns_set (owns_set (owns_set O1.out (by simp) _) (by simp) _) (by simp) _) (by simp) _) (by simp; omega), ?_⟩
  exact gr

theorem prcInfo : (Tryz.prog.info? 95).map (fun i => (i.zero, i.size, i.bytes)) = some (some (.agg #[.int .i64 0, .int .i64 0, .slice none 0 0]), 3, 40) := by kernel_rfl
set_option maxHeartbeats 2000000 in
theorem toPrcProcS (a : Option Addr) (n cap : Nat) (ps : List Prc) (w : World) (hr : RdP w a n ps) (hm : n ≤ 1048576) (hc : ∀ p, p ∈ ps → p.code.length ≤ 1048576) :
    Calls Tryz.prog 23 #[.slice a n cap] w fun e w' => ∃ v ms, e = .returned v ∧ OwnP w' w.heap.size v n ms ∧ ms.map (·.1) = ps ∧ Grew w w' := by
  have hl := hr.len
  obtain ⟨i0, hi, hz0, hz1, hz2⟩ := info_parts prcInfo
  obtain ⟨w1, hmk, hown, hgr⟩ := run_make_full (P := Tryz.prog) w w.heap.size 32 95 i0 (.agg #[.int .i64 0, .int .i64 0, .slice none 0 0]) 3 Tryz.underlying32 hi hz0 hz1 .i64 .i64 n (by rw [hz2]; omega) (by unfold maxLen; omega) (Nat.le_refl _)
  have HB := Lib.hid (Below.of_grownBy hgr (Nat.le_refl _) (fun k e => nomatch e)); clear hgr
  have HR := Lib.hid hr; clear hr
  have HL := Lib.hid hl; clear hl
  have HO := Lib.hid hown; clear hown
  have HC := Lib.hid hc; clear hc
  clear hi hz0 hz1 hz2
  go_enter Tryz.func23, Tryz.ntmps23
  go_wp2
  clear hmk
  go_loopw [4] (fun i wr => ∃ k : Nat, k ≤ n ∧ i = .int .i64 k ∧ Grew w wr ∧ ∃ (ys : List Value) (ms : List (Prc × Value)), wr.ownsRow w.heap.size 95 3 (.slice (some ⟨w.heap.size, 0, none⟩) n n) n ys ∧ ms.map (·.1) = ps.take k ∧
    (∀ m, m ∈ ms → w.heap.size < wr.heap.size ∧ wr.ownsRow (w.heap.size + 1) 103 8 m.2 m.1.code.length (m.1.code.flatMap Ins.cells)) ∧ ∀ j, j < ms.length * 3 → ys[j]? = (ms.flatMap prcCells)[j]?) (fun i _ => n - (intOf i).toNat)
  case atStart => exact ⟨0, Nat.zero_le _, rfl, HB.out, _, [], HO.out, by simp, by simp, fun j hj => absurd hj (by simp)⟩
  case round =>
    obtain ⟨k, hk, rfl, hg, ys, ms, how, hms, hmo, hys⟩ := hrel
    by_cases hlt : k < n
    · obtain ⟨b, off, lo, hi, is, ia, ic, rfl, hx, c0, c1, c2, hb, hi1, hi2, hi3⟩ := rdP_at (HR.out.grew hg) hlt
      have HX := Lib.hid hx; clear hx
      have HH := Lib.hid hys; clear hys
      have HG := Lib.hid hg; clear hg
      have HW := Lib.hid how; clear how
      have HM := Lib.hid hms; clear hms
      have HN := Lib.hid hmo; clear hmo
      have HI := Lib.hid hi1; clear hi1
      have hlen : is.length ≤ 1048576 := HC.out _ (List.mem_of_getElem? HX.out)
      clear hi2 hi3
      go_wp2_with fail
      refine (toPrcProc lo hi ia is.length ic is _ HI.out hlen).mono ?_
      rintro e w2 ⟨v2, rfl, o2, g2⟩
      obtain ⟨a2, cp2, rfl⟩ := owns_slice o2
      have HW2 := Lib.hid (owns_grew HW.out g2)
      obtain ⟨y0, e0⟩ := own_some HW2.out (j := k * 3) (by omega)
      obtain ⟨y1, e1⟩ := own_some HW2.out (j := k * 3 + 1) (by omega)
      obtain ⟨y2, e2⟩ := own_some HW2.out (j := k * 3 + 2) (by omega)
      have f0 := fun j => HW2.out.frozenAt j
      have hsz : w.heap.size < wr.heap.size := by
        have := World.block_lt_of_cell? _ _ (own_some HW.out (j := k * 3) (by omega)).choose_spec
        exact this
      have HN2 := Lib.hid (fun m hm => (owns_grew (HN.out m hm).2 g2 : w2.ownsRow (w.heap.size + 1) 103 8 m.2 m.1.code.length (m.1.code.flatMap Ins.cells))); clear HN
      have O2 := Lib.hid (owns_mono (base' := w.heap.size + 1) o2 (by omega)); clear o2
      have hsz2 : w.heap.size < w2.heap.size := Nat.lt_of_lt_of_le hsz g2.size
      have G2 := Lib.hid (grew_tr HG.out g2); clear g2
      clear c0 c1 c2
      go_wp2
      go_roundw
      case rel =>
        obtain ⟨ho', hg'⟩ := own_sets (prcCells (⟨lo, hi, is⟩, .slice a2 is.length cp2)) _ _ (k * 3) HW2.out
        have hkl : ms.length = k := by rw [← List.length_map (f := (·.1)), HM.out, List.length_take]; have := HL.out; omega
        have hst := pre_step (f := prcCells) prc_len (⟨lo, hi, is⟩, .slice a2 is.length cp2) HW2.out.1 (by rw [hkl]; omega) HH.out
        rw [hkl] at hst
        have hown : ∀ (u : Value) (N : Nat) (xs : List Value), w2.ownsRow (w.heap.size + 1) 103 8 u N xs → (setCs w2 w.heap.size (k * 3) (prcCells (⟨lo, hi, is⟩, .slice a2 is.length cp2))).ownsRow (w.heap.size + 1) 103 8 u N xs :=
          fun u N xs h => owns_chg h (Chg.of_grownBy hg') (fun b hb e => by have := (h.lt b hb).1; simp only [Option.some.injEq] at e; omega)
        refine ⟨k + 1, by omega, by go_num, G2.out.grown hg' G2.out.size (fun j hj => by obtain rfl := Option.some.inj hj; exact Nat.le_refl _), _, ms ++ [(⟨lo, hi, is⟩, .slice a2 is.length cp2)], ho', by rw [List.map_append, HM.out, take_get HX.out]; rfl, fun m hm => ⟨Nat.lt_of_lt_of_le hsz2 hg'.size, ?_⟩, hst⟩
        rcases List.mem_append.1 hm with hm | hm
        · exact hown _ _ _ (HN2.out m hm)
        · obtain rfl := List.mem_singleton.1 hm
          exact hown _ _ _ O2.out
      case measure => simp [intOf]; omega
    · have hml : ms.length = n := by rw [← List.length_map (f := (·.1)), hms, List.length_take]; have := HL.out; omega
      have hfin : ys = ms.flatMap prcCells := pre_all prc_len how.1 hml hys
      have hmp : ms.map (·.1) = ps := by rw [hms]; exact List.take_of_length_le (by have := HL.out; omega)
      subst hfin
      clear hys
      have HO := Lib.hid how; clear how
      have HG := Lib.hid hg; clear hg
      have HM := Lib.hid hmp; clear hmp hms
      have HN := Lib.hid hmo; clear hmo
      have HK := Lib.hid hml; clear hml
      go_wp2
      go_ret
      exact ⟨_, ms, rfl, ⟨HK.out, HO.out, fun m hm => owns_mono (HN.out m hm).2 (by omega)⟩, HM.out, HG.out⟩

theorem toPrgProg (a : Option Addr) (n cap : Nat) (ps : List Prc) (w : World) (hr : RdP w a n ps) (hm : n ≤ 1048576) (hc : ∀ p, p ∈ ps → p.code.length ≤ 1048576) :
    Calls Tryz.prog 7 #[.agg #[.slice a n cap]] w fun e w' => ∃ v ms, e = .returned (.agg #[v]) ∧ OwnP w' w.heap.size v n ms ∧ ms.map (·.1) = ps ∧ Grew w w' := by
  have HR := Lib.hid hr; clear hr
  have HC := Lib.hid hc; clear hc
  go_enter Tryz.func7, Tryz.ntmps7
  go_wp2_with fail
  refine (toPrcProcS _ _ _ ps _ (HR.out.grew (by unfold Grew; go_grown)) hm HC.out).mono ?_
  rintro e w1 ⟨v1, ms, rfl, o1, hms, g1⟩
  obtain ⟨a1, c1, rfl⟩ := owns_slice o1.2.1
  obtain ⟨x, rfl⟩ := ext_of g1
  have O1 := Lib.hid o1; clear o1 g1
  have HM := Lib.hid hms; clear hms
  go_wp2
  go_returns
  refine ⟨_, ms, rfl, ⟨O1.out.1, owns_mono (owns_set (owns_set O1.out.2.1 (by simp) _) (by simp) _) (by simp; omega), fun m hm => owns_mono (owns_set (owns_set (O1.out.2.2 m hm) (by simp) _) (by simp) _) (by simp; omega)⟩, HM.out, ?_⟩
  exact gr
end Go.Proofs.YtdddhnepanjmfaaGreat

/- Contracts of codeOf and of the reference's l3Form. No condition. -/
namespace Go.Proofs.YtdddhnepanjmfaaGreat
open Go.RowKit
set_option linter.unusedVariables false

/-- What codeOf makes of an instruction. -/
def codeV (i : Ins) : Value :=
  if i.op = 1 ∨ i.op = 2 ∨ i.op = 3 ∨ i.op = 4 then .iface 205 (.agg #[.int .i64 i.op, .int .i64 i.d, .int .i64 i.a, .int .i64 i.b])
  else if i.op = 5 then .iface 192 (.agg #[.int .i64 i.d, .int .i64 i.lo, .int .i64 i.hi])
  else if i.op = 6 then .iface 207 (.agg #[.int .i64 i.d, .int .i64 i.a])
  else if i.op = 7 then .iface 209 (.agg #[.int .i64 i.a, .int .i64 i.b])
  else if i.op = 8 then .iface 194 (.agg #[.int .i64 i.rel, .int .i64 i.a, .int .i64 i.b, .int .i64 i.to])
  else if i.op = 9 then .iface 196 (.agg #[.int .i64 i.to])
  else if i.op = 10 then .iface 198 (.agg #[.int .i64 i.d, .int .i64 i.a, .int .i64 i.to])
  else if i.op = 11 then .iface 200 (.agg #[.int .i64 i.rel, .int .i64 i.a, .int .i64 i.b])
  else if i.op = 12 then .iface 229 (.agg #[.int .i64 i.a])
  else .nilIface

theorem opCases (op : Int) : op = 1 ∨ op = 2 ∨ op = 3 ∨ op = 4 ∨ op = 5 ∨ op = 6 ∨ op = 7 ∨ op = 8 ∨ op = 9 ∨ op = 10 ∨ op = 11 ∨ op = 12 ∨ (op ≠ 1 ∧ op ≠ 2 ∧ op ≠ 3 ∧ op ≠ 4 ∧ op ≠ 5 ∧ op ≠ 6 ∧ op ≠ 7 ∧ op ≠ 8 ∧ op ≠ 9 ∧ op ≠ 10 ∧ op ≠ 11 ∧ op ≠ 12) := by omega

set_option maxRecDepth 100000 in
set_option maxHeartbeats 8000000 in
theorem codeOf (i : Ins) (w : World) :
    Calls Tryz.prog 120 #[i.v] w fun e w' => e = .returned (codeV i) ∧ Grew w w' := by
  obtain ⟨op, d, a, b, rel, lo, hi, to⟩ := i
  rcases opCases op with rfl | rfl | rfl | rfl | rfl | rfl | rfl | rfl | rfl | rfl | rfl | rfl | ⟨n1, n2, n3, n4, n5, n6, n7, n8, n9, n10, n11, n12⟩
  · go_enter Tryz.func120, Tryz.ntmps120
    go_wp2
    go_returns
    exact ⟨rfl, by unfold Grew; go_grown⟩
  · go_enter Tryz.func120, Tryz.ntmps120
    go_wp2
    go_returns
    exact ⟨rfl, by unfold Grew; go_grown⟩
  · go_enter Tryz.func120, Tryz.ntmps120
    go_wp2
    go_returns
    exact ⟨rfl, by unfold Grew; go_grown⟩
  · go_enter Tryz.func120, Tryz.ntmps120
    go_wp2
    go_returns
    exact ⟨rfl, by unfold Grew; go_grown⟩
  · go_enter Tryz.func120, Tryz.ntmps120
    go_wp2
    go_returns
    exact ⟨rfl, by unfold Grew; go_grown⟩
  · go_enter Tryz.func120, Tryz.ntmps120
    go_wp2
    go_returns
    exact ⟨rfl, by unfold Grew; go_grown⟩
  · go_enter Tryz.func120, Tryz.ntmps120
    go_wp2
    go_returns
    exact ⟨rfl, by unfold Grew; go_grown⟩
  · go_enter Tryz.func120, Tryz.ntmps120
    go_wp2
    go_returns
    exact ⟨rfl, by unfold Grew; go_grown⟩
  · go_enter Tryz.func120, Tryz.ntmps120
    go_wp2
    go_returns
    exact ⟨rfl, by unfold Grew; go_grown⟩
  · go_enter Tryz.func120, Tryz.ntmps120
    go_wp2
    go_returns
    exact ⟨rfl, by unfold Grew; go_grown⟩
  · go_enter Tryz.func120, Tryz.ntmps120
    go_wp2
    go_returns
    exact ⟨rfl, by unfold Grew; go_grown⟩
  · go_enter Tryz.func120, Tryz.ntmps120
    go_wp2
    go_returns
    exact ⟨rfl, by unfold Grew; go_grown⟩
  · have HV : Hid (codeV ⟨op, d, a, b, rel, lo, hi, to⟩ = .nilIface) := Lib.hid (by unfold codeV; simp [n1, n2, n3, n4, n5, n6, n7, n8, n9, n10, n11, n12])
    have d1 : (op == 1) = false := by simpa using n1
    have d2 : (op == 2) = false := by simpa using n2
    have d3 : (op == 3) = false := by simpa using n3
    have d4 : (op == 4) = false := by simpa using n4
    have d5 : (op == 5) = false := by simpa using n5
    have d6 : (op == 6) = false := by simpa using n6
    have d7 : (op == 7) = false := by simpa using n7
    have d8 : (op == 8) = false := by simpa using n8
    have d9 : (op == 9) = false := by simpa using n9
    have d10 : (op == 10) = false := by simpa using n10
    have d11 : (op == 11) = false := by simpa using n11
    have d12 : (op == 12) = false := by simpa using n12
    clear n1 n2 n3 n4 n5 n6 n7 n8 n9 n10 n11 n12
    go_enter Tryz.func120, Tryz.ntmps120
    go_wp2
    go_returns
    exact ⟨by rw [HV.out]; rfl, by unfold Grew; go_grown⟩

/-- What an instruction has beside what its kind has. -/
def formV (i : Ins) : Ins :=
  if i.op = 1 then ⟨0, 0, 0, 0, i.rel, i.lo, i.hi, i.to⟩
  else if i.op = 2 then ⟨0, 0, 0, 0, i.rel, i.lo, i.hi, i.to⟩
  else if i.op = 3 then ⟨0, 0, 0, 0, i.rel, i.lo, i.hi, i.to⟩
  else if i.op = 4 then ⟨0, 0, 0, 0, i.rel, i.lo, i.hi, i.to⟩
  else if i.op = 5 then ⟨0, 0, i.a, i.b, i.rel, 0, 0, i.to⟩
  else if i.op = 6 then ⟨0, 0, 0, i.b, i.rel, i.lo, i.hi, i.to⟩
  else if i.op = 7 then ⟨0, i.d, 0, 0, i.rel, i.lo, i.hi, i.to⟩
  else if i.op = 8 then ⟨0, i.d, 0, 0, 0, i.lo, i.hi, 0⟩
  else if i.op = 9 then ⟨0, i.d, i.a, i.b, i.rel, i.lo, i.hi, 0⟩
  else if i.op = 10 then ⟨0, 0, 0, i.b, i.rel, i.lo, i.hi, 0⟩
  else if i.op = 11 then ⟨0, i.d, 0, 0, 0, i.lo, i.hi, i.to⟩
  else if i.op = 12 then ⟨0, i.d, 0, i.b, i.rel, i.lo, i.hi, i.to⟩
  else { i with op := 0 }

set_option maxRecDepth 100000 in
set_option maxHeartbeats 8000000 in
theorem l3Form (i : Ins) (w : World) (h1 : 1 ≤ i.op) (h2 : i.op ≤ 12) :
    Calls Tryz.prog 147 #[i.v] w fun e w' => e = .returned (formV i).v ∧ Grew w w' := by
  obtain ⟨op, d, a, b, rel, lo, hi, to⟩ := i
  simp only at h1 h2
  have h : op = 1 ∨ op = 2 ∨ op = 3 ∨ op = 4 ∨ op = 5 ∨ op = 6 ∨ op = 7 ∨ op = 8 ∨ op = 9 ∨ op = 10 ∨ op = 11 ∨ op = 12 := by omega
  rcases h with rfl | rfl | rfl | rfl | rfl | rfl | rfl | rfl | rfl | rfl | rfl | rfl
  · clear h1 h2
    go_enter Tryz.func147, Tryz.ntmps147
    go_wp2
    go_returns
    exact ⟨rfl, by unfold Grew; go_grown⟩
  · clear h1 h2
    go_enter Tryz.func147, Tryz.ntmps147
    go_wp2
    go_returns
    exact ⟨rfl, by unfold Grew; go_grown⟩
  · clear h1 h2
    go_enter Tryz.func147, Tryz.ntmps147
    go_wp2
    go_returns
    exact ⟨rfl, by unfold Grew; go_grown⟩
  · clear h1 h2
    go_enter Tryz.func147, Tryz.ntmps147
    go_wp2
    go_returns
    exact ⟨rfl, by unfold Grew; go_grown⟩
  · clear h1 h2
    go_enter Tryz.func147, Tryz.ntmps147
    go_wp2
    go_returns
    exact ⟨rfl, by unfold Grew; go_grown⟩
  · clear h1 h2
    go_enter Tryz.func147, Tryz.ntmps147
    go_wp2
    go_returns
    exact ⟨rfl, by unfold Grew; go_grown⟩
  · clear h1 h2
    go_enter Tryz.func147, Tryz.ntmps147
    go_wp2
    go_returns
    exact ⟨rfl, by unfold Grew; go_grown⟩
  · clear h1 h2
    go_enter Tryz.func147, Tryz.ntmps147
    go_wp2
    go_returns
    exact ⟨rfl, by unfold Grew; go_grown⟩
  · clear h1 h2
    go_enter Tryz.func147, Tryz.ntmps147
    go_wp2
    go_returns
    exact ⟨rfl, by unfold Grew; go_grown⟩
  · clear h1 h2
    go_enter Tryz.func147, Tryz.ntmps147
    go_wp2
    go_returns
    exact ⟨rfl, by unfold Grew; go_grown⟩
  · clear h1 h2
    go_enter Tryz.func147, Tryz.ntmps147
    go_wp2
    go_returns
    exact ⟨rfl, by unfold Grew; go_grown⟩
  · clear h1 h2
    go_enter Tryz.func147, Tryz.ntmps147
    go_wp2
    go_returns
    exact ⟨rfl, by unfold Grew; go_grown⟩

end Go.Proofs.YtdddhnepanjmfaaGreat
