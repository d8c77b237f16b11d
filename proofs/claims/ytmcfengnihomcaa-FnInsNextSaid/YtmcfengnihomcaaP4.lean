/- Lemmas and walks of this proof, several texts one behind the other. No condition. -/
import Derived.Test.YtmcfengnihomcaaP1
import Derived.Deep.Light
set_option linter.unusedSimpArgs false
set_option linter.unusedVariables false
/- Programs copied into new memory: what the copies own. No condition. -/
namespace Go.Proofs.Ytmcfengnihomcaa
open Go.RowKit
set_option linter.unusedVariables false
attribute [local go_sem] ext_cell ext_frozen ext_lt ext_le ext_le1 lt_s2 lt_s3 lt_s4 lt_s5 lt_s6 ext_lt1 ext_lt2 ext_lt3

/-- Cells stored one behind the other. -/
def setCs (w : World) (g : Nat) : Nat → List Value → World
  | _, [] => w
  | o, c :: cs => setCs (w.setCell ⟨g, o, none⟩ c) g (o + 1) cs
def sets (ys : List Value) : Nat → List Value → List Value
  | _, [] => ys
  | o, c :: cs => sets (ys.set o c) (o + 1) cs
theorem sets_len : ∀ (cs ys : List Value) (o : Nat), (sets ys o cs).length = ys.length
  | [], _, _ => rfl
  | c :: cs, ys, o => by rw [sets, sets_len cs, List.length_set]
theorem sets_get : ∀ (cs ys : List Value) (o j : Nat), o + cs.length ≤ ys.length → (sets ys o cs)[j]? = if o ≤ j ∧ j < o + cs.length then cs[j - o]? else ys[j]?
  | [], ys, o, j, h => by
    rw [if_neg (by simp only [List.length_nil]; omega)]
    rfl
  | c :: cs, ys, o, j, h => by
    simp only [List.length_cons] at h ⊢
    rw [sets, sets_get cs (ys.set o c) (o + 1) j (by rw [List.length_set]; omega), List.getElem?_set]
    by_cases h1 : o = j
    · subst h1
      have h2 : ¬ (o + 1 ≤ o ∧ o < o + 1 + cs.length) := by omega
      have h3 : o ≤ o ∧ o < o + (cs.length + 1) := by omega
      rw [if_neg h2, if_pos rfl, if_pos h3, if_pos (by omega)]
      simp
    · by_cases h2 : o + 1 ≤ j ∧ j < o + 1 + cs.length
      · have h3 : o ≤ j ∧ j < o + (cs.length + 1) := by omega
        rw [if_pos h2, if_pos h3, show j - o = (j - (o + 1)) + 1 from by omega, List.getElem?_cons_succ]
      · have h3 : ¬ (o ≤ j ∧ j < o + (cs.length + 1)) := by omega
        rw [if_neg h2, if_neg h3, if_neg h1]
theorem own_sets {base : Nat} {e : TypeId} {size n cap g : Nat} : ∀ (cs : List Value) (w : World) (xs : List Value) (o : Nat), w.ownsRow base e size (.slice (some ⟨g, 0, none⟩) n cap) n xs →
    (setCs w g o cs).ownsRow base e size (.slice (some ⟨g, 0, none⟩) n cap) n (sets xs o cs) ∧ w.grownBy (setCs w g o cs) (some g)
  | [], w, xs, o, h => ⟨h, World.grownBy.refl w _⟩
  | c :: cs, w, xs, o, h => by
    obtain ⟨h1, h2⟩ := h.stored o c
    obtain ⟨h3, h4⟩ := own_sets cs _ _ (o + 1) h1
    exact ⟨h3, grownBy_trans h2 h4⟩
/-- A cell of a row that is owned is there. -/
theorem own_some {w : World} {base : Nat} {e : TypeId} {size n cap g : Nat} {xs : List Value} (h : w.ownsRow base e size (.slice (some ⟨g, 0, none⟩) n cap) n xs) {j : Nat} (hj : j < n * size) : ∃ y, w.cell? ⟨g, j, none⟩ = some y := by
  have hl := h.1
  have := h.cellAt j (by omega)
  exact ⟨xs[j]'(by omega), by rw [this, List.getElem?_eq_getElem (by omega)]⟩
/-- One element more is written. -/
theorem pre_step {α : Type} {f : α → List Value} {C : Nat} (hf : ∀ x, (f x).length = C) {ms : List α} {ys : List Value} {N : Nat} (m : α) (hl : ys.length = N) (hN : ms.length * C + C ≤ N)
    (h : ∀ j, j < ms.length * C → ys[j]? = (ms.flatMap f)[j]?) : ∀ j, j < (ms ++ [m]).length * C → (sets ys (ms.length * C) (f m))[j]? = ((ms ++ [m]).flatMap f)[j]? := by
  intro j hj
  have hfl := flat_len f C hf ms
  rw [List.length_append, List.length_singleton, Nat.succ_mul] at hj
  rw [sets_get _ _ _ _ (by rw [hf]; omega), hf, List.flatMap_append]
  by_cases h1 : j < ms.length * C
  · rw [if_neg (by omega), List.getElem?_append_left (by omega)]
    exact h j h1
  · rw [if_pos (by omega), List.getElem?_append_right (by omega), hfl]
    simp
theorem pre_all {α : Type} {f : α → List Value} {C : Nat} (hf : ∀ x, (f x).length = C) {ms : List α} {ys : List Value} {n : Nat} (hl : ys.length = n * C) (hm : ms.length = n)
    (h : ∀ j, j < ms.length * C → ys[j]? = (ms.flatMap f)[j]?) : ys = ms.flatMap f := by
  subst hm
  apply List.ext_getElem?
  intro j
  by_cases hj : j < ms.length * C
  · exact h j hj
  · rw [List.getElem?_eq_none (by omega), List.getElem?_eq_none (by rw [flat_len f C hf]; omega)]

theorem ins_len (i : Ins) : i.cells.length = 8 := rfl
theorem ins_one (is : List Ins) : ∀ u ∈ is.flatMap Ins.cells, u.oneCell' = true := by
  intro u hu
  obtain ⟨i, _, hi⟩ := List.mem_flatMap.1 hu
  simp only [Ins.cells, List.mem_cons, List.not_mem_nil, or_false] at hi
  rcases hi with rfl | rfl | rfl | rfl | rfl | rfl | rfl | rfl <;> rfl
/-- One instruction of a slice that is read. -/
theorem rdI_at {w : World} {a : Option Addr} {n : Nat} {is : List Ins} (h : RdL EIns 8 w a n is) {k : Nat} (hk : k < n) : ∃ b off op d ia ib rel lo hi to, a = some ⟨b, off, none⟩ ∧ is[k]? = some ⟨op, d, ia, ib, rel, lo, hi, to⟩ ∧
    w.cell? ⟨b, off + k * 8, none⟩ = some (.int .i64 op) ∧ w.cell? ⟨b, off + k * 8 + 1, none⟩ = some (.int .i64 d) ∧ w.cell? ⟨b, off + k * 8 + 2, none⟩ = some (.int .i64 ia) ∧ w.cell? ⟨b, off + k * 8 + 3, none⟩ = some (.int .i64 ib) ∧
    w.cell? ⟨b, off + k * 8 + 4, none⟩ = some (.int .i64 rel) ∧ w.cell? ⟨b, off + k * 8 + 5, none⟩ = some (.int .i64 lo) ∧ w.cell? ⟨b, off + k * 8 + 6, none⟩ = some (.int .i64 hi) ∧ w.cell? ⟨b, off + k * 8 + 7, none⟩ = some (.int .i64 to) ∧ b < w.heap.size := by
  obtain ⟨b, off, ⟨op, d, ia, ib, rel, lo, hi, to⟩, cs, rfl, hx, _, hc, rfl⟩ := h.at_ hk
  exact ⟨b, off, op, d, ia, ib, rel, lo, hi, to, rfl, hx, hc 0 _ rfl, hc 1 _ rfl, hc 2 _ rfl, hc 3 _ rfl, hc 4 _ rfl, hc 5 _ rfl, hc 6 _ rfl, hc 7 _ rfl, h.lt (by omega) rfl⟩
/-- One procedure of a slice that is read. -/
theorem rdP_at {w : World} {a : Option Addr} {n : Nat} {ps : List Prc} (h : RdP w a n ps) {k : Nat} (hk : k < n) : ∃ b off lo hi is ia ic, a = some ⟨b, off, none⟩ ∧ ps[k]? = some ⟨lo, hi, is⟩ ∧
    w.cell? ⟨b, off + k * 3, none⟩ = some (.int .i64 lo) ∧ w.cell? ⟨b, off + k * 3 + 1, none⟩ = some (.int .i64 hi) ∧ w.cell? ⟨b, off + k * 3 + 2, none⟩ = some (.slice ia is.length ic) ∧ b < w.heap.size ∧
    RdL EIns 8 w ia is.length is ∧ is.length ≤ ic ∧ ic ≤ maxLen := by
  obtain ⟨b, off, ⟨lo, hi, is⟩, cs, rfl, hx, _, hc, ⟨ia, ic, rfl, h1, h2, h3⟩⟩ := h.at_ hk
  exact ⟨b, off, lo, hi, is, ia, ic, rfl, hx, hc 0 _ rfl, hc 1 _ rfl, hc 2 _ rfl, h.lt (by omega) rfl, h1, h2, h3⟩

theorem insInfo : (Try.prog.info? 44).map (fun i => (i.zero, i.size, i.bytes)) = some (some (.agg #[.int .i64 0, .int .i64 0, .int .i64 0, .int .i64 0, .int .i64 0, .int .i64 0, .int .i64 0, .int .i64 0]), 8, 64) := by kernel_rfl
theorem insEl : El Try.prog 55 44 (.agg #[.int .i64 0, .int .i64 0, .int .i64 0, .int .i64 0, .int .i64 0, .int .i64 0, .int .i64 0, .int .i64 0]) 8 64 := El.mk' insInfo Try.underlying55 rfl (by omega)

set_option maxHeartbeats 2000000 in
theorem toInsInsS (a : Option Addr) (n cap : Nat) (is : List Ins) (w : World) (hr : RdL EIns 8 w a n is) (hm : n ≤ 1048576) :
    Calls Try.prog 103 #[.slice a n cap] w fun e w' => ∃ v, e = .returned v ∧ w'.ownsRow w.heap.size 44 8 v n (is.flatMap Ins.cells) ∧ Grew w w' := by
  have hl := hr.len
  obtain ⟨i0, hi, hz0, hz1, hz2⟩ := info_parts insInfo
  obtain ⟨w1, hmk, hown, hgr⟩ := run_make_full (P := Try.prog) w w.heap.size 55 44 i0 (.agg #[.int .i64 0, .int .i64 0, .int .i64 0, .int .i64 0, .int .i64 0, .int .i64 0, .int .i64 0, .int .i64 0]) 8 Try.underlying55 hi hz0 hz1 .i64 .i64 n (by rw [hz2]; omega) (by unfold maxLen; omega) (Nat.le_refl _)
  have HB := Lib.hid (Below.of_grownBy hgr (Nat.le_refl _) (fun k e => nomatch e)); clear hgr
  have HR := Lib.hid hr; clear hr
  have HL := Lib.hid hl; clear hl
  have HO := Lib.hid hown; clear hown
  clear hi hz0 hz1 hz2
  go_enter Try.func103, Try.ntmps103
  go_wp2
  clear hmk
  go_loopw [4] (fun i wr => ∃ k : Nat, k ≤ n ∧ i = .int .i64 k ∧ Grew w wr ∧ ∃ ys, wr.ownsRow w.heap.size 44 8 (.slice (some ⟨w.heap.size, 0, none⟩) n n) n ys ∧ ∀ j, j < (is.take k).length * 8 → ys[j]? = ((is.take k).flatMap Ins.cells)[j]?) (fun i _ => n - (Go.RowKit.intOf i).toNat)
  case atStart => exact ⟨0, Nat.zero_le _, rfl, HB.out, _, HO.out, fun j hj => absurd hj (by simp)⟩
  case round =>
    obtain ⟨k, hk, rfl, hg, ys, how, hys⟩ := hrel
    by_cases hlt : k < n
    · obtain ⟨b, off, op, d, ia, ib, rel, lo, hi, to, rfl, hx, c0, c1, c2, c3, c4, c5, c6, c7, hb⟩ := rdI_at (HR.out.grew stays_ins hg) hlt
      have HX := Lib.hid hx; clear hx
      have HH := Lib.hid hys; clear hys
      have HG := Lib.hid hg; clear hg
      have HW := Lib.hid how; clear how
      go_wp2_with fail
      ((with_reducible refine (toInsIns ⟨op, d, ia, ib, rel, lo, hi, to⟩ _).mono ?_); rintro e w2 ⟨rfl, g2⟩)
      have HW2 := Lib.hid (owns_grew HW.out g2)
      obtain ⟨y0, e0⟩ := own_some HW2.out (j := k * 8) (by omega)
      obtain ⟨y1, e1⟩ := own_some HW2.out (j := k * 8 + 1) (by omega)
      obtain ⟨y2, e2⟩ := own_some HW2.out (j := k * 8 + 2) (by omega)
      obtain ⟨y3, e3⟩ := own_some HW2.out (j := k * 8 + 3) (by omega)
      obtain ⟨y4, e4⟩ := own_some HW2.out (j := k * 8 + 4) (by omega)
      obtain ⟨y5, e5⟩ := own_some HW2.out (j := k * 8 + 5) (by omega)
      obtain ⟨y6, e6⟩ := own_some HW2.out (j := k * 8 + 6) (by omega)
      obtain ⟨y7, e7⟩ := own_some HW2.out (j := k * 8 + 7) (by omega)
      have f0 := fun j => HW2.out.frozenAt j
      have G2 := Lib.hid (grew_tr HG.out g2); clear g2
      clear c0 c1 c2 c3 c4 c5 c6 c7
      go_wp2
      go_roundw
      case rel =>
        obtain ⟨ho', hg'⟩ := own_sets (Ins.cells ⟨op, d, ia, ib, rel, lo, hi, to⟩) _ _ (k * 8) HW2.out
        have hkl : (is.take k).length = k := by rw [List.length_take]; have := HL.out; omega
        have hst := pre_step (f := Ins.cells) ins_len ⟨op, d, ia, ib, rel, lo, hi, to⟩ HW2.out.1 (by rw [hkl]; omega) HH.out
        rw [hkl, ← take_get HX.out] at hst
        exact ⟨k + 1, by omega, by go_num, G2.out.grown hg' G2.out.size (fun j hj => by obtain rfl := Option.some.inj hj; exact Nat.le_refl _), _, ho', hst⟩
      case measure => simp [Go.RowKit.intOf]; omega
    · have hfin : ys = is.flatMap Ins.cells := by
        have h2 := HL.out
        rw [List.take_of_length_le (by omega)] at hys
        exact pre_all ins_len how.1 h2 hys
      subst hfin
      clear hys
      have HO := Lib.hid how; clear how
      have HG := Lib.hid hg; clear hg
      go_wp2
      go_ret
      exact ⟨_, rfl, HO.out, HG.out⟩

/-- What a copied program owns: a row of procedures, and for each its row of instructions. -/
def prcCells (m : Prc × Value) : List Value := [.int .i64 m.1.lo, .int .i64 m.1.hi, m.2]
theorem prc_len (m : Prc × Value) : (prcCells m).length = 3 := rfl
def OwnP (w : World) (B : Nat) (v : Value) (n : Nat) (ms : List (Prc × Value)) : Prop :=
  ms.length = n ∧ w.ownsRow B 57 3 v n (ms.flatMap prcCells) ∧ ∀ m, m ∈ ms → w.ownsRow B 44 8 m.2 m.1.code.length (m.1.code.flatMap Ins.cells)

theorem rdI_of_own {w : World} {B n cap : Nat} {a : Option Addr} {is : List Ins} (hn : is.length = n) (h : w.ownsRow B 44 8 (.slice a n cap) n (is.flatMap Ins.cells)) : RdL EIns 8 w a n is :=
  rdl_of_rd Ins.cells (by omega) ins_len hn (owns_rd h) (fun x _ => rfl)
theorem OwnP.rd {w : World} {B n cap : Nat} {a : Option Addr} {ms : List (Prc × Value)} (h : OwnP w B (.slice a n cap) n ms) : RdP w a n (ms.map (·.1)) := by
  obtain ⟨hn, h1, h2⟩ := h
  have h3 := rdl_of_rd (E := fun w cs (m : Prc × Value) => EPrc w cs m.1) prcCells (by omega) prc_len hn (owns_rd h1) (fun m hm => by
    obtain ⟨a', c', hv⟩ := owns_slice (h2 m hm)
    have h4 := h2 m hm
    rw [hv] at h4
    exact ⟨a', c', by rw [prcCells, hv], rdI_of_own rfl h4, owns_cap h4⟩)
  refine ⟨by rw [List.length_map]; exact hn, ?_⟩
  rcases h3.2 with h0 | ⟨b, off, e, hc⟩
  · exact .inl h0
  · refine .inr ⟨b, off, e, fun k p hp => ?_⟩
    rw [List.getElem?_map, Option.map_eq_some_iff] at hp
    obtain ⟨m, hm, rfl⟩ := hp
    exact hc k m hm
theorem OwnP.chg {F : Nat → Prop} {w w' : World} {B n : Nat} {v : Value} {ms : List (Prc × Value)} (h : OwnP w B v n ms) (hc : Chg F w w') (hF : ∀ b, B ≤ b → b < w.heap.size → ¬ F b) : OwnP w' B v n ms :=
  ⟨h.1, owns_chg h.2.1 hc (fun b hb => hF b (h.2.1.lt b hb).1 (h.2.1.lt b hb).2), fun m hm => owns_chg (h.2.2 m hm) hc (fun b hb => hF b ((h.2.2 m hm).lt b hb).1 ((h.2.2 m hm).lt b hb).2)⟩
theorem OwnP.grew {w w' : World} {B n : Nat} {v : Value} {ms : List (Prc × Value)} (h : OwnP w B v n ms) (hc : Grew w w') : OwnP w' B v n ms :=
  h.chg (Chg.of_below (F := fun _ => False) hc) (fun _ _ _ hf => hf)

theorem toPrcProc (lo hi : Int) (a : Option Addr) (n cap : Nat) (is : List Ins) (w : World) (hr : RdL EIns 8 w a n is) (hm : n ≤ 1048576) :
    Calls Try.prog 78 #[.agg #[.int .i64 lo, .int .i64 hi, .slice a n cap]] w fun e w' => ∃ v, e = .returned (.agg #[.int .i64 lo, .int .i64 hi, v]) ∧ w'.ownsRow w.heap.size 44 8 v n (is.flatMap Ins.cells) ∧ Grew w w' := by
  have HR := Lib.hid hr; clear hr
  go_enter Try.func78, Try.ntmps78
  go_wp2_with fail
  refine (toInsInsS _ _ _ is _ (HR.out.grew stays_ins (by unfold Grew; go_grown)) hm).mono ?_
  rintro e w1 ⟨v1, rfl, o1, g1⟩
  obtain ⟨a1, c1, rfl⟩ := owns_slice o1
  obtain ⟨x, rfl⟩ := ext_of g1
  have O1 := Lib.hid o1; clear o1 g1
  go_wp2
  go_returns
  refine ⟨_, rfl, owns_mono (owns_set (owns_set (owns_set (owns_set O1.out (by simp) _) (by simp) _) (by simp) _) (by simp) _) (by simp; omega), ?_⟩
  repeat (first | with_reducible exact Below.refl _ _ | with_reducible assumption | with_reducible apply grew_ext | with_reducible apply grew_al | with_reducible apply grew_dn | with_reducible apply grew_d | (with_reducible refine grew_set ?_ (by first | omega | (repeat (first | with_reducible exact Nat.le_refl _ | with_reducible apply le_pl | with_reducible apply le_ext | with_reducible apply le_al))) _))

theorem prcInfo : (Try.prog.info? 57).map (fun i => (i.zero, i.size, i.bytes)) = some (some (.agg #[.int .i64 0, .int .i64 0, .slice none 0 0]), 3, 40) := by kernel_rfl
theorem prcEl : El Try.prog 28 57 (.agg #[.int .i64 0, .int .i64 0, .slice none 0 0]) 3 40 := El.mk' prcInfo Try.underlying28 rfl (by omega)

set_option maxHeartbeats 2000000 in
theorem toPrcProcS (a : Option Addr) (n cap : Nat) (ps : List Prc) (w : World) (hr : RdP w a n ps) (hm : n ≤ 1048576) (hc : ∀ p, p ∈ ps → p.code.length ≤ 1048576) :
    Calls Try.prog 51 #[.slice a n cap] w fun e w' => ∃ v ms, e = .returned v ∧ OwnP w' w.heap.size v n ms ∧ ms.map (·.1) = ps ∧ Grew w w' := by
  have hl := hr.len
  obtain ⟨i0, hi, hz0, hz1, hz2⟩ := info_parts prcInfo
  obtain ⟨w1, hmk, hown, hgr⟩ := run_make_full (P := Try.prog) w w.heap.size 28 57 i0 (.agg #[.int .i64 0, .int .i64 0, .slice none 0 0]) 3 Try.underlying28 hi hz0 hz1 .i64 .i64 n (by rw [hz2]; omega) (by unfold maxLen; omega) (Nat.le_refl _)
  have HB := Lib.hid (Below.of_grownBy hgr (Nat.le_refl _) (fun k e => nomatch e)); clear hgr
  have HR := Lib.hid hr; clear hr
  have HL := Lib.hid hl; clear hl
  have HO := Lib.hid hown; clear hown
  have HC := Lib.hid hc; clear hc
  clear hi hz0 hz1 hz2
  go_enter Try.func51, Try.ntmps51
  go_wp2
  clear hmk
  go_loopw [4] (fun i wr => ∃ k : Nat, k ≤ n ∧ i = .int .i64 k ∧ Grew w wr ∧ ∃ (ys : List Value) (ms : List (Prc × Value)), wr.ownsRow w.heap.size 57 3 (.slice (some ⟨w.heap.size, 0, none⟩) n n) n ys ∧ ms.map (·.1) = ps.take k ∧
    (∀ m, m ∈ ms → w.heap.size < wr.heap.size ∧ wr.ownsRow (w.heap.size + 1) 44 8 m.2 m.1.code.length (m.1.code.flatMap Ins.cells)) ∧ ∀ j, j < ms.length * 3 → ys[j]? = (ms.flatMap prcCells)[j]?) (fun i _ => n - (Go.RowKit.intOf i).toNat)
  case atStart => exact ⟨0, Nat.zero_le _, rfl, HB.out, _, [], HO.out, by simp, by simp, fun j hj => absurd hj (by simp)⟩
  case round =>
    obtain ⟨k, hk, rfl, hg, ys, ms, how, hms, hmo, hys⟩ := hrel
    by_cases hlt : k < n
    · obtain ⟨b, off, lo, hi, is, ia, ic, rfl, hx, c0, c1, c2, hb, hi1, hi2, hi3⟩ := rdP_at (HR.out.grew hg) hlt
      have HX := Lib.hid hx; clear hx
      have HH := Lib.hid hys; clear hys
      have HG := Lib.hid hg; clear hg
      have HW := Lib.hid how; clear how
      have HM := Lib.hid hms; clear hms
      have HN := Lib.hid hmo; clear hmo
      have HI := Lib.hid hi1; clear hi1
      have hlen : is.length ≤ 1048576 := HC.out _ (List.mem_of_getElem? HX.out)
      clear hi2 hi3
      go_wp2_with fail
      refine (toPrcProc lo hi ia is.length ic is _ HI.out hlen).mono ?_
      rintro e w2 ⟨v2, rfl, o2, g2⟩
      obtain ⟨a2, cp2, rfl⟩ := owns_slice o2
      have HW2 := Lib.hid (owns_grew HW.out g2)
      obtain ⟨y0, e0⟩ := own_some HW2.out (j := k * 3) (by omega)
      obtain ⟨y1, e1⟩ := own_some HW2.out (j := k * 3 + 1) (by omega)
      obtain ⟨y2, e2⟩ := own_some HW2.out (j := k * 3 + 2) (by omega)
      have f0 := fun j => HW2.out.frozenAt j
      have hsz : w.heap.size < wr.heap.size := by
        have := World.block_lt_of_cell? _ _ (own_some HW.out (j := k * 3) (by omega)).choose_spec
        exact this
      have HN2 := Lib.hid (fun m hm => (owns_grew (HN.out m hm).2 g2 : w2.ownsRow (w.heap.size + 1) 44 8 m.2 m.1.code.length (m.1.code.flatMap Ins.cells))); clear HN
      have O2 := Lib.hid (owns_mono (base' := w.heap.size + 1) o2 (by omega)); clear o2
      have hsz2 : w.heap.size < w2.heap.size := Nat.lt_of_lt_of_le hsz g2.size
      have G2 := Lib.hid (grew_tr HG.out g2); clear g2
      clear c0 c1 c2
      go_wp2
      go_roundw
      case rel =>
        obtain ⟨ho', hg'⟩ := own_sets (prcCells (⟨lo, hi, is⟩, .slice a2 is.length cp2)) _ _ (k * 3) HW2.out
        have hkl : ms.length = k := by rw [← List.length_map (f := (·.1)), HM.out, List.length_take]; have := HL.out; omega
        have hst := pre_step (f := prcCells) prc_len (⟨lo, hi, is⟩, .slice a2 is.length cp2) HW2.out.1 (by rw [hkl]; omega) HH.out
        rw [hkl] at hst
        have hown : ∀ (u : Value) (N : Nat) (xs : List Value), w2.ownsRow (w.heap.size + 1) 44 8 u N xs → (setCs w2 w.heap.size (k * 3) (prcCells (⟨lo, hi, is⟩, .slice a2 is.length cp2))).ownsRow (w.heap.size + 1) 44 8 u N xs :=
          fun u N xs h => owns_chg h (Chg.of_grownBy hg') (fun b hb e => by have := (h.lt b hb).1; simp only [Option.some.injEq] at e; omega)
        refine ⟨k + 1, by omega, by go_num, G2.out.grown hg' G2.out.size (fun j hj => by obtain rfl := Option.some.inj hj; exact Nat.le_refl _), _, ms ++ [(⟨lo, hi, is⟩, .slice a2 is.length cp2)], ho', by rw [List.map_append, HM.out, take_get HX.out]; rfl, fun m hm => ⟨Nat.lt_of_lt_of_le hsz2 hg'.size, ?_⟩, hst⟩
        rcases List.mem_append.1 hm with hm | hm
        · exact hown _ _ _ (HN2.out m hm)
        · obtain rfl := List.mem_singleton.1 hm
          exact hown _ _ _ O2.out
      case measure => simp [Go.RowKit.intOf]; omega
    · have hml : ms.length = n := by rw [← List.length_map (f := (·.1)), hms, List.length_take]; have := HL.out; omega
      have hfin : ys = ms.flatMap prcCells := pre_all prc_len how.1 hml hys
      have hmp : ms.map (·.1) = ps := by rw [hms]; exact List.take_of_length_le (by have := HL.out; omega)
      subst hfin
      clear hys
      have HO := Lib.hid how; clear how
      have HG := Lib.hid hg; clear hg
      have HM := Lib.hid hmp; clear hmp hms
      have HN := Lib.hid hmo; clear hmo
      have HK := Lib.hid hml; clear hml
      go_wp2
      go_ret
      exact ⟨_, ms, rfl, ⟨HK.out, HO.out, fun m hm => owns_mono (HN.out m hm).2 (by omega)⟩, HM.out, HG.out⟩

theorem toPrgProg (a : Option Addr) (n cap : Nat) (ps : List Prc) (w : World) (hr : RdP w a n ps) (hm : n ≤ 1048576) (hc : ∀ p, p ∈ ps → p.code.length ≤ 1048576) :
    Calls Try.prog 15 #[.agg #[.slice a n cap]] w fun e w' => ∃ v ms, e = .returned (.agg #[v]) ∧ OwnP w' w.heap.size v n ms ∧ ms.map (·.1) = ps ∧ Grew w w' := by
  have HR := Lib.hid hr; clear hr
  have HC := Lib.hid hc; clear hc
  go_enter Try.func15, Try.ntmps15
  go_wp2_with fail
  refine (toPrcProcS _ _ _ ps _ (HR.out.grew (by unfold Grew; go_grown)) hm HC.out).mono ?_
  rintro e w1 ⟨v1, ms, rfl, o1, hms, g1⟩
  obtain ⟨a1, c1, rfl⟩ := owns_slice o1.2.1
  obtain ⟨x, rfl⟩ := ext_of g1
  have O1 := Lib.hid o1; clear o1 g1
  have HM := Lib.hid hms; clear hms
  go_wp2
  go_returns
  refine ⟨_, ms, rfl, ⟨O1.out.1, owns_mono (owns_set (owns_set O1.out.2.1 (by simp) _) (by simp) _) (by simp; omega), fun m hm => owns_mono (owns_set (owns_set (O1.out.2.2 m hm) (by simp) _) (by simp) _) (by simp; omega)⟩, HM.out, ?_⟩
  repeat (first | with_reducible exact Below.refl _ _ | with_reducible assumption | with_reducible apply grew_ext | with_reducible apply grew_al | with_reducible apply grew_dn | with_reducible apply grew_d | (with_reducible refine grew_set ?_ (by first | omega | (repeat (first | with_reducible exact Nat.le_refl _ | with_reducible apply le_pl | with_reducible apply le_ext | with_reducible apply le_al))) _))
end Go.Proofs.Ytmcfengnihomcaa

/- The draw of a procedure: its last step is put behind. No condition. -/
namespace Go.Proofs.Ytmcfengnihomcaa
open Go.RowKit
set_option linter.unusedVariables false
set_option linter.unusedSimpArgs false
attribute [local go_sem] dg_cell dg_frozen dg_lt dg_lt1 dg_lt2 dg_ne dg_ne1 dg_ne2 dg_new dg_wen lt_s2 lt_s3 lt_s4 lt_s5 lt_s6

theorem chg_new {F : Nat → Prop} {w W : World} {p : Addr} (h : Chg F w W) (hp : w.heap.size ≤ p.block) (u : Value) : Chg F w (W.setCell p u) :=
  Chg.trans h (⟨rfl, rfl, rfl, by simp, fun k hk hn => Below.heap_setCell W p u k hn⟩ : Chg (fun b => b = p.block) W (W.setCell p u)) (fun _ _ h => h) (fun i hi e => by omega)
theorem owns_far {w : World} {base : Nat} {e : TypeId} {size n : Nat} {v : Value} {xs : List Value} (h : w.ownsRow base e size v n xs) {p : Addr} (hp : v.ownBlock ≠ some p.block) (u : Value) : (w.setCell p u).ownsRow base e size v n xs :=
  owns_chg h (⟨rfl, rfl, rfl, by simp, fun k hk hn => Below.heap_setCell w p u k hn⟩ : Chg (fun b => b = p.block) w (w.setCell p u)) (fun b hb e => hp (by rw [hb, e]))
theorem ins_one1 (i : Ins) : ∀ u ∈ i.cells, u.oneCell' = true := fun u hu => ins_one [i] u (by simpa using hu)
set_option maxRecDepth 100000 in
set_option maxHeartbeats 2000000 in
theorem endG {base n : Nat} {lo hi : Int} {v : Value} {is : List Ins} {i : Ins} {w : World} (ho : w.ownsRow base 44 8 v n (is.flatMap Ins.cells)) (hle : n ≤ 1000) (hbase : base ≤ w.heap.size) :
    Calls Try.prog 127 #[.agg #[.int .i64 lo, .int .i64 hi, v], i.v] w fun e w' => ∃ v', e = .returned (.agg #[.int .i64 lo, .int .i64 hi, v']) ∧ w'.ownsRow base 44 8 v' (n + 1) ((is ++ [i]).flatMap Ins.cells) ∧ Chg (fun b => v.ownBlock = some b) w w' := by
  obtain ⟨a, cap, rfl⟩ := owns_slice ho
  obtain ⟨op, d, ia, ib, rel, lo2, hi2, to⟩ := i
  have hlt := fun b hb => ho.lt b hb
  obtain ⟨v', w3, hrun, o3, g3, hv'⟩ := owns_append_lit (P := Try.prog) (((w.alloc (.cells #[.int .i64 lo, .int .i64 hi, .slice a n cap] 57)).alloc (.cells #[.int .i64 op, .int .i64 d, .int .i64 ia, .int .i64 ib, .int .i64 rel, .int .i64 lo2, .int .i64 hi2, .int .i64 to] 44)).alloc (.cells #[.int .i64 0, .int .i64 0, .slice none 0 0] 57)) insEl (((ho.alloc _).alloc _).alloc _) 1 (Ins.cells ⟨op, d, ia, ib, rel, lo2, hi2, to⟩) rfl (ins_one1 _) (by omega) (by omega) (by simp; omega)
  obtain ⟨a', cap', rfl⟩ := owns_slice o3
  have hc3 := Chg.of_grownBy g3
  have nb : ∀ k, w.heap.size ≤ k → ¬ (Value.slice a n cap).ownBlock = some k := fun k hk e => by have := (hlt k e).2; omega
  have B0 : Blk w3 w.heap.size 57 #[.int .i64 lo, .int .i64 hi, .slice a n cap] := (((Blk.new w _ _).alloc _).alloc _).chg hc3 (nb _ (Nat.le_refl _))
  have B2 : Blk w3 (w.heap.size + 1 + 1) 57 #[.int .i64 0, .int .i64 0, .slice none 0 0] := (by simpa only [World.size_alloc] using Blk.new ((w.alloc (.cells #[.int .i64 lo, .int .i64 hi, .slice a n cap] 57)).alloc (.cells #[.int .i64 op, .int .i64 d, .int .i64 ia, .int .i64 ib, .int .i64 rel, .int .i64 lo2, .int .i64 hi2, .int .i64 to] 44)) 57 #[.int .i64 0, .int .i64 0, .slice none 0 0] : Blk _ (w.heap.size + 1 + 1) _ _).chg hc3 (nb _ (by omega))
  have p0 : w3.cell? ⟨w.heap.size, 0, none⟩ = some (.int .i64 lo) := B0.cell 0
  have p1 : w3.cell? ⟨w.heap.size, 1, none⟩ = some (.int .i64 hi) := B0.cell 1
  have p2 : w3.cell? ⟨w.heap.size, 2, none⟩ = some (.slice a n cap) := B0.cell 2
  have z0 : w3.cell? ⟨w.heap.size + 1 + 1, 0, none⟩ = some (.int .i64 0) := B2.cell 0
  have z1 : w3.cell? ⟨w.heap.size + 1 + 1, 1, none⟩ = some (.int .i64 0) := B2.cell 1
  have z2 : w3.cell? ⟨w.heap.size + 1 + 1, 2, none⟩ = some (.slice none 0 0) := B2.cell 2
  have pf := fun j => B0.frozen j
  have zf := fun j => B2.frozen j
  have hb := hv'
  have HC : Hid (Chg (fun b => (Value.slice a n cap).ownBlock = some b) w w3) := Lib.hid (Chg.trans (Chg.of_below (F := fun _ => False) (grew_al (grew_al (grew_al (Below.refl _ w) _) _) _)) hc3 (fun _ _ h => absurd h id) (fun _ _ h => h))
  have HO := Lib.hid o3
  have hrun2 : (Builtin.append_ #[55, 55] 55 #[.slice a n cap, .slice (some ⟨w.heap.size + 1 + 1 + 1, 0, none⟩) 1 1]).run Try.prog ((((w.alloc (.cells #[.int .i64 lo, .int .i64 hi, .slice a n cap] 57)).alloc (.cells #[.int .i64 op, .int .i64 d, .int .i64 ia, .int .i64 ib, .int .i64 rel, .int .i64 lo2, .int .i64 hi2, .int .i64 to] 44)).alloc (.cells #[.int .i64 0, .int .i64 0, .slice none 0 0] 57)).alloc (.cells #[.int .i64 op, .int .i64 d, .int .i64 ia, .int .i64 ib, .int .i64 rel, .int .i64 lo2, .int .i64 hi2, .int .i64 to] 44)) = .ok (.slice a' (n + 1) cap') w3 := by simp only [World.size_alloc] at hrun; exact hrun
  have HR := Lib.hid hrun2
  have HN := Lib.hid nb
  have HV := Lib.hid hv'
  have l0 := B0.lt
  have l2 := B2.lt
  clear hrun hrun2 o3 g3 hc3 hv' hb nb hlt ho B0 B2
  go_enter Try.func127, Try.ntmps127
  go_wp2_with (at_builtin; refine wpList_append_run rfl _ _ rfl rfl rfl rfl HR.out ?_)
  have hne : ¬ w.heap.size + 1 + 1 = w.heap.size := by omega
  go_wp2
  refine bodyPost_ret (by simp [results, Try.results127, go_sem, p0, p1, p2, z0, z1, z2, l0, l2]; try rfl) rfl ?_
  have hno : ∀ k, k = w.heap.size ∨ k = w.heap.size + 1 + 1 → (Value.slice a' (n + 1) cap').ownBlock ≠ some k := by
    intro k hk e
    rcases HV.out with h | h
    · rw [h] at e
      exact HN.out k (by omega) e
    · rw [h] at e
      simp only [World.size_alloc, Option.some.injEq] at e
      omega
  refine ⟨_, rfl, ?_, ?_⟩
  · rw [List.flatMap_append, List.flatMap_cons, List.flatMap_nil, List.append_nil]
    exact owns_far (owns_far (owns_far (owns_far HO.out (hno _ (.inl rfl)) _) (hno _ (.inr rfl)) _) (hno _ (.inr rfl)) _) (hno _ (.inr rfl)) _
  · exact chg_new (chg_new (chg_new (chg_new HC.out (Nat.le_refl _) _) (by simp only; omega) _) (by simp only; omega) _) (by simp only; omega) _
end Go.Proofs.Ytmcfengnihomcaa

/- Contracts of codeOf and of the reference's l3Form. No condition. -/
namespace Go.Proofs.Ytmcfengnihomcaa
open Go.RowKit
set_option linter.unusedVariables false

/-- What codeOf makes of an instruction. -/
def codeV (i : Ins) : Value :=
  if i.op = 1 ∨ i.op = 2 ∨ i.op = 3 ∨ i.op = 4 then .iface 137 (.agg #[.int .i64 i.op, .int .i64 i.d, .int .i64 i.a, .int .i64 i.b])
  else if i.op = 5 then .iface 109 (.agg #[.int .i64 i.d, .int .i64 i.lo, .int .i64 i.hi])
  else if i.op = 6 then .iface 139 (.agg #[.int .i64 i.d, .int .i64 i.a])
  else if i.op = 7 then .iface 141 (.agg #[.int .i64 i.a, .int .i64 i.b])
  else if i.op = 8 then .iface 114 (.agg #[.int .i64 i.rel, .int .i64 i.a, .int .i64 i.b, .int .i64 i.to])
  else if i.op = 9 then .iface 116 (.agg #[.int .i64 i.to])
  else if i.op = 10 then .iface 118 (.agg #[.int .i64 i.d, .int .i64 i.a, .int .i64 i.to])
  else if i.op = 11 then .iface 120 (.agg #[.int .i64 i.rel, .int .i64 i.a, .int .i64 i.b])
  else if i.op = 12 then .iface 143 (.agg #[.int .i64 i.a])
  else .nilIface

theorem opCases (op : Int) : op = 1 ∨ op = 2 ∨ op = 3 ∨ op = 4 ∨ op = 5 ∨ op = 6 ∨ op = 7 ∨ op = 8 ∨ op = 9 ∨ op = 10 ∨ op = 11 ∨ op = 12 ∨ (op ≠ 1 ∧ op ≠ 2 ∧ op ≠ 3 ∧ op ≠ 4 ∧ op ≠ 5 ∧ op ≠ 6 ∧ op ≠ 7 ∧ op ≠ 8 ∧ op ≠ 9 ∧ op ≠ 10 ∧ op ≠ 11 ∧ op ≠ 12) := by omega

set_option maxRecDepth 100000 in
set_option maxHeartbeats 8000000 in
theorem codeOf (i : Ins) (w : World) :
    Calls Try.prog 92 #[i.v] w fun e w' => e = .returned (codeV i) ∧ Grew w w' := by
  obtain ⟨op, d, a, b, rel, lo, hi, to⟩ := i
  rcases opCases op with rfl | rfl | rfl | rfl | rfl | rfl | rfl | rfl | rfl | rfl | rfl | rfl | ⟨n1, n2, n3, n4, n5, n6, n7, n8, n9, n10, n11, n12⟩
  · go_enter Try.func92, Try.ntmps92
    go_wp2
    go_returns
    exact ⟨rfl, by unfold Grew; go_grown⟩
  · go_enter Try.func92, Try.ntmps92
    go_wp2
    go_returns
    exact ⟨rfl, by unfold Grew; go_grown⟩
  · go_enter Try.func92, Try.ntmps92
    go_wp2
    go_returns
    exact ⟨rfl, by unfold Grew; go_grown⟩
  · go_enter Try.func92, Try.ntmps92
    go_wp2
    go_returns
    exact ⟨rfl, by unfold Grew; go_grown⟩
  · go_enter Try.func92, Try.ntmps92
    go_wp2
    go_returns
    exact ⟨rfl, by unfold Grew; go_grown⟩
  · go_enter Try.func92, Try.ntmps92
    go_wp2
    go_returns
    exact ⟨rfl, by unfold Grew; go_grown⟩
  · go_enter Try.func92, Try.ntmps92
    go_wp2
    go_returns
    exact ⟨rfl, by unfold Grew; go_grown⟩
  · go_enter Try.func92, Try.ntmps92
    go_wp2
    go_returns
    exact ⟨rfl, by unfold Grew; go_grown⟩
  · go_enter Try.func92, Try.ntmps92
    go_wp2
    go_returns
    exact ⟨rfl, by unfold Grew; go_grown⟩
  · go_enter Try.func92, Try.ntmps92
    go_wp2
    go_returns
    exact ⟨rfl, by unfold Grew; go_grown⟩
  · go_enter Try.func92, Try.ntmps92
    go_wp2
    go_returns
    exact ⟨rfl, by unfold Grew; go_grown⟩
  · go_enter Try.func92, Try.ntmps92
    go_wp2
    go_returns
    exact ⟨rfl, by unfold Grew; go_grown⟩
  · have HV : Hid (codeV ⟨op, d, a, b, rel, lo, hi, to⟩ = .nilIface) := Lib.hid (by unfold codeV; simp [n1, n2, n3, n4, n5, n6, n7, n8, n9, n10, n11, n12])
    have d1 : (op == 1) = false := by simpa using n1
    have d2 : (op == 2) = false := by simpa using n2
    have d3 : (op == 3) = false := by simpa using n3
    have d4 : (op == 4) = false := by simpa using n4
    have d5 : (op == 5) = false := by simpa using n5
    have d6 : (op == 6) = false := by simpa using n6
    have d7 : (op == 7) = false := by simpa using n7
    have d8 : (op == 8) = false := by simpa using n8
    have d9 : (op == 9) = false := by simpa using n9
    have d10 : (op == 10) = false := by simpa using n10
    have d11 : (op == 11) = false := by simpa using n11
    have d12 : (op == 12) = false := by simpa using n12
    clear n1 n2 n3 n4 n5 n6 n7 n8 n9 n10 n11 n12
    go_enter Try.func92, Try.ntmps92
    go_wp2
    go_returns
    exact ⟨by rw [HV.out]; rfl, by unfold Grew; go_grown⟩

/-- What an instruction has beside what its kind has. -/
def formV (i : Ins) : Ins :=
  if i.op = 1 then ⟨0, 0, 0, 0, i.rel, i.lo, i.hi, i.to⟩
  else if i.op = 2 then ⟨0, 0, 0, 0, i.rel, i.lo, i.hi, i.to⟩
  else if i.op = 3 then ⟨0, 0, 0, 0, i.rel, i.lo, i.hi, i.to⟩
  else if i.op = 4 then ⟨0, 0, 0, 0, i.rel, i.lo, i.hi, i.to⟩
  else if i.op = 5 then ⟨0, 0, i.a, i.b, i.rel, 0, 0, i.to⟩
  else if i.op = 6 then ⟨0, 0, 0, i.b, i.rel, i.lo, i.hi, i.to⟩
  else if i.op = 7 then ⟨0, i.d, 0, 0, i.rel, i.lo, i.hi, i.to⟩
  else if i.op = 8 then ⟨0, i.d, 0, 0, 0, i.lo, i.hi, 0⟩
  else if i.op = 9 then ⟨0, i.d, i.a, i.b, i.rel, i.lo, i.hi, 0⟩
  else if i.op = 10 then ⟨0, 0, 0, i.b, i.rel, i.lo, i.hi, 0⟩
  else if i.op = 11 then ⟨0, i.d, 0, 0, 0, i.lo, i.hi, i.to⟩
  else if i.op = 12 then ⟨0, i.d, 0, i.b, i.rel, i.lo, i.hi, i.to⟩
  else { i with op := 0 }

set_option maxRecDepth 100000 in
set_option maxHeartbeats 8000000 in
theorem l3Form (i : Ins) (w : World) (h1 : 1 ≤ i.op) (h2 : i.op ≤ 12) :
    Calls Try.prog 70 #[i.v] w fun e w' => e = .returned (formV i).v ∧ Grew w w' := by
  obtain ⟨op, d, a, b, rel, lo, hi, to⟩ := i
  simp only at h1 h2
  have h : op = 1 ∨ op = 2 ∨ op = 3 ∨ op = 4 ∨ op = 5 ∨ op = 6 ∨ op = 7 ∨ op = 8 ∨ op = 9 ∨ op = 10 ∨ op = 11 ∨ op = 12 := by omega
  rcases h with rfl | rfl | rfl | rfl | rfl | rfl | rfl | rfl | rfl | rfl | rfl | rfl
  · clear h1 h2
    go_enter Try.func70, Try.ntmps70
    go_wp2
    go_returns
    exact ⟨rfl, by unfold Grew; go_grown⟩
  · clear h1 h2
    go_enter Try.func70, Try.ntmps70
    go_wp2
    go_returns
    exact ⟨rfl, by unfold Grew; go_grown⟩
  · clear h1 h2
    go_enter Try.func70, Try.ntmps70
    go_wp2
    go_returns
    exact ⟨rfl, by unfold Grew; go_grown⟩
  · clear h1 h2
    go_enter Try.func70, Try.ntmps70
    go_wp2
    go_returns
    exact ⟨rfl, by unfold Grew; go_grown⟩
  · clear h1 h2
    go_enter Try.func70, Try.ntmps70
    go_wp2
    go_returns
    exact ⟨rfl, by unfold Grew; go_grown⟩
  · clear h1 h2
    go_enter Try.func70, Try.ntmps70
    go_wp2
    go_returns
    exact ⟨rfl, by unfold Grew; go_grown⟩
  · clear h1 h2
    go_enter Try.func70, Try.ntmps70
    go_wp2
    go_returns
    exact ⟨rfl, by unfold Grew; go_grown⟩
  · clear h1 h2
    go_enter Try.func70, Try.ntmps70
    go_wp2
    go_returns
    exact ⟨rfl, by unfold Grew; go_grown⟩
  · clear h1 h2
    go_enter Try.func70, Try.ntmps70
    go_wp2
    go_returns
    exact ⟨rfl, by unfold Grew; go_grown⟩
  · clear h1 h2
    go_enter Try.func70, Try.ntmps70
    go_wp2
    go_returns
    exact ⟨rfl, by unfold Grew; go_grown⟩
  · clear h1 h2
    go_enter Try.func70, Try.ntmps70
    go_wp2
    go_returns
    exact ⟨rfl, by unfold Grew; go_grown⟩
  · clear h1 h2
    go_enter Try.func70, Try.ntmps70
    go_wp2
    go_returns
    exact ⟨rfl, by unfold Grew; go_grown⟩

end Go.Proofs.Ytmcfengnihomcaa

/- Contracts of InsOk of the reference and of the program. No condition. -/
namespace Go.Proofs.Ytmcfengnihomcaa
open Go.RowKit
set_option linter.unusedVariables false
attribute [local go_sem] ext_cell

/-- A call that returns a bool, the bool known. -/
theorem bool_is {P : Program} {f : FuncId} {args : Array Value} {w : World} {X b : Bool} {R : World → Prop} (c : Calls P f args w fun e w' => e = .returned (.bool X) ∧ R w') (h : X = b) :
    Calls P f args w fun e w' => e = .returned (.bool b) ∧ R w' := by subst h; exact c

/-- Bounds of numbers of the program. -/
def itvOkB (lo hi : Int) : Bool := (decide (-32768 ≤ lo) && decide (lo ≤ 32767)) && (decide (-32768 ≤ hi) && decide (hi ≤ 32767)) && decide (lo ≤ hi)

theorem itvOk (lo hi : Int) (w : World) :
    Calls Try.prog 94 #[.agg #[.int .i64 lo, .int .i64 hi]] w fun e w' => e = .returned (.bool (itvOkB lo hi)) ∧ Grew w w' := by
  go_enter Try.func94, Try.ntmps94
  go_wp2
  all_goals
    go_ret
    exact ⟨by simp [itvOkB]; try omega, by unfold Grew; go_grown⟩

def varB (x : Int) : Bool := decide (0 ≤ x) && decide (x ≤ 3)
theorem varB4 (x : Int) : (decide (0 ≤ x) && decide (x < 4)) = varB x := by unfold varB; rw [Bool.eq_iff_iff]; simp; omega
def headB (i : Ins) : Bool := (decide (1 ≤ i.op) && decide (i.op ≤ 12)) && (decide (formV i = ⟨0, 0, 0, 0, 0, 0, 0, 0⟩) && (varB i.d && (varB i.a && varB i.b)))
def tailB (i : Ins) (procs size : Int) : Bool :=
  if i.op = 5 then itvOkB i.lo i.hi
  else if i.op = 8 then (decide (1 ≤ i.rel) && decide (i.rel ≤ 4)) && (decide (0 ≤ i.to) && decide (i.to < size))
  else if i.op = 9 then decide (0 ≤ i.to) && decide (i.to < size)
  else if i.op = 10 then decide (0 ≤ i.to) && decide (i.to < procs)
  else if i.op = 11 then decide (1 ≤ i.rel) && decide (i.rel ≤ 4)
  else true
def insOkB (i : Ins) (procs size : Int) : Bool := headB i && tailB i procs size
/-- Whether two instructions are the same. -/
def insEqB (i j : Ins) : Bool := decide (i = j)
theorem insNeq (a1 a2 a3 a4 a5 a6 a7 a8 b1 b2 b3 b4 b5 b6 b7 b8 : Int) (w : World) :
    (binOp .neq 44 (.agg #[.int .i64 a1, .int .i64 a2, .int .i64 a3, .int .i64 a4, .int .i64 a5, .int .i64 a6, .int .i64 a7, .int .i64 a8]) (.agg #[.int .i64 b1, .int .i64 b2, .int .i64 b3, .int .i64 b4, .int .i64 b5, .int .i64 b6, .int .i64 b7, .int .i64 b8])).run Try.prog w =
      .ok (.bool (!insEqB ⟨a1, a2, a3, a4, a5, a6, a7, a8⟩ ⟨b1, b2, b3, b4, b5, b6, b7, b8⟩)) w := by
  unfold insEqB
  by_cases h1 : a1 = b1
  · by_cases h2 : a2 = b2
    · by_cases h3 : a3 = b3
      · by_cases h4 : a4 = b4
        · by_cases h5 : a5 = b5
          · by_cases h6 : a6 = b6
            · by_cases h7 : a7 = b7
              · by_cases h8 : a8 = b8 <;> simp [go_sem, *]
              · simp [go_sem, *]
            · simp [go_sem, *]
          · simp [go_sem, *]
        · simp [go_sem, *]
      · simp [go_sem, *]
    · simp [go_sem, *]
  · simp [go_sem, *]
theorem insEql (a1 a2 a3 a4 a5 a6 a7 a8 b1 b2 b3 b4 b5 b6 b7 b8 : Int) (w : World) :
    (binOp .eql 44 (.agg #[.int .i64 a1, .int .i64 a2, .int .i64 a3, .int .i64 a4, .int .i64 a5, .int .i64 a6, .int .i64 a7, .int .i64 a8]) (.agg #[.int .i64 b1, .int .i64 b2, .int .i64 b3, .int .i64 b4, .int .i64 b5, .int .i64 b6, .int .i64 b7, .int .i64 b8])).run Try.prog w =
      .ok (.bool (insEqB ⟨a1, a2, a3, a4, a5, a6, a7, a8⟩ ⟨b1, b2, b3, b4, b5, b6, b7, b8⟩)) w := by
  unfold insEqB
  by_cases h1 : a1 = b1
  · by_cases h2 : a2 = b2
    · by_cases h3 : a3 = b3
      · by_cases h4 : a4 = b4
        · by_cases h5 : a5 = b5
          · by_cases h6 : a6 = b6
            · by_cases h7 : a7 = b7
              · by_cases h8 : a8 = b8 <;> simp [go_sem, *]
              · simp [go_sem, *]
            · simp [go_sem, *]
          · simp [go_sem, *]
        · simp [go_sem, *]
      · simp [go_sem, *]
    · simp [go_sem, *]
  · simp [go_sem, *]
attribute [local go_sem ↓] insNeq insEql

set_option maxRecDepth 100000 in
set_option maxHeartbeats 4000000 in
theorem specInsOkI (op d a b rel lo hi to procs size : Int) (w : World) (hI : (decide (1 ≤ op) && decide (op ≤ 12)) = false) :
    Calls Try.prog 37 #[Ins.v ⟨op, d, a, b, rel, lo, hi, to⟩, .int .i64 procs, .int .i64 size] w fun e w' => e = .returned (.bool false) ∧ Grew w w' := by
  have CI : Hid (∀ w, Calls Try.prog 69 #[.int .i64 op, .int .i64 1, .int .i64 12] w fun e w' => e = .returned (.bool false) ∧ w = w') := Lib.hid (fun w => bool_is (l1In op 1 12 w) hI)
  clear hI
  go_enter Try.func37, Try.ntmps37
  go_wp2_with fail
  refine wp_region_ext (by kernel_rfl) (by kernel_rfl) ?_
  repeat (go_big_quiet_step ((first | (with_reducible exact ext_same (CI.out _)))))
  refine wpQuiet_nil ?_
  intro _ hw'
  obtain ⟨x, hw''⟩ := hw'
  subst hw''
  have HX := Lib.hid (ext_grew _ x)
  go_wp2
  go_ret
  exact ⟨rfl, (Below.trans (by go_grown) (Below.mono HX.out (by simp; omega)))⟩

set_option maxRecDepth 100000 in
set_option maxHeartbeats 4000000 in
theorem specInsOkF (op d a b rel lo hi to procs size : Int) (w : World) (hI : (decide (1 ≤ op) && decide (op ≤ 12)) = true) (h1 : 1 ≤ op) (h2 : op ≤ 12) (op2 d2 a2 b2 rel2 lo2 hi2 to2 : Int) (hf : formV ⟨op, d, a, b, rel, lo, hi, to⟩ = ⟨op2, d2, a2, b2, rel2, lo2, hi2, to2⟩) (hne : insEqB ⟨op2, d2, a2, b2, rel2, lo2, hi2, to2⟩ ⟨0, 0, 0, 0, 0, 0, 0, 0⟩ = false) :
    Calls Try.prog 37 #[Ins.v ⟨op, d, a, b, rel, lo, hi, to⟩, .int .i64 procs, .int .i64 size] w fun e w' => e = .returned (.bool false) ∧ Grew w w' := by
  have CI : Hid (∀ w, Calls Try.prog 69 #[.int .i64 op, .int .i64 1, .int .i64 12] w fun e w' => e = .returned (.bool true) ∧ w = w') := Lib.hid (fun w => bool_is (l1In op 1 12 w) hI)
  have CF : Hid (∀ w, Calls Try.prog 70 #[Ins.v ⟨op, d, a, b, rel, lo, hi, to⟩] w fun e w' => e = .returned (.agg #[.int .i64 op2, .int .i64 d2, .int .i64 a2, .int .i64 b2, .int .i64 rel2, .int .i64 lo2, .int .i64 hi2, .int .i64 to2]) ∧ Grew w w') := Lib.hid (fun w => by
    have := l3Form ⟨op, d, a, b, rel, lo, hi, to⟩ w h1 h2
    rw [hf] at this
    exact this)
  clear hI hf h1 h2
  go_enter Try.func37, Try.ntmps37
  go_wp2_with fail
  refine wp_region_ext (by kernel_rfl) (by kernel_rfl) ?_
  repeat (go_big_quiet_step ((first | (with_reducible exact ext_same (CI.out _)) | (with_reducible exact ext_grow (CF.out _)))))
  refine wpQuiet_nil ?_
  intro _ hw'
  obtain ⟨x, hw''⟩ := hw'
  subst hw''
  have HX := Lib.hid (ext_grew _ x)
  go_wp2
  go_ret
  exact ⟨rfl, (Below.trans (by go_grown) (Below.mono HX.out (by simp; omega)))⟩

set_option maxRecDepth 100000 in
set_option maxHeartbeats 4000000 in
theorem specInsOkD (op d a b rel lo hi to procs size : Int) (w : World) (hI : (decide (1 ≤ op) && decide (op ≤ 12)) = true) (h1 : 1 ≤ op) (h2 : op ≤ 12) (hf : formV ⟨op, d, a, b, rel, lo, hi, to⟩ = ⟨0, 0, 0, 0, 0, 0, 0, 0⟩) (hD : varB d = false) :
    Calls Try.prog 37 #[Ins.v ⟨op, d, a, b, rel, lo, hi, to⟩, .int .i64 procs, .int .i64 size] w fun e w' => e = .returned (.bool false) ∧ Grew w w' := by
  have CI : Hid (∀ w, Calls Try.prog 69 #[.int .i64 op, .int .i64 1, .int .i64 12] w fun e w' => e = .returned (.bool true) ∧ w = w') := Lib.hid (fun w => bool_is (l1In op 1 12 w) hI)
  have CD : Hid (∀ w, Calls Try.prog 69 #[.int .i64 d, .int .i64 0, .int .i64 3] w fun e w' => e = .returned (.bool false) ∧ w = w') := Lib.hid (fun w => bool_is (l1In d 0 3 w) hD)
  have CF : Hid (∀ w, Calls Try.prog 70 #[Ins.v ⟨op, d, a, b, rel, lo, hi, to⟩] w fun e w' => e = .returned (.agg #[.int .i64 0, .int .i64 0, .int .i64 0, .int .i64 0, .int .i64 0, .int .i64 0, .int .i64 0, .int .i64 0]) ∧ Grew w w') := Lib.hid (fun w => by
    have := l3Form ⟨op, d, a, b, rel, lo, hi, to⟩ w h1 h2
    rw [hf] at this
    exact this)
  clear hI hD hf h1 h2
  have hz : insEqB ⟨0, 0, 0, 0, 0, 0, 0, 0⟩ ⟨0, 0, 0, 0, 0, 0, 0, 0⟩ = true := rfl
  go_enter Try.func37, Try.ntmps37
  go_wp2_with fail
  refine wp_region_ext (by kernel_rfl) (by kernel_rfl) ?_
  repeat (go_big_quiet_step ((first | (with_reducible exact ext_same (CI.out _)) | (with_reducible exact ext_same (CD.out _)) | (with_reducible exact ext_grow (CF.out _)))))
  refine wpQuiet_nil ?_
  intro _ hw'
  obtain ⟨x, hw''⟩ := hw'
  subst hw''
  have HX := Lib.hid (ext_grew _ x)
  go_wp2
  go_ret
  exact ⟨rfl, (Below.trans (by go_grown) (Below.mono HX.out (by simp; omega)))⟩

set_option maxRecDepth 100000 in
set_option maxHeartbeats 4000000 in
theorem specInsOkA (op d a b rel lo hi to procs size : Int) (w : World) (hI : (decide (1 ≤ op) && decide (op ≤ 12)) = true) (h1 : 1 ≤ op) (h2 : op ≤ 12) (hf : formV ⟨op, d, a, b, rel, lo, hi, to⟩ = ⟨0, 0, 0, 0, 0, 0, 0, 0⟩) (hD : varB d = true) (hA : varB a = false) :
    Calls Try.prog 37 #[Ins.v ⟨op, d, a, b, rel, lo, hi, to⟩, .int .i64 procs, .int .i64 size] w fun e w' => e = .returned (.bool false) ∧ Grew w w' := by
  have CI : Hid (∀ w, Calls Try.prog 69 #[.int .i64 op, .int .i64 1, .int .i64 12] w fun e w' => e = .returned (.bool true) ∧ w = w') := Lib.hid (fun w => bool_is (l1In op 1 12 w) hI)
  have CD : Hid (∀ w, Calls Try.prog 69 #[.int .i64 d, .int .i64 0, .int .i64 3] w fun e w' => e = .returned (.bool true) ∧ w = w') := Lib.hid (fun w => bool_is (l1In d 0 3 w) hD)
  have CA : Hid (∀ w, Calls Try.prog 69 #[.int .i64 a, .int .i64 0, .int .i64 3] w fun e w' => e = .returned (.bool false) ∧ w = w') := Lib.hid (fun w => bool_is (l1In a 0 3 w) hA)
  have CF : Hid (∀ w, Calls Try.prog 70 #[Ins.v ⟨op, d, a, b, rel, lo, hi, to⟩] w fun e w' => e = .returned (.agg #[.int .i64 0, .int .i64 0, .int .i64 0, .int .i64 0, .int .i64 0, .int .i64 0, .int .i64 0, .int .i64 0]) ∧ Grew w w') := Lib.hid (fun w => by
    have := l3Form ⟨op, d, a, b, rel, lo, hi, to⟩ w h1 h2
    rw [hf] at this
    exact this)
  clear hI hD hA hf h1 h2
  have hz : insEqB ⟨0, 0, 0, 0, 0, 0, 0, 0⟩ ⟨0, 0, 0, 0, 0, 0, 0, 0⟩ = true := rfl
  go_enter Try.func37, Try.ntmps37
  go_wp2_with fail
  refine wp_region_ext (by kernel_rfl) (by kernel_rfl) ?_
  repeat (go_big_quiet_step ((first | (with_reducible exact ext_same (CI.out _)) | (with_reducible exact ext_same (CD.out _)) | (with_reducible exact ext_same (CA.out _)) | (with_reducible exact ext_grow (CF.out _)))))
  refine wpQuiet_nil ?_
  intro _ hw'
  obtain ⟨x, hw''⟩ := hw'
  subst hw''
  have HX := Lib.hid (ext_grew _ x)
  go_wp2
  go_ret
  exact ⟨rfl, (Below.trans (by go_grown) (Below.mono HX.out (by simp; omega)))⟩

set_option maxRecDepth 100000 in
set_option maxHeartbeats 4000000 in
theorem specInsOkB (op d a b rel lo hi to procs size : Int) (w : World) (hI : (decide (1 ≤ op) && decide (op ≤ 12)) = true) (h1 : 1 ≤ op) (h2 : op ≤ 12) (hf : formV ⟨op, d, a, b, rel, lo, hi, to⟩ = ⟨0, 0, 0, 0, 0, 0, 0, 0⟩) (hD : varB d = true) (hA : varB a = true) (hB : varB b = false) :
    Calls Try.prog 37 #[Ins.v ⟨op, d, a, b, rel, lo, hi, to⟩, .int .i64 procs, .int .i64 size] w fun e w' => e = .returned (.bool false) ∧ Grew w w' := by
  have CI : Hid (∀ w, Calls Try.prog 69 #[.int .i64 op, .int .i64 1, .int .i64 12] w fun e w' => e = .returned (.bool true) ∧ w = w') := Lib.hid (fun w => bool_is (l1In op 1 12 w) hI)
  have CD : Hid (∀ w, Calls Try.prog 69 #[.int .i64 d, .int .i64 0, .int .i64 3] w fun e w' => e = .returned (.bool true) ∧ w = w') := Lib.hid (fun w => bool_is (l1In d 0 3 w) hD)
  have CA : Hid (∀ w, Calls Try.prog 69 #[.int .i64 a, .int .i64 0, .int .i64 3] w fun e w' => e = .returned (.bool true) ∧ w = w') := Lib.hid (fun w => bool_is (l1In a 0 3 w) hA)
  have CB : Hid (∀ w, Calls Try.prog 69 #[.int .i64 b, .int .i64 0, .int .i64 3] w fun e w' => e = .returned (.bool false) ∧ w = w') := Lib.hid (fun w => bool_is (l1In b 0 3 w) hB)
  have CF : Hid (∀ w, Calls Try.prog 70 #[Ins.v ⟨op, d, a, b, rel, lo, hi, to⟩] w fun e w' => e = .returned (.agg #[.int .i64 0, .int .i64 0, .int .i64 0, .int .i64 0, .int .i64 0, .int .i64 0, .int .i64 0, .int .i64 0]) ∧ Grew w w') := Lib.hid (fun w => by
    have := l3Form ⟨op, d, a, b, rel, lo, hi, to⟩ w h1 h2
    rw [hf] at this
    exact this)
  clear hI hD hA hB hf h1 h2
  have hz : insEqB ⟨0, 0, 0, 0, 0, 0, 0, 0⟩ ⟨0, 0, 0, 0, 0, 0, 0, 0⟩ = true := rfl
  go_enter Try.func37, Try.ntmps37
  go_wp2_with fail
  refine wp_region_ext (by kernel_rfl) (by kernel_rfl) ?_
  repeat (go_big_quiet_step ((first | (with_reducible exact ext_same (CI.out _)) | (with_reducible exact ext_same (CD.out _)) | (with_reducible exact ext_same (CA.out _)) | (with_reducible exact ext_same (CB.out _)) | (with_reducible exact ext_grow (CF.out _)))))
  refine wpQuiet_nil ?_
  intro _ hw'
  obtain ⟨x, hw''⟩ := hw'
  subst hw''
  have HX := Lib.hid (ext_grew _ x)
  go_wp2
  go_ret
  exact ⟨rfl, (Below.trans (by go_grown) (Below.mono HX.out (by simp; omega)))⟩

set_option maxRecDepth 100000 in
set_option maxHeartbeats 4000000 in
theorem specInsOkT5 (d a b rel lo hi to procs size : Int) (w : World) (hI : (decide (1 ≤ (5 : Int)) && decide ((5 : Int) ≤ 12)) = true) (h1 : 1 ≤ (5 : Int)) (h2 : (5 : Int) ≤ 12) (hf : formV ⟨(5 : Int), d, a, b, rel, lo, hi, to⟩ = ⟨0, 0, 0, 0, 0, 0, 0, 0⟩) (hD : varB d = true) (hA : varB a = true) (hB : varB b = true) :
    Calls Try.prog 37 #[Ins.v ⟨(5 : Int), d, a, b, rel, lo, hi, to⟩, .int .i64 procs, .int .i64 size] w fun e w' => e = .returned (.bool (tailB ⟨(5 : Int), d, a, b, rel, lo, hi, to⟩ procs size)) ∧ Grew w w' := by
  have CI : Hid (∀ w, Calls Try.prog 69 #[.int .i64 (5 : Int), .int .i64 1, .int .i64 12] w fun e w' => e = .returned (.bool true) ∧ w = w') := Lib.hid (fun w => bool_is (l1In (5 : Int) 1 12 w) hI)
  have CD : Hid (∀ w, Calls Try.prog 69 #[.int .i64 d, .int .i64 0, .int .i64 3] w fun e w' => e = .returned (.bool true) ∧ w = w') := Lib.hid (fun w => bool_is (l1In d 0 3 w) hD)
  have CA : Hid (∀ w, Calls Try.prog 69 #[.int .i64 a, .int .i64 0, .int .i64 3] w fun e w' => e = .returned (.bool true) ∧ w = w') := Lib.hid (fun w => bool_is (l1In a 0 3 w) hA)
  have CB : Hid (∀ w, Calls Try.prog 69 #[.int .i64 b, .int .i64 0, .int .i64 3] w fun e w' => e = .returned (.bool true) ∧ w = w') := Lib.hid (fun w => bool_is (l1In b 0 3 w) hB)
  have CF : Hid (∀ w, Calls Try.prog 70 #[Ins.v ⟨(5 : Int), d, a, b, rel, lo, hi, to⟩] w fun e w' => e = .returned (.agg #[.int .i64 0, .int .i64 0, .int .i64 0, .int .i64 0, .int .i64 0, .int .i64 0, .int .i64 0, .int .i64 0]) ∧ Grew w w') := Lib.hid (fun w => by
    have := l3Form ⟨(5 : Int), d, a, b, rel, lo, hi, to⟩ w h1 h2
    rw [hf] at this
    exact this)
  clear hI hD hA hB hf h1 h2
  have hz : insEqB ⟨0, 0, 0, 0, 0, 0, 0, 0⟩ ⟨0, 0, 0, 0, 0, 0, 0, 0⟩ = true := rfl
  go_enter Try.func37, Try.ntmps37
  go_wp2_with fail
  refine wp_region_ext (by kernel_rfl) (by kernel_rfl) ?_
  repeat (go_big_quiet_step ((first | (with_reducible exact ext_same (CI.out _)) | (with_reducible exact ext_same (CD.out _)) | (with_reducible exact ext_same (CA.out _)) | (with_reducible exact ext_same (CB.out _)) | (with_reducible exact ext_grow (CF.out _)))))
  refine wpQuiet_nil ?_
  intro _ hw'
  obtain ⟨x, hw''⟩ := hw'
  subst hw''
  have HX := Lib.hid (ext_grew _ x)
  go_wp2_with (first | fail | ((go_at_call_of 71 (Value.int .i64 lo)); (with_reducible refine (specNumOk _ _).mono ?_); rintro e w1 ⟨rfl, rfl⟩) | ((go_at_call_of 71 (Value.int .i64 hi)); (with_reducible refine (specNumOk _ _).mono ?_); rintro e w1 ⟨rfl, rfl⟩))
  all_goals
    go_ret
    exact ⟨by simp [tailB, itvOkB, *]; try omega, (Below.trans (by go_grown) (Below.mono HX.out (by simp; omega)))⟩

set_option maxRecDepth 100000 in
set_option maxHeartbeats 4000000 in
theorem specInsOkT8 (d a b rel lo hi to procs size : Int) (w : World) (hI : (decide (1 ≤ (8 : Int)) && decide ((8 : Int) ≤ 12)) = true) (h1 : 1 ≤ (8 : Int)) (h2 : (8 : Int) ≤ 12) (hf : formV ⟨(8 : Int), d, a, b, rel, lo, hi, to⟩ = ⟨0, 0, 0, 0, 0, 0, 0, 0⟩) (hD : varB d = true) (hA : varB a = true) (hB : varB b = true) :
    Calls Try.prog 37 #[Ins.v ⟨(8 : Int), d, a, b, rel, lo, hi, to⟩, .int .i64 procs, .int .i64 size] w fun e w' => e = .returned (.bool (tailB ⟨(8 : Int), d, a, b, rel, lo, hi, to⟩ procs size)) ∧ Grew w w' := by
  have CI : Hid (∀ w, Calls Try.prog 69 #[.int .i64 (8 : Int), .int .i64 1, .int .i64 12] w fun e w' => e = .returned (.bool true) ∧ w = w') := Lib.hid (fun w => bool_is (l1In (8 : Int) 1 12 w) hI)
  have CD : Hid (∀ w, Calls Try.prog 69 #[.int .i64 d, .int .i64 0, .int .i64 3] w fun e w' => e = .returned (.bool true) ∧ w = w') := Lib.hid (fun w => bool_is (l1In d 0 3 w) hD)
  have CA : Hid (∀ w, Calls Try.prog 69 #[.int .i64 a, .int .i64 0, .int .i64 3] w fun e w' => e = .returned (.bool true) ∧ w = w') := Lib.hid (fun w => bool_is (l1In a 0 3 w) hA)
  have CB : Hid (∀ w, Calls Try.prog 69 #[.int .i64 b, .int .i64 0, .int .i64 3] w fun e w' => e = .returned (.bool true) ∧ w = w') := Lib.hid (fun w => bool_is (l1In b 0 3 w) hB)
  have CF : Hid (∀ w, Calls Try.prog 70 #[Ins.v ⟨(8 : Int), d, a, b, rel, lo, hi, to⟩] w fun e w' => e = .returned (.agg #[.int .i64 0, .int .i64 0, .int .i64 0, .int .i64 0, .int .i64 0, .int .i64 0, .int .i64 0, .int .i64 0]) ∧ Grew w w') := Lib.hid (fun w => by
    have := l3Form ⟨(8 : Int), d, a, b, rel, lo, hi, to⟩ w h1 h2
    rw [hf] at this
    exact this)
  clear hI hD hA hB hf h1 h2
  have hz : insEqB ⟨0, 0, 0, 0, 0, 0, 0, 0⟩ ⟨0, 0, 0, 0, 0, 0, 0, 0⟩ = true := rfl
  go_enter Try.func37, Try.ntmps37
  go_wp2_with fail
  refine wp_region_ext (by kernel_rfl) (by kernel_rfl) ?_
  repeat (go_big_quiet_step ((first | (with_reducible exact ext_same (CI.out _)) | (with_reducible exact ext_same (CD.out _)) | (with_reducible exact ext_same (CA.out _)) | (with_reducible exact ext_same (CB.out _)) | (with_reducible exact ext_grow (CF.out _)))))
  refine wpQuiet_nil ?_
  intro _ hw'
  obtain ⟨x, hw''⟩ := hw'
  subst hw''
  have HX := Lib.hid (ext_grew _ x)
  go_wp2_with (first | fail | ((with_reducible refine (l1In _ _ _ _).mono ?_); rintro e w1 ⟨rfl, rfl⟩))
  all_goals
    go_ret
    exact ⟨by simp [tailB, *]; try omega, (Below.trans (by go_grown) (Below.mono HX.out (by simp; omega)))⟩

set_option maxRecDepth 100000 in
set_option maxHeartbeats 4000000 in
theorem specInsOkT9 (d a b rel lo hi to procs size : Int) (w : World) (hI : (decide (1 ≤ (9 : Int)) && decide ((9 : Int) ≤ 12)) = true) (h1 : 1 ≤ (9 : Int)) (h2 : (9 : Int) ≤ 12) (hf : formV ⟨(9 : Int), d, a, b, rel, lo, hi, to⟩ = ⟨0, 0, 0, 0, 0, 0, 0, 0⟩) (hD : varB d = true) (hA : varB a = true) (hB : varB b = true) :
    Calls Try.prog 37 #[Ins.v ⟨(9 : Int), d, a, b, rel, lo, hi, to⟩, .int .i64 procs, .int .i64 size] w fun e w' => e = .returned (.bool (tailB ⟨(9 : Int), d, a, b, rel, lo, hi, to⟩ procs size)) ∧ Grew w w' := by
  have CI : Hid (∀ w, Calls Try.prog 69 #[.int .i64 (9 : Int), .int .i64 1, .int .i64 12] w fun e w' => e = .returned (.bool true) ∧ w = w') := Lib.hid (fun w => bool_is (l1In (9 : Int) 1 12 w) hI)
  have CD : Hid (∀ w, Calls Try.prog 69 #[.int .i64 d, .int .i64 0, .int .i64 3] w fun e w' => e = .returned (.bool true) ∧ w = w') := Lib.hid (fun w => bool_is (l1In d 0 3 w) hD)
  have CA : Hid (∀ w, Calls Try.prog 69 #[.int .i64 a, .int .i64 0, .int .i64 3] w fun e w' => e = .returned (.bool true) ∧ w = w') := Lib.hid (fun w => bool_is (l1In a 0 3 w) hA)
  have CB : Hid (∀ w, Calls Try.prog 69 #[.int .i64 b, .int .i64 0, .int .i64 3] w fun e w' => e = .returned (.bool true) ∧ w = w') := Lib.hid (fun w => bool_is (l1In b 0 3 w) hB)
  have CF : Hid (∀ w, Calls Try.prog 70 #[Ins.v ⟨(9 : Int), d, a, b, rel, lo, hi, to⟩] w fun e w' => e = .returned (.agg #[.int .i64 0, .int .i64 0, .int .i64 0, .int .i64 0, .int .i64 0, .int .i64 0, .int .i64 0, .int .i64 0]) ∧ Grew w w') := Lib.hid (fun w => by
    have := l3Form ⟨(9 : Int), d, a, b, rel, lo, hi, to⟩ w h1 h2
    rw [hf] at this
    exact this)
  clear hI hD hA hB hf h1 h2
  have hz : insEqB ⟨0, 0, 0, 0, 0, 0, 0, 0⟩ ⟨0, 0, 0, 0, 0, 0, 0, 0⟩ = true := rfl
  go_enter Try.func37, Try.ntmps37
  go_wp2_with fail
  refine wp_region_ext (by kernel_rfl) (by kernel_rfl) ?_
  repeat (go_big_quiet_step ((first | (with_reducible exact ext_same (CI.out _)) | (with_reducible exact ext_same (CD.out _)) | (with_reducible exact ext_same (CA.out _)) | (with_reducible exact ext_same (CB.out _)) | (with_reducible exact ext_grow (CF.out _)))))
  refine wpQuiet_nil ?_
  intro _ hw'
  obtain ⟨x, hw''⟩ := hw'
  subst hw''
  have HX := Lib.hid (ext_grew _ x)
  go_wp2_with (first | fail | fail)
  all_goals
    go_ret
    exact ⟨by simp [tailB, *]; try omega, (Below.trans (by go_grown) (Below.mono HX.out (by simp; omega)))⟩

set_option maxRecDepth 100000 in
set_option maxHeartbeats 4000000 in
theorem specInsOkT10 (d a b rel lo hi to procs size : Int) (w : World) (hI : (decide (1 ≤ (10 : Int)) && decide ((10 : Int) ≤ 12)) = true) (h1 : 1 ≤ (10 : Int)) (h2 : (10 : Int) ≤ 12) (hf : formV ⟨(10 : Int), d, a, b, rel, lo, hi, to⟩ = ⟨0, 0, 0, 0, 0, 0, 0, 0⟩) (hD : varB d = true) (hA : varB a = true) (hB : varB b = true) :
    Calls Try.prog 37 #[Ins.v ⟨(10 : Int), d, a, b, rel, lo, hi, to⟩, .int .i64 procs, .int .i64 size] w fun e w' => e = .returned (.bool (tailB ⟨(10 : Int), d, a, b, rel, lo, hi, to⟩ procs size)) ∧ Grew w w' := by
  have CI : Hid (∀ w, Calls Try.prog 69 #[.int .i64 (10 : Int), .int .i64 1, .int .i64 12] w fun e w' => e = .returned (.bool true) ∧ w = w') := Lib.hid (fun w => bool_is (l1In (10 : Int) 1 12 w) hI)
  have CD : Hid (∀ w, Calls Try.prog 69 #[.int .i64 d, .int .i64 0, .int .i64 3] w fun e w' => e = .returned (.bool true) ∧ w = w') := Lib.hid (fun w => bool_is (l1In d 0 3 w) hD)
  have CA : Hid (∀ w, Calls Try.prog 69 #[.int .i64 a, .int .i64 0, .int .i64 3] w fun e w' => e = .returned (.bool true) ∧ w = w') := Lib.hid (fun w => bool_is (l1In a 0 3 w) hA)
  have CB : Hid (∀ w, Calls Try.prog 69 #[.int .i64 b, .int .i64 0, .int .i64 3] w fun e w' => e = .returned (.bool true) ∧ w = w') := Lib.hid (fun w => bool_is (l1In b 0 3 w) hB)
  have CF : Hid (∀ w, Calls Try.prog 70 #[Ins.v ⟨(10 : Int), d, a, b, rel, lo, hi, to⟩] w fun e w' => e = .returned (.agg #[.int .i64 0, .int .i64 0, .int .i64 0, .int .i64 0, .int .i64 0, .int .i64 0, .int .i64 0, .int .i64 0]) ∧ Grew w w') := Lib.hid (fun w => by
    have := l3Form ⟨(10 : Int), d, a, b, rel, lo, hi, to⟩ w h1 h2
    rw [hf] at this
    exact this)
  clear hI hD hA hB hf h1 h2
  have hz : insEqB ⟨0, 0, 0, 0, 0, 0, 0, 0⟩ ⟨0, 0, 0, 0, 0, 0, 0, 0⟩ = true := rfl
  go_enter Try.func37, Try.ntmps37
  go_wp2_with fail
  refine wp_region_ext (by kernel_rfl) (by kernel_rfl) ?_
  repeat (go_big_quiet_step ((first | (with_reducible exact ext_same (CI.out _)) | (with_reducible exact ext_same (CD.out _)) | (with_reducible exact ext_same (CA.out _)) | (with_reducible exact ext_same (CB.out _)) | (with_reducible exact ext_grow (CF.out _)))))
  refine wpQuiet_nil ?_
  intro _ hw'
  obtain ⟨x, hw''⟩ := hw'
  subst hw''
  have HX := Lib.hid (ext_grew _ x)
  go_wp2_with (first | fail | fail)
  all_goals
    go_ret
    exact ⟨by simp [tailB, *]; try omega, (Below.trans (by go_grown) (Below.mono HX.out (by simp; omega)))⟩

set_option maxRecDepth 100000 in
set_option maxHeartbeats 4000000 in
theorem specInsOkT11 (d a b rel lo hi to procs size : Int) (w : World) (hI : (decide (1 ≤ (11 : Int)) && decide ((11 : Int) ≤ 12)) = true) (h1 : 1 ≤ (11 : Int)) (h2 : (11 : Int) ≤ 12) (hf : formV ⟨(11 : Int), d, a, b, rel, lo, hi, to⟩ = ⟨0, 0, 0, 0, 0, 0, 0, 0⟩) (hD : varB d = true) (hA : varB a = true) (hB : varB b = true) :
    Calls Try.prog 37 #[Ins.v ⟨(11 : Int), d, a, b, rel, lo, hi, to⟩, .int .i64 procs, .int .i64 size] w fun e w' => e = .returned (.bool (tailB ⟨(11 : Int), d, a, b, rel, lo, hi, to⟩ procs size)) ∧ Grew w w' := by
  have CI : Hid (∀ w, Calls Try.prog 69 #[.int .i64 (11 : Int), .int .i64 1, .int .i64 12] w fun e w' => e = .returned (.bool true) ∧ w = w') := Lib.hid (fun w => bool_is (l1In (11 : Int) 1 12 w) hI)
  have CD : Hid (∀ w, Calls Try.prog 69 #[.int .i64 d, .int .i64 0, .int .i64 3] w fun e w' => e = .returned (.bool true) ∧ w = w') := Lib.hid (fun w => bool_is (l1In d 0 3 w) hD)
  have CA : Hid (∀ w, Calls Try.prog 69 #[.int .i64 a, .int .i64 0, .int .i64 3] w fun e w' => e = .returned (.bool true) ∧ w = w') := Lib.hid (fun w => bool_is (l1In a 0 3 w) hA)
  have CB : Hid (∀ w, Calls Try.prog 69 #[.int .i64 b, .int .i64 0, .int .i64 3] w fun e w' => e = .returned (.bool true) ∧ w = w') := Lib.hid (fun w => bool_is (l1In b 0 3 w) hB)
  have CF : Hid (∀ w, Calls Try.prog 70 #[Ins.v ⟨(11 : Int), d, a, b, rel, lo, hi, to⟩] w fun e w' => e = .returned (.agg #[.int .i64 0, .int .i64 0, .int .i64 0, .int .i64 0, .int .i64 0, .int .i64 0, .int .i64 0, .int .i64 0]) ∧ Grew w w') := Lib.hid (fun w => by
    have := l3Form ⟨(11 : Int), d, a, b, rel, lo, hi, to⟩ w h1 h2
    rw [hf] at this
    exact this)
  clear hI hD hA hB hf h1 h2
  have hz : insEqB ⟨0, 0, 0, 0, 0, 0, 0, 0⟩ ⟨0, 0, 0, 0, 0, 0, 0, 0⟩ = true := rfl
  go_enter Try.func37, Try.ntmps37
  go_wp2_with fail
  refine wp_region_ext (by kernel_rfl) (by kernel_rfl) ?_
  repeat (go_big_quiet_step ((first | (with_reducible exact ext_same (CI.out _)) | (with_reducible exact ext_same (CD.out _)) | (with_reducible exact ext_same (CA.out _)) | (with_reducible exact ext_same (CB.out _)) | (with_reducible exact ext_grow (CF.out _)))))
  refine wpQuiet_nil ?_
  intro _ hw'
  obtain ⟨x, hw''⟩ := hw'
  subst hw''
  have HX := Lib.hid (ext_grew _ x)
  go_wp2_with (first | fail | ((with_reducible refine (l1In _ _ _ _).mono ?_); rintro e w1 ⟨rfl, rfl⟩))
  all_goals
    go_ret
    exact ⟨by simp [tailB, *]; try omega, (Below.trans (by go_grown) (Below.mono HX.out (by simp; omega)))⟩

set_option maxRecDepth 100000 in
set_option maxHeartbeats 4000000 in
theorem specInsOkT0 (op d a b rel lo hi to procs size : Int) (w : World) (hI : (decide (1 ≤ op) && decide (op ≤ 12)) = true) (h1 : 1 ≤ op) (h2 : op ≤ 12) (hf : formV ⟨op, d, a, b, rel, lo, hi, to⟩ = ⟨0, 0, 0, 0, 0, 0, 0, 0⟩) (hD : varB d = true) (hA : varB a = true) (hB : varB b = true) (ho : op ≠ 5 ∧ op ≠ 8 ∧ op ≠ 9 ∧ op ≠ 10 ∧ op ≠ 11) :
    Calls Try.prog 37 #[Ins.v ⟨op, d, a, b, rel, lo, hi, to⟩, .int .i64 procs, .int .i64 size] w fun e w' => e = .returned (.bool (tailB ⟨op, d, a, b, rel, lo, hi, to⟩ procs size)) ∧ Grew w w' := by
  have CI : Hid (∀ w, Calls Try.prog 69 #[.int .i64 op, .int .i64 1, .int .i64 12] w fun e w' => e = .returned (.bool true) ∧ w = w') := Lib.hid (fun w => bool_is (l1In op 1 12 w) hI)
  have CD : Hid (∀ w, Calls Try.prog 69 #[.int .i64 d, .int .i64 0, .int .i64 3] w fun e w' => e = .returned (.bool true) ∧ w = w') := Lib.hid (fun w => bool_is (l1In d 0 3 w) hD)
  have CA : Hid (∀ w, Calls Try.prog 69 #[.int .i64 a, .int .i64 0, .int .i64 3] w fun e w' => e = .returned (.bool true) ∧ w = w') := Lib.hid (fun w => bool_is (l1In a 0 3 w) hA)
  have CB : Hid (∀ w, Calls Try.prog 69 #[.int .i64 b, .int .i64 0, .int .i64 3] w fun e w' => e = .returned (.bool true) ∧ w = w') := Lib.hid (fun w => bool_is (l1In b 0 3 w) hB)
  have CF : Hid (∀ w, Calls Try.prog 70 #[Ins.v ⟨op, d, a, b, rel, lo, hi, to⟩] w fun e w' => e = .returned (.agg #[.int .i64 0, .int .i64 0, .int .i64 0, .int .i64 0, .int .i64 0, .int .i64 0, .int .i64 0, .int .i64 0]) ∧ Grew w w') := Lib.hid (fun w => by
    have := l3Form ⟨op, d, a, b, rel, lo, hi, to⟩ w h1 h2
    rw [hf] at this
    exact this)
  clear hI hD hA hB hf h1 h2
  have hz : insEqB ⟨0, 0, 0, 0, 0, 0, 0, 0⟩ ⟨0, 0, 0, 0, 0, 0, 0, 0⟩ = true := rfl
  have HT : Hid (tailB ⟨op, d, a, b, rel, lo, hi, to⟩ procs size = true) := Lib.hid (by simp [tailB, ho])
  obtain ⟨n5, n8, n9, n10, n11⟩ := ho
  have m5 : (op == 5) = false := by simpa using n5
  have m8 : (op == 8) = false := by simpa using n8
  have m9 : (op == 9) = false := by simpa using n9
  have m10 : (op == 10) = false := by simpa using n10
  have m11 : (op == 11) = false := by simpa using n11
  clear n5 n8 n9 n10 n11
  go_enter Try.func37, Try.ntmps37
  go_wp2_with fail
  refine wp_region_ext (by kernel_rfl) (by kernel_rfl) ?_
  repeat (go_big_quiet_step ((first | (with_reducible exact ext_same (CI.out _)) | (with_reducible exact ext_same (CD.out _)) | (with_reducible exact ext_same (CA.out _)) | (with_reducible exact ext_same (CB.out _)) | (with_reducible exact ext_grow (CF.out _)))))
  refine wpQuiet_nil ?_
  intro _ hw'
  obtain ⟨x, hw''⟩ := hw'
  subst hw''
  have HX := Lib.hid (ext_grew _ x)
  go_wp2
  go_ret
  exact ⟨by rw [HT.out]; rfl, (Below.trans (by go_grown) (Below.mono HX.out (by simp; omega)))⟩

theorem specInsOk (i : Ins) (procs size : Int) (w : World) :
    Calls Try.prog 37 #[i.v, .int .i64 procs, .int .i64 size] w fun e w' => e = .returned (.bool (insOkB i procs size)) ∧ Grew w w' := by
  obtain ⟨op, d, a, b, rel, lo, hi, to⟩ := i
  cases hI : (decide (1 ≤ op) && decide (op ≤ 12))
  · rw [show insOkB ⟨op, d, a, b, rel, lo, hi, to⟩ procs size = false from by simp only [insOkB, headB, hI, Bool.false_and]]
    exact specInsOkI _ _ _ _ _ _ _ _ _ _ _ hI
  have hop : 1 ≤ op ∧ op ≤ 12 := by simpa using hI
  cases hf : decide (formV ⟨op, d, a, b, rel, lo, hi, to⟩ = ⟨0, 0, 0, 0, 0, 0, 0, 0⟩)
  · rw [show insOkB ⟨op, d, a, b, rel, lo, hi, to⟩ procs size = false from by simp only [insOkB, headB, hf, Bool.false_and, Bool.and_false]]
    obtain ⟨⟨op2, d2, a2, b2, rel2, lo2, hi2, to2⟩, hv⟩ : ∃ v, formV ⟨op, d, a, b, rel, lo, hi, to⟩ = v := ⟨_, rfl⟩
    refine specInsOkF _ _ _ _ _ _ _ _ _ _ _ hI hop.1 hop.2 _ _ _ _ _ _ _ _ hv ?_
    rw [hv] at hf
    exact hf
  have hf := of_decide_eq_true hf
  cases hD : varB d
  · rw [show insOkB ⟨op, d, a, b, rel, lo, hi, to⟩ procs size = false from by simp only [insOkB, headB, hD, Bool.false_and, Bool.and_false]]
    exact specInsOkD _ _ _ _ _ _ _ _ _ _ _ hI hop.1 hop.2 hf hD
  cases hA : varB a
  · rw [show insOkB ⟨op, d, a, b, rel, lo, hi, to⟩ procs size = false from by simp only [insOkB, headB, hA, Bool.false_and, Bool.and_false]]
    exact specInsOkA _ _ _ _ _ _ _ _ _ _ _ hI hop.1 hop.2 hf hD hA
  cases hB : varB b
  · rw [show insOkB ⟨op, d, a, b, rel, lo, hi, to⟩ procs size = false from by simp only [insOkB, headB, hB, Bool.false_and, Bool.and_false]]
    exact specInsOkB _ _ _ _ _ _ _ _ _ _ _ hI hop.1 hop.2 hf hD hA hB
  rw [show insOkB ⟨op, d, a, b, rel, lo, hi, to⟩ procs size = tailB ⟨op, d, a, b, rel, lo, hi, to⟩ procs size from by simp only [insOkB, headB, hI, hf, hD, hA, hB, Bool.true_and, decide_true]]
  by_cases h5 : op = 5
  · subst h5; exact specInsOkT5 _ _ _ _ _ _ _ _ _ _ hI hop.1 hop.2 hf hD hA hB
  by_cases h8 : op = 8
  · subst h8; exact specInsOkT8 _ _ _ _ _ _ _ _ _ _ hI hop.1 hop.2 hf hD hA hB
  by_cases h9 : op = 9
  · subst h9; exact specInsOkT9 _ _ _ _ _ _ _ _ _ _ hI hop.1 hop.2 hf hD hA hB
  by_cases h10 : op = 10
  · subst h10; exact specInsOkT10 _ _ _ _ _ _ _ _ _ _ hI hop.1 hop.2 hf hD hA hB
  by_cases h11 : op = 11
  · subst h11; exact specInsOkT11 _ _ _ _ _ _ _ _ _ _ hI hop.1 hop.2 hf hD hA hB
  exact specInsOkT0 _ _ _ _ _ _ _ _ _ _ _ hI hop.1 hop.2 hf hD hA hB ⟨h5, h8, h9, h10, h11⟩
end Go.Proofs.Ytmcfengnihomcaa

/- Programs: their sizes, and whether two are the same. No condition. -/
namespace Go.Proofs.Ytmcfengnihomcaa
open Go.RowKit
set_option linter.unusedVariables false
attribute [local go_sem] ext_cell ext_frozen ext_lt ext_le ext_le1 lt_s2 lt_s3 lt_s4 lt_s5 lt_s6 ext_lt1 ext_lt2 ext_lt3

theorem szInsInsS (a : Option Addr) (n cap : Nat) (left : Int) (w : World) (h0 : 0 ≤ left) (h1 : left ≤ 1048576) (hn : n ≤ 9223372036854775807) :
    Calls Try.prog 102 #[.slice a n cap, .int .i64 left] w fun e w' => e = .returned (.int .i64 (if left < n then -1 else left - n)) ∧ w = w' := by
  by_cases h : left < n
  · have h2 : left - n < 0 := by omega
    rw [if_pos h]
    clear h
    go_enter Try.func102, Try.ntmps102
    go_wp2
    go_ret
    exact ⟨rfl, rfl⟩
  · have h2 : ¬ left - n < 0 := by omega
    have h3 : 0 ≤ left - n := by omega
    rw [if_neg h]
    clear h
    go_enter Try.func102, Try.ntmps102
    go_wp2
    go_ret
    exact ⟨rfl, rfl⟩

theorem szPrcProc (lo hi : Int) (a : Option Addr) (n cap : Nat) (left : Int) (w : World) (h0 : 0 ≤ left) (h1 : left ≤ 1048576) (hn : n ≤ 9223372036854775807) :
    Calls Try.prog 76 #[.agg #[.int .i64 lo, .int .i64 hi, .slice a n cap], .int .i64 left] w fun e w' => e = .returned (.int .i64 (if left < n then -1 else left - n)) ∧ Grew w w' := by
  by_cases h : left < n
  · have C := fun w => szInsInsS a n cap left w h0 h1 hn
    rw [if_pos h] at C ⊢
    have HC := Lib.hid C; clear C h
    go_enter Try.func76, Try.ntmps76
    go_wp2_with ((with_reducible refine (HC.out _).mono ?_); rintro e w' ⟨rfl, rfl⟩)
    go_ret
    refine ⟨rfl, ?_⟩
    repeat (first | with_reducible exact Below.refl _ _ | with_reducible assumption | with_reducible apply grew_ext | with_reducible apply grew_al | with_reducible apply grew_dn | with_reducible apply grew_d | (with_reducible refine grew_set ?_ (by first | omega | (repeat (first | with_reducible exact Nat.le_refl _ | with_reducible apply le_pl | with_reducible apply le_ext | with_reducible apply le_al))) _))
  · have C := fun w => szInsInsS a n cap left w h0 h1 hn
    have h3 : ¬ left - n < 0 := by omega
    rw [if_neg h] at C ⊢
    have HC := Lib.hid C; clear C h
    go_enter Try.func76, Try.ntmps76
    go_wp2_with ((with_reducible refine (HC.out _).mono ?_); rintro e w' ⟨rfl, rfl⟩)
    go_ret
    refine ⟨rfl, ?_⟩
    repeat (first | with_reducible exact Below.refl _ _ | with_reducible assumption | with_reducible apply grew_ext | with_reducible apply grew_al | with_reducible apply grew_dn | with_reducible apply grew_d | (with_reducible refine grew_set ?_ (by first | omega | (repeat (first | with_reducible exact Nat.le_refl _ | with_reducible apply le_pl | with_reducible apply le_ext | with_reducible apply le_al))) _))

/-- What is told of sizes: too much, or all are small. -/
def RetSz (n : Nat) (ps : List Prc) (left : Int) (w : World) (e : Ending) (w' : World) : Prop :=
  ∃ z : Int, e = .returned (.int .i64 z) ∧ (z = -1 ∨ (0 ≤ z ∧ z ≤ left ∧ n ≤ 1048576 ∧ ∀ p, p ∈ ps → p.code.length ≤ 1048576)) ∧ Grew w w'

set_option maxHeartbeats 1000000 in
theorem szPrcProcS (a : Option Addr) (n cap : Nat) (ps : List Prc) (left : Int) (w : World) (hr : RdP w a n ps) (h0 : 0 ≤ left) (h1 : left ≤ 1048576) (hn : n ≤ 9223372036854775807) :
    Calls Try.prog 48 #[.slice a n cap, .int .i64 left] w (RetSz n ps left w) := by
  have HL := Lib.hid hr.len
  have HR := Lib.hid hr; clear hr
  by_cases h : left < n
  · have h2 : left - n < 0 := by omega
    clear h
    go_enter Try.func48, Try.ntmps48
    go_wp2
    go_ret
    exact ⟨-1, rfl, .inl rfl, Below.refl _ _⟩
  · have h2 : ¬ left - n < 0 := by omega
    have h3 : 0 ≤ left - n := by omega
    have hn2 : n ≤ 1048576 := by omega
    clear h
    go_enter Try.func48, Try.ntmps48
    go_wp2
    go_loopw [1, 5] (fun z i wr => ∃ (k : Nat) (L : Int), k ≤ n ∧ i = .int .i64 k ∧ z = .int .i64 L ∧ 0 ≤ L ∧ L ≤ left ∧ Grew w wr ∧ ∀ p, p ∈ ps.take k → p.code.length ≤ 1048576) (fun _ i _ => n - (Go.RowKit.intOf i).toNat)
    case atStart => exact ⟨0, _, Nat.zero_le _, rfl, rfl, h3, by omega, Below.refl _ _, by simp⟩
    case round =>
      obtain ⟨k, L, hk, rfl, rfl, hL0, hL1, hg, hps⟩ := hrel
      have HP := Lib.hid hps; clear hps
      by_cases hlt : k < n
      · obtain ⟨b, off, lo, hi, is, ia, ic, rfl, hx, c0, c1, c2, hb, hi1, hi2, hi3⟩ := rdP_at (HR.out.grew hg) hlt
        have HX := Lib.hid hx; clear hx
        have HG := Lib.hid hg; clear hg
        have hic : is.length ≤ 9223372036854775807 := by unfold maxLen at hi3; omega
        clear hi1 hi2 hi3
        have C := fun w => szPrcProc lo hi ia is.length ic L w hL0 (by omega) hic
        by_cases hs : L < is.length
        · rw [if_pos hs] at C
          have HC := Lib.hid C; clear C hs
          go_wp2_with ((with_reducible refine (HC.out _).mono ?_); rintro e w' ⟨rfl, g'⟩; (first | obtain ⟨x, rfl⟩ := ext_cold g' | obtain ⟨x, rfl⟩ := ext_col g' | obtain ⟨x, rfl⟩ := ext_of g'); clear g')
          go_ret
          refine ⟨-1, rfl, .inl rfl, ?_⟩
          apply grew_ext
          exact HG.out
        · rw [if_neg hs] at C
          have HC := Lib.hid C; clear C
          have h4 : ¬ L - is.length < 0 := by omega
          have h5 : 0 ≤ L - is.length := by omega
          have hsm : is.length ≤ 1048576 := by omega
          clear hs
          go_wp2_with ((with_reducible refine (HC.out _).mono ?_); rintro e w' ⟨rfl, g'⟩; (first | obtain ⟨x, rfl⟩ := ext_cold g' | obtain ⟨x, rfl⟩ := ext_col g' | obtain ⟨x, rfl⟩ := ext_of g'); clear g')
          go_roundw
          case rel =>
            refine ⟨k + 1, _, by omega, by go_num, rfl, h5, by omega, grew_ext HG.out x, fun p hp => ?_⟩
            rw [take_get HX.out] at hp
            rcases List.mem_append.1 hp with hp | hp
            · exact HP.out p hp
            · obtain rfl := List.mem_singleton.1 hp
              exact hsm
          case measure => simp [Go.RowKit.intOf]; omega
      · have HG := Lib.hid hg; clear hg
        go_wp2
        go_ret
        exact ⟨L, rfl, .inr ⟨hL0, by omega, hn2, fun p hp => HP.out p (by rw [List.take_of_length_le (by have := HL.out; omega)]; exact hp)⟩, HG.out⟩

theorem szPrgProg (a : Option Addr) (n cap : Nat) (ps : List Prc) (left : Int) (w : World) (hr : RdP w a n ps) (h0 : 0 ≤ left) (h1 : left ≤ 1048576) (hn : n ≤ 9223372036854775807) :
    Calls Try.prog 13 #[.agg #[.slice a n cap], .int .i64 left] w (RetSz n ps left w) := by
  have HR := Lib.hid hr; clear hr
  go_enter Try.func13, Try.ntmps13
  go_wp2_with fail
  refine (szPrcProcS a n cap ps left _ (HR.out.grew (by unfold Grew; go_grown)) h0 h1 hn).mono ?_
  rintro e w1 ⟨z, rfl, hz, g1⟩
  obtain ⟨x, rfl⟩ := ext_of g1
  clear g1
  rcases hz with rfl | ⟨z0, z1, z2⟩
  · go_wp2
    go_ret
    refine ⟨-1, rfl, .inl rfl, ?_⟩
    repeat (first | with_reducible exact Below.refl _ _ | with_reducible assumption | with_reducible apply grew_ext | with_reducible apply grew_al | with_reducible apply grew_dn | with_reducible apply grew_d | (with_reducible refine grew_set ?_ (by first | omega | (repeat (first | with_reducible exact Nat.le_refl _ | with_reducible apply le_pl | with_reducible apply le_ext | with_reducible apply le_al))) _))
  · have hz2 := Lib.hid z2; clear z2
    go_wp2
    go_ret
    refine ⟨z, rfl, .inr ⟨z0, z1, hz2.out⟩, ?_⟩
    repeat (first | with_reducible exact Below.refl _ _ | with_reducible assumption | with_reducible apply grew_ext | with_reducible apply grew_al | with_reducible apply grew_dn | with_reducible apply grew_d | (with_reducible refine grew_set ?_ (by first | omega | (repeat (first | with_reducible exact Nat.le_refl _ | with_reducible apply le_pl | with_reducible apply le_ext | with_reducible apply le_al))) _))

set_option maxHeartbeats 2000000 in
theorem eqInsIns (i j : Ins) (w : World) :
    Calls Try.prog 130 #[i.v, j.v] w fun e w' => e = .returned (.bool (insEqB i j)) ∧ Grew w w' := by
  obtain ⟨op, d, a, b, rel, lo, hi, to⟩ := i
  obtain ⟨op', d', a', b', rel', lo', hi', to'⟩ := j
  go_enter Try.func130, Try.ntmps130
  go_wp2
  all_goals
    go_ret
    refine ⟨by go_light; simp_all [insEqB], ?_⟩
    repeat (first | with_reducible exact Below.refl _ _ | with_reducible assumption | with_reducible apply grew_ext | with_reducible apply grew_al | with_reducible apply grew_dn | with_reducible apply grew_d | (with_reducible refine grew_set ?_ (by first | omega | (repeat (first | with_reducible exact Nat.le_refl _ | with_reducible apply le_pl | with_reducible apply le_ext | with_reducible apply le_al))) _))

theorem insEqB_iff {i j : Ins} : insEqB i j = true ↔ i = j := by simp [insEqB]

set_option maxHeartbeats 1000000 in
theorem eqInsInsS (a a' : Option Addr) (n n' cap cap' : Nat) (is js : List Ins) (w : World) (hr : RdL EIns 8 w a n is) (hr' : RdL EIns 8 w a' n' js) (hn : n ≤ 9223372036854775807) (hn' : n' ≤ 9223372036854775807) :
    Calls Try.prog 108 #[.slice a n cap, .slice a' n' cap'] w fun e w' => e = .returned (.bool (decide (is = js))) ∧ Grew w w' := by
  have HL := Lib.hid hr.len
  have HL' := Lib.hid hr'.len
  have HR := Lib.hid hr; clear hr
  have HR' := Lib.hid hr'; clear hr'
  by_cases hnn : n = n'
  · subst hnn
    go_enter Try.func108, Try.ntmps108
    go_wp2
    go_loopw [5] (fun i wr => ∃ k : Nat, k ≤ n ∧ i = .int .i64 k ∧ Grew w wr ∧ is.take k = js.take k) (fun i _ => n - (Go.RowKit.intOf i).toNat)
    case atStart => exact ⟨0, Nat.zero_le _, rfl, Below.refl _ _, by simp⟩
    case round =>
      obtain ⟨k, hk, rfl, hg, he⟩ := hrel
      have HE := Lib.hid he; clear he
      by_cases hlt : k < n
      · obtain ⟨b, off, op, d, ia, ib, rel, lo, hi, to, rfl, hx, c0, c1, c2, c3, c4, c5, c6, c7, hb⟩ := rdI_at (HR.out.grew stays_ins hg) hlt
        obtain ⟨b', off', op', d', ia', ib', rel', lo', hi', to', rfl, hx', c0', c1', c2', c3', c4', c5', c6', c7', hb'⟩ := rdI_at (HR'.out.grew stays_ins hg) hlt
        have HX := Lib.hid hx; clear hx
        have HX' := Lib.hid hx'; clear hx'
        have HG := Lib.hid hg; clear hg
        have C := fun w => eqInsIns ⟨op, d, ia, ib, rel, lo, hi, to⟩ ⟨op', d', ia', ib', rel', lo', hi', to'⟩ w
        cases hq : insEqB ⟨op, d, ia, ib, rel, lo, hi, to⟩ ⟨op', d', ia', ib', rel', lo', hi', to'⟩
        · have hfin : decide (is = js) = false := decide_eq_false (fun e => by
            have h1 := HX.out
            rw [e, HX'.out] at h1
            have := Option.some.inj h1
            rw [this] at hq
            simp [insEqB] at hq)
          have HF := Lib.hid hfin; clear hfin
          rw [hq] at C
          have HC := Lib.hid C; clear C hq
          go_wp2_with fail
          first | refine wp_region_ext2 (by kernel_rfl) (by kernel_rfl) ?_ | refine wp_region_ext (by kernel_rfl) (by kernel_rfl) ?_
          repeat (go_big_quiet_step ((first | (with_reducible exact ext_grow (HC.out _)))))
          refine wpQuiet_nil ?_
          intro _ hw'
          obtain ⟨x, hw''⟩ := hw'
          subst hw''
          go_wp2
          go_ret
          exact ⟨by rw [HF.out]; rfl, grew_ext HG.out x⟩
        · have HQ := Lib.hid (insEqB_iff.1 hq)
          rw [hq] at C
          have HC := Lib.hid C; clear C hq
          go_wp2_with fail
          first | refine wp_region_ext2 (by kernel_rfl) (by kernel_rfl) ?_ | refine wp_region_ext (by kernel_rfl) (by kernel_rfl) ?_
          repeat (go_big_quiet_step ((first | (with_reducible exact ext_grow (HC.out _)))))
          refine wpQuiet_nil ?_
          intro _ hw'
          obtain ⟨x, hw''⟩ := hw'
          subst hw''
          go_wp2
          go_roundw
          case rel => exact ⟨k + 1, by omega, by go_num, grew_ext HG.out x, by rw [take_get HX.out, take_get HX'.out, HE.out, HQ.out]⟩
          case measure => simp [Go.RowKit.intOf]; omega
      · have HG := Lib.hid hg; clear hg
        have : is = js := by
          have h := HE.out
          rwa [List.take_of_length_le (by have := HL.out; omega), List.take_of_length_le (by have := HL'.out; omega)] at h
        have HF := Lib.hid (decide_eq_true this); clear this
        go_wp2
        go_ret
        exact ⟨by rw [HF.out]; rfl, HG.out⟩
  · have hfin : decide (is = js) = false := decide_eq_false (fun e => by
      have h1 := HL.out
      rw [e, HL'.out] at h1
      exact hnn h1.symm)
    have hb : ((n : Int) != (n' : Int)) = true := by simp; omega
    have HF := Lib.hid hfin; clear hfin hnn
    go_enter Try.func108, Try.ntmps108
    go_wp2
    go_ret
    exact ⟨by rw [HF.out]; rfl, Below.refl _ _⟩

/-- Whether two procedures are the same. -/
def prcEqB (p q : Prc) : Bool := decide (p.lo = q.lo) && decide (p.hi = q.hi) && decide (p.code = q.code)
theorem prcEqB_iff {p q : Prc} : prcEqB p q = true ↔ p = q := by
  obtain ⟨a, b, c⟩ := p
  obtain ⟨a', b', c'⟩ := q
  simp [prcEqB, and_assoc]

set_option maxHeartbeats 1000000 in
theorem eqPrcProc (lo hi lo' hi' : Int) (a a' : Option Addr) (n n' cap cap' : Nat) (is js : List Ins) (w : World) (hr : RdL EIns 8 w a n is) (hr' : RdL EIns 8 w a' n' js) (hn : n ≤ 9223372036854775807) (hn' : n' ≤ 9223372036854775807) :
    Calls Try.prog 81 #[.agg #[.int .i64 lo, .int .i64 hi, .slice a n cap], .agg #[.int .i64 lo', .int .i64 hi', .slice a' n' cap']] w fun e w' => e = .returned (.bool (prcEqB ⟨lo, hi, is⟩ ⟨lo', hi', js⟩)) ∧ Grew w w' := by
  have C := fun W (h : Grew w W) => eqInsInsS a a' n n' cap cap' is js W (hr.grew stays_ins h) (hr'.grew stays_ins h) hn hn'
  clear hr hr'
  obtain ⟨B, hB⟩ : ∃ B, decide (is = js) = B := ⟨_, rfl⟩
  rw [hB] at C
  have HC := Lib.hid C; clear C
  have HB := Lib.hid hB; clear hB
  cases B
  all_goals
    go_enter Try.func81, Try.ntmps81
    go_wp2_with ((with_reducible refine (HC.out _ (by unfold Grew; go_grown)).mono ?_); rintro e w' ⟨rfl, g'⟩; (first | obtain ⟨x, rfl⟩ := ext_cold g' | obtain ⟨x, rfl⟩ := ext_col g' | obtain ⟨x, rfl⟩ := ext_of g'); clear g')
    all_goals
      go_ret
      refine ⟨by have hb := HB.out; go_light; simp_all [prcEqB], ?_⟩
      repeat (first | with_reducible exact Below.refl _ _ | with_reducible assumption | with_reducible apply grew_ext | with_reducible apply grew_al | with_reducible apply grew_dn | with_reducible apply grew_d | (with_reducible refine grew_set ?_ (by first | omega | (repeat (first | with_reducible exact Nat.le_refl _ | with_reducible apply le_pl | with_reducible apply le_ext | with_reducible apply le_al))) _))

set_option maxHeartbeats 1000000 in
theorem eqPrcProcS (a a' : Option Addr) (n n' cap cap' : Nat) (ps qs : List Prc) (w : World) (hr : RdP w a n ps) (hr' : RdP w a' n' qs) (hn : n ≤ 9223372036854775807) (hn' : n' ≤ 9223372036854775807) :
    Calls Try.prog 54 #[.slice a n cap, .slice a' n' cap'] w fun e w' => e = .returned (.bool (decide (ps = qs))) ∧ Grew w w' := by
  have HL := Lib.hid hr.len
  have HL' := Lib.hid hr'.len
  have HR := Lib.hid hr; clear hr
  have HR' := Lib.hid hr'; clear hr'
  by_cases hnn : n = n'
  · subst hnn
    go_enter Try.func54, Try.ntmps54
    go_wp2
    go_loopw [5] (fun i wr => ∃ k : Nat, k ≤ n ∧ i = .int .i64 k ∧ Grew w wr ∧ ps.take k = qs.take k) (fun i _ => n - (Go.RowKit.intOf i).toNat)
    case atStart => exact ⟨0, Nat.zero_le _, rfl, Below.refl _ _, by simp⟩
    case round =>
      obtain ⟨k, hk, rfl, hg, he⟩ := hrel
      have HE := Lib.hid he; clear he
      by_cases hlt : k < n
      · obtain ⟨b, off, lo, hi, is, ia, ic, rfl, hx, c0, c1, c2, hb, hi1, hi2, hi3⟩ := rdP_at (HR.out.grew hg) hlt
        obtain ⟨b', off', lo', hi', is', ia', ic', rfl, hx', c0', c1', c2', hb', hi1', hi2', hi3'⟩ := rdP_at (HR'.out.grew hg) hlt
        have HX := Lib.hid hx; clear hx
        have HX' := Lib.hid hx'; clear hx'
        have HG := Lib.hid hg; clear hg
        have C := fun x => eqPrcProc lo hi lo' hi' ia ia' is.length is'.length ic ic' is is' (ext wr x) (hi1.grew stays_ins (ext_grew _ x)) (hi1'.grew stays_ins (ext_grew _ x)) (by unfold maxLen at hi3; omega) (by unfold maxLen at hi3'; omega)
        clear hi1 hi2 hi3 hi1' hi2' hi3'
        cases hq : prcEqB ⟨lo, hi, is⟩ ⟨lo', hi', is'⟩
        · have hfin : decide (ps = qs) = false := decide_eq_false (fun e => by
            have h1 := HX.out
            rw [e, HX'.out] at h1
            have := Option.some.inj h1
            rw [this] at hq
            simp [prcEqB] at hq)
          have HF := Lib.hid hfin; clear hfin
          rw [hq] at C
          have HC := Lib.hid C; clear C hq
          go_wp2_with fail
          first | refine wp_region_ext2 (by kernel_rfl) (by kernel_rfl) ?_ | refine wp_region_ext (by kernel_rfl) (by kernel_rfl) ?_
          repeat (go_big_quiet_step ((first | (with_reducible exact ext_grow (HC.out _)))))
          refine wpQuiet_nil ?_
          intro _ hw'
          obtain ⟨x, hw''⟩ := hw'
          subst hw''
          go_wp2
          go_ret
          exact ⟨by rw [HF.out]; rfl, grew_ext HG.out x⟩
        · have HQ := Lib.hid (prcEqB_iff.1 hq)
          rw [hq] at C
          have HC := Lib.hid C; clear C hq
          go_wp2_with fail
          first | refine wp_region_ext2 (by kernel_rfl) (by kernel_rfl) ?_ | refine wp_region_ext (by kernel_rfl) (by kernel_rfl) ?_
          repeat (go_big_quiet_step ((first | (with_reducible exact ext_grow (HC.out _)))))
          refine wpQuiet_nil ?_
          intro _ hw'
          obtain ⟨x, hw''⟩ := hw'
          subst hw''
          go_wp2
          go_roundw
          case rel => exact ⟨k + 1, by omega, by go_num, grew_ext HG.out x, by rw [take_get HX.out, take_get HX'.out, HE.out, HQ.out]⟩
          case measure => simp [Go.RowKit.intOf]; omega
      · have HG := Lib.hid hg; clear hg
        have : ps = qs := by
          have h := HE.out
          rwa [List.take_of_length_le (by have := HL.out; omega), List.take_of_length_le (by have := HL'.out; omega)] at h
        have HF := Lib.hid (decide_eq_true this); clear this
        go_wp2
        go_ret
        exact ⟨by rw [HF.out]; rfl, HG.out⟩
  · have hfin : decide (ps = qs) = false := decide_eq_false (fun e => by
      have h1 := HL.out
      rw [e, HL'.out] at h1
      exact hnn h1.symm)
    have hb : ((n : Int) != (n' : Int)) = true := by simp; omega
    have HF := Lib.hid hfin; clear hfin hnn
    go_enter Try.func54, Try.ntmps54
    go_wp2
    go_ret
    exact ⟨by rw [HF.out]; rfl, Below.refl _ _⟩

theorem eqPrgProg (a a' : Option Addr) (n n' cap cap' : Nat) (ps qs : List Prc) (w : World) (hr : RdP w a n ps) (hr' : RdP w a' n' qs) (hn : n ≤ 9223372036854775807) (hn' : n' ≤ 9223372036854775807) :
    Calls Try.prog 18 #[.agg #[.slice a n cap], .agg #[.slice a' n' cap']] w fun e w' => e = .returned (.bool (decide (ps = qs))) ∧ Grew w w' := by
  have C := fun W (h : Grew w W) => eqPrcProcS a a' n n' cap cap' ps qs W (hr.grew h) (hr'.grew h) hn hn'
  clear hr hr'
  generalize decide (ps = qs) = B at *
  have HC := Lib.hid C; clear C
  cases B
  all_goals
    go_enter Try.func18, Try.ntmps18
    go_wp2_with ((with_reducible refine (HC.out _ (by unfold Grew; go_grown)).mono ?_); rintro e w' ⟨rfl, g'⟩; (first | obtain ⟨x, rfl⟩ := ext_cold g' | obtain ⟨x, rfl⟩ := ext_col g' | obtain ⟨x, rfl⟩ := ext_of g'); clear g')
    go_ret
    refine ⟨rfl, ?_⟩
    repeat (first | with_reducible exact Below.refl _ _ | with_reducible assumption | with_reducible apply grew_ext | with_reducible apply grew_al | with_reducible apply grew_dn | with_reducible apply grew_d | (with_reducible refine grew_set ?_ (by first | omega | (repeat (first | with_reducible exact Nat.le_refl _ | with_reducible apply le_pl | with_reducible apply le_ext | with_reducible apply le_al))) _))
end Go.Proofs.Ytmcfengnihomcaa

/- The kinds of instructions: type assertions and the method ins. No condition. -/
namespace Go.Proofs.Ytmcfengnihomcaa
open Go.RowKit
set_option linter.unusedVariables false

theorem methArith (n : Nat) (op d a b : Int) (w : World) : (method (n + 1) 137 (.agg #[.int .i64 op, .int .i64 d, .int .i64 a, .int .i64 b]) "loop.example/outwork/impl.ins").run Try.prog w = .ok (163, .agg #[.int .i64 op, .int .i64 d, .int .i64 a, .int .i64 b]) w := by kernel_rfl
theorem asArith (v : Value) (xT : TypeId) (w : World) : (Instr.typeAssert (.iface 137 v) xT 137 true).run Try.prog w = .ok (.tuple #[v, .bool true]) w := by kernel_rfl
theorem asNotArith (t : TypeId) (v : Value) (xT : TypeId) (w : World) (h : t ≠ 137) : (Instr.typeAssert (.iface t v) xT 137 true).run Try.prog w = .ok (.tuple #[.agg #[.int .i64 0, .int .i64 0, .int .i64 0, .int .i64 0], .bool false]) w := by simp [Instr.typeAssert, go_sem, h]
theorem asNilArith (xT : TypeId) (w : World) : (Instr.typeAssert .nilIface xT 137 true).run Try.prog w = .ok (.tuple #[.agg #[.int .i64 0, .int .i64 0, .int .i64 0, .int .i64 0], .bool false]) w := by kernel_rfl
theorem methAny (n : Nat) (d lo hi : Int) (w : World) : (method (n + 1) 109 (.agg #[.int .i64 d, .int .i64 lo, .int .i64 hi]) "loop.example/outwork/impl.ins").run Try.prog w = .ok (158, .agg #[.int .i64 d, .int .i64 lo, .int .i64 hi]) w := by kernel_rfl
theorem asAny (v : Value) (xT : TypeId) (w : World) : (Instr.typeAssert (.iface 109 v) xT 109 true).run Try.prog w = .ok (.tuple #[v, .bool true]) w := by kernel_rfl
theorem asNotAny (t : TypeId) (v : Value) (xT : TypeId) (w : World) (h : t ≠ 109) : (Instr.typeAssert (.iface t v) xT 109 true).run Try.prog w = .ok (.tuple #[.agg #[.int .i64 0, .int .i64 0, .int .i64 0], .bool false]) w := by simp [Instr.typeAssert, go_sem, h]
theorem asNilAny (xT : TypeId) (w : World) : (Instr.typeAssert .nilIface xT 109 true).run Try.prog w = .ok (.tuple #[.agg #[.int .i64 0, .int .i64 0, .int .i64 0], .bool false]) w := by kernel_rfl
theorem methLoad (n : Nat) (d a : Int) (w : World) : (method (n + 1) 139 (.agg #[.int .i64 d, .int .i64 a]) "loop.example/outwork/impl.ins").run Try.prog w = .ok (164, .agg #[.int .i64 d, .int .i64 a]) w := by kernel_rfl
theorem asLoad (v : Value) (xT : TypeId) (w : World) : (Instr.typeAssert (.iface 139 v) xT 139 true).run Try.prog w = .ok (.tuple #[v, .bool true]) w := by kernel_rfl
theorem asNotLoad (t : TypeId) (v : Value) (xT : TypeId) (w : World) (h : t ≠ 139) : (Instr.typeAssert (.iface t v) xT 139 true).run Try.prog w = .ok (.tuple #[.agg #[.int .i64 0, .int .i64 0], .bool false]) w := by simp [Instr.typeAssert, go_sem, h]
theorem asNilLoad (xT : TypeId) (w : World) : (Instr.typeAssert .nilIface xT 139 true).run Try.prog w = .ok (.tuple #[.agg #[.int .i64 0, .int .i64 0], .bool false]) w := by kernel_rfl
theorem methStore (n : Nat) (a b : Int) (w : World) : (method (n + 1) 141 (.agg #[.int .i64 a, .int .i64 b]) "loop.example/outwork/impl.ins").run Try.prog w = .ok (165, .agg #[.int .i64 a, .int .i64 b]) w := by kernel_rfl
theorem asStore (v : Value) (xT : TypeId) (w : World) : (Instr.typeAssert (.iface 141 v) xT 141 true).run Try.prog w = .ok (.tuple #[v, .bool true]) w := by kernel_rfl
theorem asNotStore (t : TypeId) (v : Value) (xT : TypeId) (w : World) (h : t ≠ 141) : (Instr.typeAssert (.iface t v) xT 141 true).run Try.prog w = .ok (.tuple #[.agg #[.int .i64 0, .int .i64 0], .bool false]) w := by simp [Instr.typeAssert, go_sem, h]
theorem asNilStore (xT : TypeId) (w : World) : (Instr.typeAssert .nilIface xT 141 true).run Try.prog w = .ok (.tuple #[.agg #[.int .i64 0, .int .i64 0], .bool false]) w := by kernel_rfl
theorem methIf (n : Nat) (rel a b to : Int) (w : World) : (method (n + 1) 114 (.agg #[.int .i64 rel, .int .i64 a, .int .i64 b, .int .i64 to]) "loop.example/outwork/impl.ins").run Try.prog w = .ok (159, .agg #[.int .i64 rel, .int .i64 a, .int .i64 b, .int .i64 to]) w := by kernel_rfl
theorem asIf (v : Value) (xT : TypeId) (w : World) : (Instr.typeAssert (.iface 114 v) xT 114 true).run Try.prog w = .ok (.tuple #[v, .bool true]) w := by kernel_rfl
theorem asNotIf (t : TypeId) (v : Value) (xT : TypeId) (w : World) (h : t ≠ 114) : (Instr.typeAssert (.iface t v) xT 114 true).run Try.prog w = .ok (.tuple #[.agg #[.int .i64 0, .int .i64 0, .int .i64 0, .int .i64 0], .bool false]) w := by simp [Instr.typeAssert, go_sem, h]
theorem asNilIf (xT : TypeId) (w : World) : (Instr.typeAssert .nilIface xT 114 true).run Try.prog w = .ok (.tuple #[.agg #[.int .i64 0, .int .i64 0, .int .i64 0, .int .i64 0], .bool false]) w := by kernel_rfl
theorem methJump (n : Nat) (to : Int) (w : World) : (method (n + 1) 116 (.agg #[.int .i64 to]) "loop.example/outwork/impl.ins").run Try.prog w = .ok (160, .agg #[.int .i64 to]) w := by kernel_rfl
theorem asJump (v : Value) (xT : TypeId) (w : World) : (Instr.typeAssert (.iface 116 v) xT 116 true).run Try.prog w = .ok (.tuple #[v, .bool true]) w := by kernel_rfl
theorem asNotJump (t : TypeId) (v : Value) (xT : TypeId) (w : World) (h : t ≠ 116) : (Instr.typeAssert (.iface t v) xT 116 true).run Try.prog w = .ok (.tuple #[.agg #[.int .i64 0], .bool false]) w := by simp [Instr.typeAssert, go_sem, h]
theorem asNilJump (xT : TypeId) (w : World) : (Instr.typeAssert .nilIface xT 116 true).run Try.prog w = .ok (.tuple #[.agg #[.int .i64 0], .bool false]) w := by kernel_rfl
theorem methCall (n : Nat) (d a to : Int) (w : World) : (method (n + 1) 118 (.agg #[.int .i64 d, .int .i64 a, .int .i64 to]) "loop.example/outwork/impl.ins").run Try.prog w = .ok (161, .agg #[.int .i64 d, .int .i64 a, .int .i64 to]) w := by kernel_rfl
theorem asCall (v : Value) (xT : TypeId) (w : World) : (Instr.typeAssert (.iface 118 v) xT 118 true).run Try.prog w = .ok (.tuple #[v, .bool true]) w := by kernel_rfl
theorem asNotCall (t : TypeId) (v : Value) (xT : TypeId) (w : World) (h : t ≠ 118) : (Instr.typeAssert (.iface t v) xT 118 true).run Try.prog w = .ok (.tuple #[.agg #[.int .i64 0, .int .i64 0, .int .i64 0], .bool false]) w := by simp [Instr.typeAssert, go_sem, h]
theorem asNilCall (xT : TypeId) (w : World) : (Instr.typeAssert .nilIface xT 118 true).run Try.prog w = .ok (.tuple #[.agg #[.int .i64 0, .int .i64 0, .int .i64 0], .bool false]) w := by kernel_rfl
theorem methAssert (n : Nat) (rel a b : Int) (w : World) : (method (n + 1) 120 (.agg #[.int .i64 rel, .int .i64 a, .int .i64 b]) "loop.example/outwork/impl.ins").run Try.prog w = .ok (162, .agg #[.int .i64 rel, .int .i64 a, .int .i64 b]) w := by kernel_rfl
theorem asAssert (v : Value) (xT : TypeId) (w : World) : (Instr.typeAssert (.iface 120 v) xT 120 true).run Try.prog w = .ok (.tuple #[v, .bool true]) w := by kernel_rfl
theorem asNotAssert (t : TypeId) (v : Value) (xT : TypeId) (w : World) (h : t ≠ 120) : (Instr.typeAssert (.iface t v) xT 120 true).run Try.prog w = .ok (.tuple #[.agg #[.int .i64 0, .int .i64 0, .int .i64 0], .bool false]) w := by simp [Instr.typeAssert, go_sem, h]
theorem asNilAssert (xT : TypeId) (w : World) : (Instr.typeAssert .nilIface xT 120 true).run Try.prog w = .ok (.tuple #[.agg #[.int .i64 0, .int .i64 0, .int .i64 0], .bool false]) w := by kernel_rfl
theorem methRet (n : Nat) (a : Int) (w : World) : (method (n + 1) 143 (.agg #[.int .i64 a]) "loop.example/outwork/impl.ins").run Try.prog w = .ok (166, .agg #[.int .i64 a]) w := by kernel_rfl
theorem asRet (v : Value) (xT : TypeId) (w : World) : (Instr.typeAssert (.iface 143 v) xT 143 true).run Try.prog w = .ok (.tuple #[v, .bool true]) w := by kernel_rfl
theorem asNotRet (t : TypeId) (v : Value) (xT : TypeId) (w : World) (h : t ≠ 143) : (Instr.typeAssert (.iface t v) xT 143 true).run Try.prog w = .ok (.tuple #[.agg #[.int .i64 0], .bool false]) w := by simp [Instr.typeAssert, go_sem, h]
theorem asNilRet (xT : TypeId) (w : World) : (Instr.typeAssert .nilIface xT 143 true).run Try.prog w = .ok (.tuple #[.agg #[.int .i64 0], .bool false]) w := by kernel_rfl
end Go.Proofs.Ytmcfengnihomcaa

/- Contract of the program's InsOk. No condition. -/
namespace Go.Proofs.Ytmcfengnihomcaa
open Go.RowKit
set_option linter.unusedVariables false
attribute [local go_sem] ext_cell ext_lt ext_le ext_le1
attribute [local go_sem ↓] insNeq insEql
attribute [local go_sem] asAny asNotAny asNilAny asIf asNotIf asNilIf asJump asNotJump asNilJump asCall asNotCall asNilCall asAssert asNotAssert asNilAssert

set_option maxRecDepth 100000 in
set_option maxHeartbeats 4000000 in
theorem implInsOkF (T : TypeId) (pv : Value) (fid : FuncId) (op d a b rel lo hi to procs size : Int) (V : Ins) (w : World)
    (CO : ∀ w, Calls Try.prog 92 #[Ins.v ⟨op, d, a, b, rel, lo, hi, to⟩] w fun e w' => e = .returned (.iface T pv) ∧ Grew w w')
    (hm : ∀ (n : Nat) (w : World), (method (n + 1) T pv "loop.example/outwork/impl.ins").run Try.prog w = .ok (fid, pv) w)
    (hcf : ∀ (args : Array Value) (w : World), (callFunc fid args).run Try.prog w = .ok (.enter fid args) w)
    (CN : ∀ w, Calls Try.prog fid #[pv] w fun e w' => e = .returned (.agg #[.int .i64 V.op, .int .i64 V.d, .int .i64 V.a, .int .i64 V.b, .int .i64 V.rel, .int .i64 V.lo, .int .i64 V.hi, .int .i64 V.to]) ∧ Grew w w')
    (hq : insEqB V ⟨op, d, a, b, rel, lo, hi, to⟩ = false) :
    Calls Try.prog 66 #[Ins.v ⟨op, d, a, b, rel, lo, hi, to⟩, .int .i64 procs, .int .i64 size] w fun e w' => e = .returned (.bool false) ∧ Grew w w' := by
  have HCO := Lib.hid CO; clear CO
  have HCN := Lib.hid CN; clear CN
  go_enter Try.func66, Try.ntmps66
  go_wp2_with fail
  (with_reducible refine (HCO.out _).mono ?_)
  rintro e w1 ⟨rfl, g1⟩
  obtain ⟨x, rfl⟩ := ext_of g1
  have HX := Lib.hid g1; clear g1
  go_wp2_with fail
  refine wp_region_ext (by kernel_rfl) (by kernel_rfl) ?_
  repeat (go_big_quiet_step ((first | (with_reducible exact ext_grow (HCN.out _)))))
  refine wpQuiet_nil ?_
  intro _ hw'
  obtain ⟨y, hw''⟩ := hw'
  subst hw''
  have HY := Lib.hid (ext_grew _ y)
  go_wp2
  go_ret
  exact ⟨rfl, (by repeat (first | exact Below.refl _ _ | apply grew_ext | apply grew_al | apply grew_dn | (refine grew_set ?_ (by repeat (first | exact Nat.le_refl _ | apply le_ext | apply le_al | apply le_pl)) _)))⟩

set_option maxRecDepth 100000 in
set_option maxHeartbeats 4000000 in
theorem implInsOkD (T : TypeId) (pv : Value) (fid : FuncId) (op d a b rel lo hi to procs size : Int) (V : Ins) (w : World)
    (CO : ∀ w, Calls Try.prog 92 #[Ins.v ⟨op, d, a, b, rel, lo, hi, to⟩] w fun e w' => e = .returned (.iface T pv) ∧ Grew w w')
    (hm : ∀ (n : Nat) (w : World), (method (n + 1) T pv "loop.example/outwork/impl.ins").run Try.prog w = .ok (fid, pv) w)
    (hcf : ∀ (args : Array Value) (w : World), (callFunc fid args).run Try.prog w = .ok (.enter fid args) w)
    (CN : ∀ w, Calls Try.prog fid #[pv] w fun e w' => e = .returned (.agg #[.int .i64 V.op, .int .i64 V.d, .int .i64 V.a, .int .i64 V.b, .int .i64 V.rel, .int .i64 V.lo, .int .i64 V.hi, .int .i64 V.to]) ∧ Grew w w')
    (hq : insEqB V ⟨op, d, a, b, rel, lo, hi, to⟩ = true) (hd : varB d = false):
    Calls Try.prog 66 #[Ins.v ⟨op, d, a, b, rel, lo, hi, to⟩, .int .i64 procs, .int .i64 size] w fun e w' => e = .returned (.bool false) ∧ Grew w w' := by
  have HCO := Lib.hid CO; clear CO
  have HCN := Lib.hid CN; clear CN
  have Cd : Hid (∀ w, Calls Try.prog 93 #[.int .i64 d] w fun e w' => e = .returned (.bool false) ∧ w = w') := Lib.hid (fun w => bool_is (isVar d w) ((varB4 d).trans hd))
  clear hd
  go_enter Try.func66, Try.ntmps66
  go_wp2_with fail
  (with_reducible refine (HCO.out _).mono ?_)
  rintro e w1 ⟨rfl, g1⟩
  obtain ⟨x, rfl⟩ := ext_of g1
  have HX := Lib.hid g1; clear g1
  go_wp2_with fail
  refine wp_region_ext (by kernel_rfl) (by kernel_rfl) ?_
  repeat (go_big_quiet_step ((first | (with_reducible exact ext_same (Cd.out _)) | (with_reducible exact ext_grow (HCN.out _)))))
  refine wpQuiet_nil ?_
  intro _ hw'
  obtain ⟨y, hw''⟩ := hw'
  subst hw''
  have HY := Lib.hid (ext_grew _ y)
  go_wp2
  go_ret
  exact ⟨rfl, (by repeat (first | exact Below.refl _ _ | apply grew_ext | apply grew_al | apply grew_dn | (refine grew_set ?_ (by repeat (first | exact Nat.le_refl _ | apply le_ext | apply le_al | apply le_pl)) _)))⟩

set_option maxRecDepth 100000 in
set_option maxHeartbeats 4000000 in
theorem implInsOkA (T : TypeId) (pv : Value) (fid : FuncId) (op d a b rel lo hi to procs size : Int) (V : Ins) (w : World)
    (CO : ∀ w, Calls Try.prog 92 #[Ins.v ⟨op, d, a, b, rel, lo, hi, to⟩] w fun e w' => e = .returned (.iface T pv) ∧ Grew w w')
    (hm : ∀ (n : Nat) (w : World), (method (n + 1) T pv "loop.example/outwork/impl.ins").run Try.prog w = .ok (fid, pv) w)
    (hcf : ∀ (args : Array Value) (w : World), (callFunc fid args).run Try.prog w = .ok (.enter fid args) w)
    (CN : ∀ w, Calls Try.prog fid #[pv] w fun e w' => e = .returned (.agg #[.int .i64 V.op, .int .i64 V.d, .int .i64 V.a, .int .i64 V.b, .int .i64 V.rel, .int .i64 V.lo, .int .i64 V.hi, .int .i64 V.to]) ∧ Grew w w')
    (hq : insEqB V ⟨op, d, a, b, rel, lo, hi, to⟩ = true) (hd : varB d = true) (ha : varB a = false):
    Calls Try.prog 66 #[Ins.v ⟨op, d, a, b, rel, lo, hi, to⟩, .int .i64 procs, .int .i64 size] w fun e w' => e = .returned (.bool false) ∧ Grew w w' := by
  have HCO := Lib.hid CO; clear CO
  have HCN := Lib.hid CN; clear CN
  have Cd : Hid (∀ w, Calls Try.prog 93 #[.int .i64 d] w fun e w' => e = .returned (.bool true) ∧ w = w') := Lib.hid (fun w => bool_is (isVar d w) ((varB4 d).trans hd))
  have Ca : Hid (∀ w, Calls Try.prog 93 #[.int .i64 a] w fun e w' => e = .returned (.bool false) ∧ w = w') := Lib.hid (fun w => bool_is (isVar a w) ((varB4 a).trans ha))
  clear hd ha
  go_enter Try.func66, Try.ntmps66
  go_wp2_with fail
  (with_reducible refine (HCO.out _).mono ?_)
  rintro e w1 ⟨rfl, g1⟩
  obtain ⟨x, rfl⟩ := ext_of g1
  have HX := Lib.hid g1; clear g1
  go_wp2_with fail
  refine wp_region_ext (by kernel_rfl) (by kernel_rfl) ?_
  repeat (go_big_quiet_step ((first | (with_reducible exact ext_same (Cd.out _)) | (with_reducible exact ext_same (Ca.out _)) | (with_reducible exact ext_grow (HCN.out _)))))
  refine wpQuiet_nil ?_
  intro _ hw'
  obtain ⟨y, hw''⟩ := hw'
  subst hw''
  have HY := Lib.hid (ext_grew _ y)
  go_wp2
  go_ret
  exact ⟨rfl, (by repeat (first | exact Below.refl _ _ | apply grew_ext | apply grew_al | apply grew_dn | (refine grew_set ?_ (by repeat (first | exact Nat.le_refl _ | apply le_ext | apply le_al | apply le_pl)) _)))⟩

set_option maxRecDepth 100000 in
set_option maxHeartbeats 4000000 in
theorem implInsOkB (T : TypeId) (pv : Value) (fid : FuncId) (op d a b rel lo hi to procs size : Int) (V : Ins) (w : World)
    (CO : ∀ w, Calls Try.prog 92 #[Ins.v ⟨op, d, a, b, rel, lo, hi, to⟩] w fun e w' => e = .returned (.iface T pv) ∧ Grew w w')
    (hm : ∀ (n : Nat) (w : World), (method (n + 1) T pv "loop.example/outwork/impl.ins").run Try.prog w = .ok (fid, pv) w)
    (hcf : ∀ (args : Array Value) (w : World), (callFunc fid args).run Try.prog w = .ok (.enter fid args) w)
    (CN : ∀ w, Calls Try.prog fid #[pv] w fun e w' => e = .returned (.agg #[.int .i64 V.op, .int .i64 V.d, .int .i64 V.a, .int .i64 V.b, .int .i64 V.rel, .int .i64 V.lo, .int .i64 V.hi, .int .i64 V.to]) ∧ Grew w w')
    (hq : insEqB V ⟨op, d, a, b, rel, lo, hi, to⟩ = true) (hd : varB d = true) (ha : varB a = true) (hb : varB b = false):
    Calls Try.prog 66 #[Ins.v ⟨op, d, a, b, rel, lo, hi, to⟩, .int .i64 procs, .int .i64 size] w fun e w' => e = .returned (.bool false) ∧ Grew w w' := by
  have HCO := Lib.hid CO; clear CO
  have HCN := Lib.hid CN; clear CN
  have Cd : Hid (∀ w, Calls Try.prog 93 #[.int .i64 d] w fun e w' => e = .returned (.bool true) ∧ w = w') := Lib.hid (fun w => bool_is (isVar d w) ((varB4 d).trans hd))
  have Ca : Hid (∀ w, Calls Try.prog 93 #[.int .i64 a] w fun e w' => e = .returned (.bool true) ∧ w = w') := Lib.hid (fun w => bool_is (isVar a w) ((varB4 a).trans ha))
  have Cb : Hid (∀ w, Calls Try.prog 93 #[.int .i64 b] w fun e w' => e = .returned (.bool false) ∧ w = w') := Lib.hid (fun w => bool_is (isVar b w) ((varB4 b).trans hb))
  clear hd ha hb
  go_enter Try.func66, Try.ntmps66
  go_wp2_with fail
  (with_reducible refine (HCO.out _).mono ?_)
  rintro e w1 ⟨rfl, g1⟩
  obtain ⟨x, rfl⟩ := ext_of g1
  have HX := Lib.hid g1; clear g1
  go_wp2_with fail
  refine wp_region_ext (by kernel_rfl) (by kernel_rfl) ?_
  repeat (go_big_quiet_step ((first | (with_reducible exact ext_same (Cd.out _)) | (with_reducible exact ext_same (Ca.out _)) | (with_reducible exact ext_same (Cb.out _)) | (with_reducible exact ext_grow (HCN.out _)))))
  refine wpQuiet_nil ?_
  intro _ hw'
  obtain ⟨y, hw''⟩ := hw'
  subst hw''
  have HY := Lib.hid (ext_grew _ y)
  go_wp2
  go_ret
  exact ⟨rfl, (by repeat (first | exact Below.refl _ _ | apply grew_ext | apply grew_al | apply grew_dn | (refine grew_set ?_ (by repeat (first | exact Nat.le_refl _ | apply le_ext | apply le_al | apply le_pl)) _)))⟩

set_option maxRecDepth 100000 in
set_option maxHeartbeats 4000000 in
theorem implInsOkN (op d a b rel lo hi to procs size : Int) (w : World) (hn : codeV ⟨op, d, a, b, rel, lo, hi, to⟩ = .nilIface) :
    Calls Try.prog 66 #[Ins.v ⟨op, d, a, b, rel, lo, hi, to⟩, .int .i64 procs, .int .i64 size] w fun e w' => e = .returned (.bool false) ∧ Grew w w' := by
  have CO : Hid (∀ w, Calls Try.prog 92 #[Ins.v ⟨op, d, a, b, rel, lo, hi, to⟩] w fun e w' => e = .returned .nilIface ∧ Grew w w') := Lib.hid (fun w => by have := codeOf ⟨op, d, a, b, rel, lo, hi, to⟩ w; rw [hn] at this; exact this)
  clear hn
  go_enter Try.func66, Try.ntmps66
  go_wp2_with fail
  (with_reducible refine (CO.out _).mono ?_)
  rintro e w1 ⟨rfl, g1⟩
  obtain ⟨x, rfl⟩ := ext_of g1
  have HX := Lib.hid g1; clear g1
  go_wp2_with fail
  refine wp_region_ext (by kernel_rfl) (by kernel_rfl) ?_
  repeat (go_big_quiet_step ((first | fail)))
  refine wpQuiet_nil ?_
  intro _ hw'
  obtain ⟨y, hw''⟩ := hw'
  subst hw''
  have HY := Lib.hid (ext_grew _ y)
  go_wp2
  go_ret
  exact ⟨rfl, (by repeat (first | exact Below.refl _ _ | apply grew_ext | apply grew_al | apply grew_dn | (refine grew_set ?_ (by repeat (first | exact Nat.le_refl _ | apply le_ext | apply le_al | apply le_pl)) _)))⟩

set_option maxRecDepth 100000 in
set_option maxHeartbeats 4000000 in
theorem implInsOkTArith (op d a b rel lo hi to procs size : Int) (w : World) (ho : op = 1 ∨ op = 2 ∨ op = 3 ∨ op = 4)
    (hq : insEqB ⟨op, d, a, b, 0, 0, 0, 0⟩ ⟨op, d, a, b, rel, lo, hi, to⟩ = true) (hd : varB d = true) (ha : varB a = true) (hb : varB b = true) :
    Calls Try.prog 66 #[Ins.v ⟨op, d, a, b, rel, lo, hi, to⟩, .int .i64 procs, .int .i64 size] w fun e w' => e = .returned (.bool (tailB ⟨op, d, a, b, rel, lo, hi, to⟩ procs size)) ∧ Grew w w' := by
  have HCO : Hid (∀ w, Calls Try.prog 92 #[Ins.v ⟨op, d, a, b, rel, lo, hi, to⟩] w fun e w' => e = .returned (.iface 137 (.agg #[.int .i64 op, .int .i64 d, .int .i64 a, .int .i64 b])) ∧ Grew w w') := Lib.hid (fun w => by
    have := codeOf ⟨op, d, a, b, rel, lo, hi, to⟩ w
    rw [show codeV ⟨op, d, a, b, rel, lo, hi, to⟩ = .iface 137 (.agg #[.int .i64 op, .int .i64 d, .int .i64 a, .int .i64 b]) from by simp [codeV, ho]] at this
    exact this)
  have HCN : Hid (∀ w, Calls Try.prog 163 #[.agg #[.int .i64 op, .int .i64 d, .int .i64 a, .int .i64 b]] w fun e w' => e = .returned (.agg #[.int .i64 op, .int .i64 d, .int .i64 a, .int .i64 b, .int .i64 0, .int .i64 0, .int .i64 0, .int .i64 0]) ∧ Grew w w') := Lib.hid (fun w => insArith op d a b w)
  have hm := fun n w => methArith n op d a b w
  have Cd : Hid (∀ w, Calls Try.prog 93 #[.int .i64 d] w fun e w' => e = .returned (.bool true) ∧ w = w') := Lib.hid (fun w => bool_is (isVar d w) ((varB4 d).trans hd))
  have Ca : Hid (∀ w, Calls Try.prog 93 #[.int .i64 a] w fun e w' => e = .returned (.bool true) ∧ w = w') := Lib.hid (fun w => bool_is (isVar a w) ((varB4 a).trans ha))
  have Cb : Hid (∀ w, Calls Try.prog 93 #[.int .i64 b] w fun e w' => e = .returned (.bool true) ∧ w = w') := Lib.hid (fun w => bool_is (isVar b w) ((varB4 b).trans hb))
  clear hd ha hb
  have HT : Hid (tailB ⟨op, d, a, b, rel, lo, hi, to⟩ procs size = true) := Lib.hid (by have h1 : op ≠ 5 ∧ op ≠ 8 ∧ op ≠ 9 ∧ op ≠ 10 ∧ op ≠ 11 := (by omega); simp [tailB, h1])
  clear ho
  go_enter Try.func66, Try.ntmps66
  go_wp2_with fail
  (with_reducible refine (HCO.out _).mono ?_)
  rintro e w1 ⟨rfl, g1⟩
  obtain ⟨x, rfl⟩ := ext_of g1
  have HX := Lib.hid g1; clear g1 hm
  have hm := fun n w => methArith n op d a b w
  go_wp2_with fail
  refine wp_region_ext (by kernel_rfl) (by kernel_rfl) ?_
  repeat (go_big_quiet_step ((first | (with_reducible exact ext_same (Cd.out _)) | (with_reducible exact ext_same (Ca.out _)) | (with_reducible exact ext_same (Cb.out _)) | (with_reducible exact ext_grow (HCN.out _)))))
  refine wpQuiet_nil ?_
  intro _ hw'
  obtain ⟨y, hw''⟩ := hw'
  subst hw''
  have HY := Lib.hid (ext_grew _ y)
  go_wp2_with (first | fail | fail)
  all_goals
    go_ret
    exact ⟨by rw [HT.out]; rfl, (by repeat (first | exact Below.refl _ _ | apply grew_ext | apply grew_al | apply grew_dn | (refine grew_set ?_ (by repeat (first | exact Nat.le_refl _ | apply le_ext | apply le_al | apply le_pl)) _)))⟩

set_option maxRecDepth 100000 in
set_option maxHeartbeats 4000000 in
theorem implInsOkTAny (d a b rel lo hi to procs size : Int) (w : World) 
    (hq : insEqB ⟨(5 : Int), d, 0, 0, 0, lo, hi, 0⟩ ⟨(5 : Int), d, a, b, rel, lo, hi, to⟩ = true) (hd : varB d = true) (ha : varB a = true) (hb : varB b = true) :
    Calls Try.prog 66 #[Ins.v ⟨(5 : Int), d, a, b, rel, lo, hi, to⟩, .int .i64 procs, .int .i64 size] w fun e w' => e = .returned (.bool (tailB ⟨(5 : Int), d, a, b, rel, lo, hi, to⟩ procs size)) ∧ Grew w w' := by
  have HCO : Hid (∀ w, Calls Try.prog 92 #[Ins.v ⟨(5 : Int), d, a, b, rel, lo, hi, to⟩] w fun e w' => e = .returned (.iface 109 (.agg #[.int .i64 d, .int .i64 lo, .int .i64 hi])) ∧ Grew w w') := Lib.hid (fun w => by
    have := codeOf ⟨(5 : Int), d, a, b, rel, lo, hi, to⟩ w
    rw [show codeV ⟨(5 : Int), d, a, b, rel, lo, hi, to⟩ = .iface 109 (.agg #[.int .i64 d, .int .i64 lo, .int .i64 hi]) from rfl] at this
    exact this)
  have HCN : Hid (∀ w, Calls Try.prog 158 #[.agg #[.int .i64 d, .int .i64 lo, .int .i64 hi]] w fun e w' => e = .returned (.agg #[.int .i64 (5 : Int), .int .i64 d, .int .i64 0, .int .i64 0, .int .i64 0, .int .i64 lo, .int .i64 hi, .int .i64 0]) ∧ Grew w w') := Lib.hid (fun w => insAny d lo hi w)
  have hm := fun n w => methAny n d lo hi w
  have Cd : Hid (∀ w, Calls Try.prog 93 #[.int .i64 d] w fun e w' => e = .returned (.bool true) ∧ w = w') := Lib.hid (fun w => bool_is (isVar d w) ((varB4 d).trans hd))
  have Ca : Hid (∀ w, Calls Try.prog 93 #[.int .i64 a] w fun e w' => e = .returned (.bool true) ∧ w = w') := Lib.hid (fun w => bool_is (isVar a w) ((varB4 a).trans ha))
  have Cb : Hid (∀ w, Calls Try.prog 93 #[.int .i64 b] w fun e w' => e = .returned (.bool true) ∧ w = w') := Lib.hid (fun w => bool_is (isVar b w) ((varB4 b).trans hb))
  clear hd ha hb
  go_enter Try.func66, Try.ntmps66
  go_wp2_with fail
  (with_reducible refine (HCO.out _).mono ?_)
  rintro e w1 ⟨rfl, g1⟩
  obtain ⟨x, rfl⟩ := ext_of g1
  have HX := Lib.hid g1; clear g1 hm
  have hm := fun n w => methAny n d lo hi w
  go_wp2_with fail
  refine wp_region_ext (by kernel_rfl) (by kernel_rfl) ?_
  repeat (go_big_quiet_step ((first | (with_reducible exact ext_same (Cd.out _)) | (with_reducible exact ext_same (Ca.out _)) | (with_reducible exact ext_same (Cb.out _)) | (with_reducible exact ext_grow (HCN.out _)))))
  refine wpQuiet_nil ?_
  intro _ hw'
  obtain ⟨y, hw''⟩ := hw'
  subst hw''
  have HY := Lib.hid (ext_grew _ y)
  go_wp2_with (first | fail | ((with_reducible refine (itvOk lo hi _).mono ?_); rintro e w2 ⟨rfl, g2⟩; obtain ⟨z, rfl⟩ := ext_of g2; clear g2))
  all_goals
    go_ret
    exact ⟨by simp [tailB], (by repeat (first | exact Below.refl _ _ | apply grew_ext | apply grew_al | apply grew_dn | (refine grew_set ?_ (by repeat (first | exact Nat.le_refl _ | apply le_ext | apply le_al | apply le_pl)) _)))⟩

set_option maxRecDepth 100000 in
set_option maxHeartbeats 4000000 in
theorem implInsOkTLoad (d a b rel lo hi to procs size : Int) (w : World) 
    (hq : insEqB ⟨(6 : Int), d, a, 0, 0, 0, 0, 0⟩ ⟨(6 : Int), d, a, b, rel, lo, hi, to⟩ = true) (hd : varB d = true) (ha : varB a = true) (hb : varB b = true) :
    Calls Try.prog 66 #[Ins.v ⟨(6 : Int), d, a, b, rel, lo, hi, to⟩, .int .i64 procs, .int .i64 size] w fun e w' => e = .returned (.bool (tailB ⟨(6 : Int), d, a, b, rel, lo, hi, to⟩ procs size)) ∧ Grew w w' := by
  have HCO : Hid (∀ w, Calls Try.prog 92 #[Ins.v ⟨(6 : Int), d, a, b, rel, lo, hi, to⟩] w fun e w' => e = .returned (.iface 139 (.agg #[.int .i64 d, .int .i64 a])) ∧ Grew w w') := Lib.hid (fun w => by
    have := codeOf ⟨(6 : Int), d, a, b, rel, lo, hi, to⟩ w
    rw [show codeV ⟨(6 : Int), d, a, b, rel, lo, hi, to⟩ = .iface 139 (.agg #[.int .i64 d, .int .i64 a]) from rfl] at this
    exact this)
  have HCN : Hid (∀ w, Calls Try.prog 164 #[.agg #[.int .i64 d, .int .i64 a]] w fun e w' => e = .returned (.agg #[.int .i64 (6 : Int), .int .i64 d, .int .i64 a, .int .i64 0, .int .i64 0, .int .i64 0, .int .i64 0, .int .i64 0]) ∧ Grew w w') := Lib.hid (fun w => insLoad d a w)
  have hm := fun n w => methLoad n d a w
  have Cd : Hid (∀ w, Calls Try.prog 93 #[.int .i64 d] w fun e w' => e = .returned (.bool true) ∧ w = w') := Lib.hid (fun w => bool_is (isVar d w) ((varB4 d).trans hd))
  have Ca : Hid (∀ w, Calls Try.prog 93 #[.int .i64 a] w fun e w' => e = .returned (.bool true) ∧ w = w') := Lib.hid (fun w => bool_is (isVar a w) ((varB4 a).trans ha))
  have Cb : Hid (∀ w, Calls Try.prog 93 #[.int .i64 b] w fun e w' => e = .returned (.bool true) ∧ w = w') := Lib.hid (fun w => bool_is (isVar b w) ((varB4 b).trans hb))
  clear hd ha hb
  go_enter Try.func66, Try.ntmps66
  go_wp2_with fail
  (with_reducible refine (HCO.out _).mono ?_)
  rintro e w1 ⟨rfl, g1⟩
  obtain ⟨x, rfl⟩ := ext_of g1
  have HX := Lib.hid g1; clear g1 hm
  have hm := fun n w => methLoad n d a w
  go_wp2_with fail
  refine wp_region_ext (by kernel_rfl) (by kernel_rfl) ?_
  repeat (go_big_quiet_step ((first | (with_reducible exact ext_same (Cd.out _)) | (with_reducible exact ext_same (Ca.out _)) | (with_reducible exact ext_same (Cb.out _)) | (with_reducible exact ext_grow (HCN.out _)))))
  refine wpQuiet_nil ?_
  intro _ hw'
  obtain ⟨y, hw''⟩ := hw'
  subst hw''
  have HY := Lib.hid (ext_grew _ y)
  go_wp2_with (first | fail | fail)
  all_goals
    go_ret
    exact ⟨rfl, (by repeat (first | exact Below.refl _ _ | apply grew_ext | apply grew_al | apply grew_dn | (refine grew_set ?_ (by repeat (first | exact Nat.le_refl _ | apply le_ext | apply le_al | apply le_pl)) _)))⟩

set_option maxRecDepth 100000 in
set_option maxHeartbeats 4000000 in
theorem implInsOkTStore (d a b rel lo hi to procs size : Int) (w : World) 
    (hq : insEqB ⟨(7 : Int), 0, a, b, 0, 0, 0, 0⟩ ⟨(7 : Int), d, a, b, rel, lo, hi, to⟩ = true) (hd : varB d = true) (ha : varB a = true) (hb : varB b = true) :
    Calls Try.prog 66 #[Ins.v ⟨(7 : Int), d, a, b, rel, lo, hi, to⟩, .int .i64 procs, .int .i64 size] w fun e w' => e = .returned (.bool (tailB ⟨(7 : Int), d, a, b, rel, lo, hi, to⟩ procs size)) ∧ Grew w w' := by
  have HCO : Hid (∀ w, Calls Try.prog 92 #[Ins.v ⟨(7 : Int), d, a, b, rel, lo, hi, to⟩] w fun e w' => e = .returned (.iface 141 (.agg #[.int .i64 a, .int .i64 b])) ∧ Grew w w') := Lib.hid (fun w => by
    have := codeOf ⟨(7 : Int), d, a, b, rel, lo, hi, to⟩ w
    rw [show codeV ⟨(7 : Int), d, a, b, rel, lo, hi, to⟩ = .iface 141 (.agg #[.int .i64 a, .int .i64 b]) from rfl] at this
    exact this)
  have HCN : Hid (∀ w, Calls Try.prog 165 #[.agg #[.int .i64 a, .int .i64 b]] w fun e w' => e = .returned (.agg #[.int .i64 (7 : Int), .int .i64 0, .int .i64 a, .int .i64 b, .int .i64 0, .int .i64 0, .int .i64 0, .int .i64 0]) ∧ Grew w w') := Lib.hid (fun w => insStore a b w)
  have hm := fun n w => methStore n a b w
  have Cd : Hid (∀ w, Calls Try.prog 93 #[.int .i64 d] w fun e w' => e = .returned (.bool true) ∧ w = w') := Lib.hid (fun w => bool_is (isVar d w) ((varB4 d).trans hd))
  have Ca : Hid (∀ w, Calls Try.prog 93 #[.int .i64 a] w fun e w' => e = .returned (.bool true) ∧ w = w') := Lib.hid (fun w => bool_is (isVar a w) ((varB4 a).trans ha))
  have Cb : Hid (∀ w, Calls Try.prog 93 #[.int .i64 b] w fun e w' => e = .returned (.bool true) ∧ w = w') := Lib.hid (fun w => bool_is (isVar b w) ((varB4 b).trans hb))
  clear hd ha hb
  go_enter Try.func66, Try.ntmps66
  go_wp2_with fail
  (with_reducible refine (HCO.out _).mono ?_)
  rintro e w1 ⟨rfl, g1⟩
  obtain ⟨x, rfl⟩ := ext_of g1
  have HX := Lib.hid g1; clear g1 hm
  have hm := fun n w => methStore n a b w
  go_wp2_with fail
  refine wp_region_ext (by kernel_rfl) (by kernel_rfl) ?_
  repeat (go_big_quiet_step ((first | (with_reducible exact ext_same (Cd.out _)) | (with_reducible exact ext_same (Ca.out _)) | (with_reducible exact ext_same (Cb.out _)) | (with_reducible exact ext_grow (HCN.out _)))))
  refine wpQuiet_nil ?_
  intro _ hw'
  obtain ⟨y, hw''⟩ := hw'
  subst hw''
  have HY := Lib.hid (ext_grew _ y)
  go_wp2_with (first | fail | fail)
  all_goals
    go_ret
    exact ⟨rfl, (by repeat (first | exact Below.refl _ _ | apply grew_ext | apply grew_al | apply grew_dn | (refine grew_set ?_ (by repeat (first | exact Nat.le_refl _ | apply le_ext | apply le_al | apply le_pl)) _)))⟩

set_option maxRecDepth 100000 in
set_option maxHeartbeats 4000000 in
theorem implInsOkTIf (d a b rel lo hi to procs size : Int) (w : World) 
    (hq : insEqB ⟨(8 : Int), 0, a, b, rel, 0, 0, to⟩ ⟨(8 : Int), d, a, b, rel, lo, hi, to⟩ = true) (hd : varB d = true) (ha : varB a = true) (hb : varB b = true) :
    Calls Try.prog 66 #[Ins.v ⟨(8 : Int), d, a, b, rel, lo, hi, to⟩, .int .i64 procs, .int .i64 size] w fun e w' => e = .returned (.bool (tailB ⟨(8 : Int), d, a, b, rel, lo, hi, to⟩ procs size)) ∧ Grew w w' := by
  have HCO : Hid (∀ w, Calls Try.prog 92 #[Ins.v ⟨(8 : Int), d, a, b, rel, lo, hi, to⟩] w fun e w' => e = .returned (.iface 114 (.agg #[.int .i64 rel, .int .i64 a, .int .i64 b, .int .i64 to])) ∧ Grew w w') := Lib.hid (fun w => by
    have := codeOf ⟨(8 : Int), d, a, b, rel, lo, hi, to⟩ w
    rw [show codeV ⟨(8 : Int), d, a, b, rel, lo, hi, to⟩ = .iface 114 (.agg #[.int .i64 rel, .int .i64 a, .int .i64 b, .int .i64 to]) from rfl] at this
    exact this)
  have HCN : Hid (∀ w, Calls Try.prog 159 #[.agg #[.int .i64 rel, .int .i64 a, .int .i64 b, .int .i64 to]] w fun e w' => e = .returned (.agg #[.int .i64 (8 : Int), .int .i64 0, .int .i64 a, .int .i64 b, .int .i64 rel, .int .i64 0, .int .i64 0, .int .i64 to]) ∧ Grew w w') := Lib.hid (fun w => insIf rel a b to w)
  have hm := fun n w => methIf n rel a b to w
  have Cd : Hid (∀ w, Calls Try.prog 93 #[.int .i64 d] w fun e w' => e = .returned (.bool true) ∧ w = w') := Lib.hid (fun w => bool_is (isVar d w) ((varB4 d).trans hd))
  have Ca : Hid (∀ w, Calls Try.prog 93 #[.int .i64 a] w fun e w' => e = .returned (.bool true) ∧ w = w') := Lib.hid (fun w => bool_is (isVar a w) ((varB4 a).trans ha))
  have Cb : Hid (∀ w, Calls Try.prog 93 #[.int .i64 b] w fun e w' => e = .returned (.bool true) ∧ w = w') := Lib.hid (fun w => bool_is (isVar b w) ((varB4 b).trans hb))
  clear hd ha hb
  go_enter Try.func66, Try.ntmps66
  go_wp2_with fail
  (with_reducible refine (HCO.out _).mono ?_)
  rintro e w1 ⟨rfl, g1⟩
  obtain ⟨x, rfl⟩ := ext_of g1
  have HX := Lib.hid g1; clear g1 hm
  have hm := fun n w => methIf n rel a b to w
  go_wp2_with fail
  refine wp_region_ext (by kernel_rfl) (by kernel_rfl) ?_
  repeat (go_big_quiet_step ((first | (with_reducible exact ext_same (Cd.out _)) | (with_reducible exact ext_same (Ca.out _)) | (with_reducible exact ext_same (Cb.out _)) | (with_reducible exact ext_grow (HCN.out _)))))
  refine wpQuiet_nil ?_
  intro _ hw'
  obtain ⟨y, hw''⟩ := hw'
  subst hw''
  have HY := Lib.hid (ext_grew _ y)
  go_wp2_with (first | fail | ((with_reducible refine (isRel rel _).mono ?_); rintro e w2 ⟨rfl, rfl⟩) | ((with_reducible refine (below to size _).mono ?_); rintro e w2 ⟨rfl, rfl⟩))
  all_goals
    go_ret
    exact ⟨by simp [tailB, *], (by repeat (first | exact Below.refl _ _ | apply grew_ext | apply grew_al | apply grew_dn | (refine grew_set ?_ (by repeat (first | exact Nat.le_refl _ | apply le_ext | apply le_al | apply le_pl)) _)))⟩

set_option maxRecDepth 100000 in
set_option maxHeartbeats 4000000 in
theorem implInsOkTJump (d a b rel lo hi to procs size : Int) (w : World) 
    (hq : insEqB ⟨(9 : Int), 0, 0, 0, 0, 0, 0, to⟩ ⟨(9 : Int), d, a, b, rel, lo, hi, to⟩ = true) (hd : varB d = true) (ha : varB a = true) (hb : varB b = true) :
    Calls Try.prog 66 #[Ins.v ⟨(9 : Int), d, a, b, rel, lo, hi, to⟩, .int .i64 procs, .int .i64 size] w fun e w' => e = .returned (.bool (tailB ⟨(9 : Int), d, a, b, rel, lo, hi, to⟩ procs size)) ∧ Grew w w' := by
  have HCO : Hid (∀ w, Calls Try.prog 92 #[Ins.v ⟨(9 : Int), d, a, b, rel, lo, hi, to⟩] w fun e w' => e = .returned (.iface 116 (.agg #[.int .i64 to])) ∧ Grew w w') := Lib.hid (fun w => by
    have := codeOf ⟨(9 : Int), d, a, b, rel, lo, hi, to⟩ w
    rw [show codeV ⟨(9 : Int), d, a, b, rel, lo, hi, to⟩ = .iface 116 (.agg #[.int .i64 to]) from rfl] at this
    exact this)
  have HCN : Hid (∀ w, Calls Try.prog 160 #[.agg #[.int .i64 to]] w fun e w' => e = .returned (.agg #[.int .i64 (9 : Int), .int .i64 0, .int .i64 0, .int .i64 0, .int .i64 0, .int .i64 0, .int .i64 0, .int .i64 to]) ∧ Grew w w') := Lib.hid (fun w => insJump to w)
  have hm := fun n w => methJump n to w
  have Cd : Hid (∀ w, Calls Try.prog 93 #[.int .i64 d] w fun e w' => e = .returned (.bool true) ∧ w = w') := Lib.hid (fun w => bool_is (isVar d w) ((varB4 d).trans hd))
  have Ca : Hid (∀ w, Calls Try.prog 93 #[.int .i64 a] w fun e w' => e = .returned (.bool true) ∧ w = w') := Lib.hid (fun w => bool_is (isVar a w) ((varB4 a).trans ha))
  have Cb : Hid (∀ w, Calls Try.prog 93 #[.int .i64 b] w fun e w' => e = .returned (.bool true) ∧ w = w') := Lib.hid (fun w => bool_is (isVar b w) ((varB4 b).trans hb))
  clear hd ha hb
  go_enter Try.func66, Try.ntmps66
  go_wp2_with fail
  (with_reducible refine (HCO.out _).mono ?_)
  rintro e w1 ⟨rfl, g1⟩
  obtain ⟨x, rfl⟩ := ext_of g1
  have HX := Lib.hid g1; clear g1 hm
  have hm := fun n w => methJump n to w
  go_wp2_with fail
  refine wp_region_ext (by kernel_rfl) (by kernel_rfl) ?_
  repeat (go_big_quiet_step ((first | (with_reducible exact ext_same (Cd.out _)) | (with_reducible exact ext_same (Ca.out _)) | (with_reducible exact ext_same (Cb.out _)) | (with_reducible exact ext_grow (HCN.out _)))))
  refine wpQuiet_nil ?_
  intro _ hw'
  obtain ⟨y, hw''⟩ := hw'
  subst hw''
  have HY := Lib.hid (ext_grew _ y)
  go_wp2_with (first | fail | ((with_reducible refine (below to size _).mono ?_); rintro e w2 ⟨rfl, rfl⟩))
  all_goals
    go_ret
    exact ⟨by simp [tailB, *], (by repeat (first | exact Below.refl _ _ | apply grew_ext | apply grew_al | apply grew_dn | (refine grew_set ?_ (by repeat (first | exact Nat.le_refl _ | apply le_ext | apply le_al | apply le_pl)) _)))⟩

set_option maxRecDepth 100000 in
set_option maxHeartbeats 4000000 in
theorem implInsOkTCall (d a b rel lo hi to procs size : Int) (w : World) 
    (hq : insEqB ⟨(10 : Int), d, a, 0, 0, 0, 0, to⟩ ⟨(10 : Int), d, a, b, rel, lo, hi, to⟩ = true) (hd : varB d = true) (ha : varB a = true) (hb : varB b = true) :
    Calls Try.prog 66 #[Ins.v ⟨(10 : Int), d, a, b, rel, lo, hi, to⟩, .int .i64 procs, .int .i64 size] w fun e w' => e = .returned (.bool (tailB ⟨(10 : Int), d, a, b, rel, lo, hi, to⟩ procs size)) ∧ Grew w w' := by
  have HCO : Hid (∀ w, Calls Try.prog 92 #[Ins.v ⟨(10 : Int), d, a, b, rel, lo, hi, to⟩] w fun e w' => e = .returned (.iface 118 (.agg #[.int .i64 d, .int .i64 a, .int .i64 to])) ∧ Grew w w') := Lib.hid (fun w => by
    have := codeOf ⟨(10 : Int), d, a, b, rel, lo, hi, to⟩ w
    rw [show codeV ⟨(10 : Int), d, a, b, rel, lo, hi, to⟩ = .iface 118 (.agg #[.int .i64 d, .int .i64 a, .int .i64 to]) from rfl] at this
    exact this)
  have HCN : Hid (∀ w, Calls Try.prog 161 #[.agg #[.int .i64 d, .int .i64 a, .int .i64 to]] w fun e w' => e = .returned (.agg #[.int .i64 (10 : Int), .int .i64 d, .int .i64 a, .int .i64 0, .int .i64 0, .int .i64 0, .int .i64 0, .int .i64 to]) ∧ Grew w w') := Lib.hid (fun w => insCall d a to w)
  have hm := fun n w => methCall n d a to w
  have Cd : Hid (∀ w, Calls Try.prog 93 #[.int .i64 d] w fun e w' => e = .returned (.bool true) ∧ w = w') := Lib.hid (fun w => bool_is (isVar d w) ((varB4 d).trans hd))
  have Ca : Hid (∀ w, Calls Try.prog 93 #[.int .i64 a] w fun e w' => e = .returned (.bool true) ∧ w = w') := Lib.hid (fun w => bool_is (isVar a w) ((varB4 a).trans ha))
  have Cb : Hid (∀ w, Calls Try.prog 93 #[.int .i64 b] w fun e w' => e = .returned (.bool true) ∧ w = w') := Lib.hid (fun w => bool_is (isVar b w) ((varB4 b).trans hb))
  clear hd ha hb
  go_enter Try.func66, Try.ntmps66
  go_wp2_with fail
  (with_reducible refine (HCO.out _).mono ?_)
  rintro e w1 ⟨rfl, g1⟩
  obtain ⟨x, rfl⟩ := ext_of g1
  have HX := Lib.hid g1; clear g1 hm
  have hm := fun n w => methCall n d a to w
  go_wp2_with fail
  refine wp_region_ext (by kernel_rfl) (by kernel_rfl) ?_
  repeat (go_big_quiet_step ((first | (with_reducible exact ext_same (Cd.out _)) | (with_reducible exact ext_same (Ca.out _)) | (with_reducible exact ext_same (Cb.out _)) | (with_reducible exact ext_grow (HCN.out _)))))
  refine wpQuiet_nil ?_
  intro _ hw'
  obtain ⟨y, hw''⟩ := hw'
  subst hw''
  have HY := Lib.hid (ext_grew _ y)
  go_wp2_with (first | fail | ((with_reducible refine (below to procs _).mono ?_); rintro e w2 ⟨rfl, rfl⟩))
  all_goals
    go_ret
    exact ⟨by simp [tailB, *], (by repeat (first | exact Below.refl _ _ | apply grew_ext | apply grew_al | apply grew_dn | (refine grew_set ?_ (by repeat (first | exact Nat.le_refl _ | apply le_ext | apply le_al | apply le_pl)) _)))⟩

set_option maxRecDepth 100000 in
set_option maxHeartbeats 4000000 in
theorem implInsOkTAssert (d a b rel lo hi to procs size : Int) (w : World) 
    (hq : insEqB ⟨(11 : Int), 0, a, b, rel, 0, 0, 0⟩ ⟨(11 : Int), d, a, b, rel, lo, hi, to⟩ = true) (hd : varB d = true) (ha : varB a = true) (hb : varB b = true) :
    Calls Try.prog 66 #[Ins.v ⟨(11 : Int), d, a, b, rel, lo, hi, to⟩, .int .i64 procs, .int .i64 size] w fun e w' => e = .returned (.bool (tailB ⟨(11 : Int), d, a, b, rel, lo, hi, to⟩ procs size)) ∧ Grew w w' := by
  have HCO : Hid (∀ w, Calls Try.prog 92 #[Ins.v ⟨(11 : Int), d, a, b, rel, lo, hi, to⟩] w fun e w' => e = .returned (.iface 120 (.agg #[.int .i64 rel, .int .i64 a, .int .i64 b])) ∧ Grew w w') := Lib.hid (fun w => by
    have := codeOf ⟨(11 : Int), d, a, b, rel, lo, hi, to⟩ w
    rw [show codeV ⟨(11 : Int), d, a, b, rel, lo, hi, to⟩ = .iface 120 (.agg #[.int .i64 rel, .int .i64 a, .int .i64 b]) from rfl] at this
    exact this)
  have HCN : Hid (∀ w, Calls Try.prog 162 #[.agg #[.int .i64 rel, .int .i64 a, .int .i64 b]] w fun e w' => e = .returned (.agg #[.int .i64 (11 : Int), .int .i64 0, .int .i64 a, .int .i64 b, .int .i64 rel, .int .i64 0, .int .i64 0, .int .i64 0]) ∧ Grew w w') := Lib.hid (fun w => insAssert rel a b w)
  have hm := fun n w => methAssert n rel a b w
  have Cd : Hid (∀ w, Calls Try.prog 93 #[.int .i64 d] w fun e w' => e = .returned (.bool true) ∧ w = w') := Lib.hid (fun w => bool_is (isVar d w) ((varB4 d).trans hd))
  have Ca : Hid (∀ w, Calls Try.prog 93 #[.int .i64 a] w fun e w' => e = .returned (.bool true) ∧ w = w') := Lib.hid (fun w => bool_is (isVar a w) ((varB4 a).trans ha))
  have Cb : Hid (∀ w, Calls Try.prog 93 #[.int .i64 b] w fun e w' => e = .returned (.bool true) ∧ w = w') := Lib.hid (fun w => bool_is (isVar b w) ((varB4 b).trans hb))
  clear hd ha hb
  go_enter Try.func66, Try.ntmps66
  go_wp2_with fail
  (with_reducible refine (HCO.out _).mono ?_)
  rintro e w1 ⟨rfl, g1⟩
  obtain ⟨x, rfl⟩ := ext_of g1
  have HX := Lib.hid g1; clear g1 hm
  have hm := fun n w => methAssert n rel a b w
  go_wp2_with fail
  refine wp_region_ext (by kernel_rfl) (by kernel_rfl) ?_
  repeat (go_big_quiet_step ((first | (with_reducible exact ext_same (Cd.out _)) | (with_reducible exact ext_same (Ca.out _)) | (with_reducible exact ext_same (Cb.out _)) | (with_reducible exact ext_grow (HCN.out _)))))
  refine wpQuiet_nil ?_
  intro _ hw'
  obtain ⟨y, hw''⟩ := hw'
  subst hw''
  have HY := Lib.hid (ext_grew _ y)
  go_wp2_with (first | fail | ((with_reducible refine (isRel rel _).mono ?_); rintro e w2 ⟨rfl, rfl⟩))
  all_goals
    go_ret
    exact ⟨by simp [tailB, *], (by repeat (first | exact Below.refl _ _ | apply grew_ext | apply grew_al | apply grew_dn | (refine grew_set ?_ (by repeat (first | exact Nat.le_refl _ | apply le_ext | apply le_al | apply le_pl)) _)))⟩

set_option maxRecDepth 100000 in
set_option maxHeartbeats 4000000 in
theorem implInsOkTRet (d a b rel lo hi to procs size : Int) (w : World) 
    (hq : insEqB ⟨(12 : Int), 0, a, 0, 0, 0, 0, 0⟩ ⟨(12 : Int), d, a, b, rel, lo, hi, to⟩ = true) (hd : varB d = true) (ha : varB a = true) (hb : varB b = true) :
    Calls Try.prog 66 #[Ins.v ⟨(12 : Int), d, a, b, rel, lo, hi, to⟩, .int .i64 procs, .int .i64 size] w fun e w' => e = .returned (.bool (tailB ⟨(12 : Int), d, a, b, rel, lo, hi, to⟩ procs size)) ∧ Grew w w' := by
  have HCO : Hid (∀ w, Calls Try.prog 92 #[Ins.v ⟨(12 : Int), d, a, b, rel, lo, hi, to⟩] w fun e w' => e = .returned (.iface 143 (.agg #[.int .i64 a])) ∧ Grew w w') := Lib.hid (fun w => by
    have := codeOf ⟨(12 : Int), d, a, b, rel, lo, hi, to⟩ w
    rw [show codeV ⟨(12 : Int), d, a, b, rel, lo, hi, to⟩ = .iface 143 (.agg #[.int .i64 a]) from rfl] at this
    exact this)
  have HCN : Hid (∀ w, Calls Try.prog 166 #[.agg #[.int .i64 a]] w fun e w' => e = .returned (.agg #[.int .i64 (12 : Int), .int .i64 0, .int .i64 a, .int .i64 0, .int .i64 0, .int .i64 0, .int .i64 0, .int .i64 0]) ∧ Grew w w') := Lib.hid (fun w => insRet a w)
  have hm := fun n w => methRet n a w
  have Cd : Hid (∀ w, Calls Try.prog 93 #[.int .i64 d] w fun e w' => e = .returned (.bool true) ∧ w = w') := Lib.hid (fun w => bool_is (isVar d w) ((varB4 d).trans hd))
  have Ca : Hid (∀ w, Calls Try.prog 93 #[.int .i64 a] w fun e w' => e = .returned (.bool true) ∧ w = w') := Lib.hid (fun w => bool_is (isVar a w) ((varB4 a).trans ha))
  have Cb : Hid (∀ w, Calls Try.prog 93 #[.int .i64 b] w fun e w' => e = .returned (.bool true) ∧ w = w') := Lib.hid (fun w => bool_is (isVar b w) ((varB4 b).trans hb))
  clear hd ha hb
  go_enter Try.func66, Try.ntmps66
  go_wp2_with fail
  (with_reducible refine (HCO.out _).mono ?_)
  rintro e w1 ⟨rfl, g1⟩
  obtain ⟨x, rfl⟩ := ext_of g1
  have HX := Lib.hid g1; clear g1 hm
  have hm := fun n w => methRet n a w
  go_wp2_with fail
  refine wp_region_ext (by kernel_rfl) (by kernel_rfl) ?_
  repeat (go_big_quiet_step ((first | (with_reducible exact ext_same (Cd.out _)) | (with_reducible exact ext_same (Ca.out _)) | (with_reducible exact ext_same (Cb.out _)) | (with_reducible exact ext_grow (HCN.out _)))))
  refine wpQuiet_nil ?_
  intro _ hw'
  obtain ⟨y, hw''⟩ := hw'
  subst hw''
  have HY := Lib.hid (ext_grew _ y)
  go_wp2_with (first | fail | fail)
  all_goals
    go_ret
    exact ⟨rfl, (by repeat (first | exact Below.refl _ _ | apply grew_ext | apply grew_al | apply grew_dn | (refine grew_set ?_ (by repeat (first | exact Nat.le_refl _ | apply le_ext | apply le_al | apply le_pl)) _)))⟩
end Go.Proofs.Ytmcfengnihomcaa
