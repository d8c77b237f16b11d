/- Programs copied into new memory: what the copies own. No condition. -/
import Derived.Test.YtcdfomoglkhboaaGreatDoorDIns
namespace Go.Proofs.YtcdfomoglkhboaaGreatDoor
open Go.RowKit
set_option linter.unusedVariables false
attribute [local go_sem] ext_cell ext_frozen ext_lt ext_le ext_le1 lt_s2 lt_s3 lt_s4 lt_s5 lt_s6 ext_lt1 ext_lt2 ext_lt3

/-- Cells stored one behind the other. -/
def setCs (w : World) (g : Nat) : Nat → List Value → World
  | _, [] => w
  | o, c :: cs => setCs (w.setCell ⟨g, o, none⟩ c) g (o + 1) cs
def sets (ys : List Value) : Nat → List Value → List Value
  | _, [] => ys
  | o, c :: cs => sets (ys.set o c) (o + 1) cs
theorem sets_len : ∀ (cs ys : List Value) (o : Nat), (sets ys o cs).length = ys.length
  | [], _, _ => rfl
  | c :: cs, ys, o => by rw [sets, sets_len cs, List.length_set]
theorem sets_get : ∀ (cs ys : List Value) (o j : Nat), o + cs.length ≤ ys.length → (sets ys o cs)[j]? = if o ≤ j ∧ j < o + cs.length then cs[j - o]? else ys[j]?
  | [], ys, o, j, h => by
    rw [if_neg (by simp only [List.length_nil]; omega)]
    rfl
  | c :: cs, ys, o, j, h => by
    simp only [List.length_cons] at h ⊢
    rw [sets, sets_get cs (ys.set o c) (o + 1) j (by rw [List.length_set]; omega), List.getElem?_set]
    by_cases h1 : o = j
    · subst h1
      have h2 : ¬ (o + 1 ≤ o ∧ o < o + 1 + cs.length) := by omega
      have h3 : o ≤ o ∧ o < o + (cs.length + 1) := by omega
      rw [if_neg h2, if_pos rfl, if_pos h3, if_pos (by omega)]
      simp
    · by_cases h2 : o + 1 ≤ j ∧ j < o + 1 + cs.length
      · have h3 : o ≤ j ∧ j < o + (cs.length + 1) := by omega
        rw [if_pos h2, if_pos h3, show j - o = (j - (o + 1)) + 1 from by omega, List.getElem?_cons_succ]
      · have h3 : ¬ (o ≤ j ∧ j < o + (cs.length + 1)) := by omega
        rw [if_neg h2, if_neg h3, if_neg h1]
theorem own_sets {base : Nat} {e : TypeId} {size n cap g : Nat} : ∀ (cs : List Value) (w : World) (xs : List Value) (o : Nat), w.ownsRow base e size (.slice (some ⟨g, 0, none⟩) n cap) n xs →
    (setCs w g o cs).ownsRow base e size (.slice (some ⟨g, 0, none⟩) n cap) n (sets xs o cs) ∧ w.grownBy (setCs w g o cs) (some g)
  | [], w, xs, o, h => ⟨h, World.grownBy.refl w _⟩
  | c :: cs, w, xs, o, h => by
    obtain ⟨h1, h2⟩ := h.stored o c
    obtain ⟨h3, h4⟩ := own_sets cs _ _ (o + 1) h1
    exact ⟨h3, grownBy_trans h2 h4⟩
/-- A cell of a row that is owned is there. -/
theorem own_some {w : World} {base : Nat} {e : TypeId} {size n cap g : Nat} {xs : List Value} (h : w.ownsRow base e size (.slice (some ⟨g, 0, none⟩) n cap) n xs) {j : Nat} (hj : j < n * size) : ∃ y, w.cell? ⟨g, j, none⟩ = some y := by
  have hl := h.1
  have := h.cellAt j (by omega)
  exact ⟨xs[j]'(by omega), by rw [this, List.getElem?_eq_getElem (by omega)]⟩
/-- One element more is written. -/
theorem pre_step {α : Type} {f : α → List Value} {C : Nat} (hf : ∀ x, (f x).length = C) {ms : List α} {ys : List Value} {N : Nat} (m : α) (hl : ys.length = N) (hN : ms.length * C + C ≤ N)
    (h : ∀ j, j < ms.length * C → ys[j]? = (ms.flatMap f)[j]?) : ∀ j, j < (ms ++ [m]).length * C → (sets ys (ms.length * C) (f m))[j]? = ((ms ++ [m]).flatMap f)[j]? := by
  intro j hj
  have hfl := flat_len f C hf ms
  rw [List.length_append, List.length_singleton, Nat.succ_mul] at hj
  rw [sets_get _ _ _ _ (by rw [hf]; omega), hf, List.flatMap_append]
  by_cases h1 : j < ms.length * C
  · rw [if_neg (by omega), List.getElem?_append_left (by omega)]
    exact h j h1
  · rw [if_pos (by omega), List.getElem?_append_right (by omega), hfl]
    simp
theorem pre_all {α : Type} {f : α → List Value} {C : Nat} (hf : ∀ x, (f x).length = C) {ms : List α} {ys : List Value} {n : Nat} (hl : ys.length = n * C) (hm : ms.length = n)
    (h : ∀ j, j < ms.length * C → ys[j]? = (ms.flatMap f)[j]?) : ys = ms.flatMap f := by
  subst hm
  apply List.ext_getElem?
  intro j
  by_cases hj : j < ms.length * C
  · exact h j hj
  · rw [List.getElem?_eq_none (by omega), List.getElem?_eq_none (by rw [flat_len f C hf]; omega)]

theorem ins_len (i : Ins) : i.cells.length = 8 := rfl
theorem ins_one (is : List Ins) : ∀ u ∈ is.flatMap Ins.cells, u.oneCell' = true := by
  intro u hu
  obtain ⟨i, _, hi⟩ := List.mem_flatMap.1 hu
  simp only [Ins.cells, List.mem_cons, List.not_mem_nil, or_false] at hi
  rcases hi with rfl | rfl | rfl | rfl | rfl | rfl | rfl | rfl <;> rfl
/-- One instruction of a slice that is read. -/
theorem rdI_at {w : World} {a : Option Addr} {n : Nat} {is : List Ins} (h : RdL EIns 8 w a n is) {k : Nat} (hk : k < n) : ∃ b off op d ia ib rel lo hi to, a = some ⟨b, off, none⟩ ∧ is[k]? = some ⟨op, d, ia, ib, rel, lo, hi, to⟩ ∧
    w.cell? ⟨b, off + k * 8, none⟩ = some (.int .i64 op) ∧ w.cell? ⟨b, off + k * 8 + 1, none⟩ = some (.int .i64 d) ∧ w.cell? ⟨b, off + k * 8 + 2, none⟩ = some (.int .i64 ia) ∧ w.cell? ⟨b, off + k * 8 + 3, none⟩ = some (.int .i64 ib) ∧
    w.cell? ⟨b, off + k * 8 + 4, none⟩ = some (.int .i64 rel) ∧ w.cell? ⟨b, off + k * 8 + 5, none⟩ = some (.int .i64 lo) ∧ w.cell? ⟨b, off + k * 8 + 6, none⟩ = some (.int .i64 hi) ∧ w.cell? ⟨b, off + k * 8 + 7, none⟩ = some (.int .i64 to) ∧ b < w.heap.size := by
  obtain ⟨b, off, ⟨op, d, ia, ib, rel, lo, hi, to⟩, cs, rfl, hx, _, hc, rfl⟩ := h.at_ hk
  exact ⟨b, off, op, d, ia, ib, rel, lo, hi, to, rfl, hx, hc 0 _ rfl, hc 1 _ rfl, hc 2 _ rfl, hc 3 _ rfl, hc 4 _ rfl, hc 5 _ rfl, hc 6 _ rfl, hc 7 _ rfl, h.lt (by omega) rfl⟩
/-- One procedure of a slice that is read. -/
theorem rdP_at {w : World} {a : Option Addr} {n : Nat} {ps : List Prc} (h : RdP w a n ps) {k : Nat} (hk : k < n) : ∃ b off lo hi is ia ic, a = some ⟨b, off, none⟩ ∧ ps[k]? = some ⟨lo, hi, is⟩ ∧
    w.cell? ⟨b, off + k * 3, none⟩ = some (.int .i64 lo) ∧ w.cell? ⟨b, off + k * 3 + 1, none⟩ = some (.int .i64 hi) ∧ w.cell? ⟨b, off + k * 3 + 2, none⟩ = some (.slice ia is.length ic) ∧ b < w.heap.size ∧
    RdL EIns 8 w ia is.length is ∧ is.length ≤ ic ∧ ic ≤ maxLen := by
  obtain ⟨b, off, ⟨lo, hi, is⟩, cs, rfl, hx, _, hc, ⟨ia, ic, rfl, h1, h2, h3⟩⟩ := h.at_ hk
  exact ⟨b, off, lo, hi, is, ia, ic, rfl, hx, hc 0 _ rfl, hc 1 _ rfl, hc 2 _ rfl, h.lt (by omega) rfl, h1, h2, h3⟩

theorem insInfo : (Tryz.prog.info? 38).map (fun i => (i.zero, i.size, i.bytes)) = some (some (.agg #[.int .i64 0, .int .i64 0, .int .i64 0, .int .i64 0, .int .i64 0, .int .i64 0, .int .i64 0, .int .i64 0]), 8, 64) := by kernel_rfl
theorem insEl : El Tryz.prog 54 38 (.agg #[.int .i64 0, .int .i64 0, .int .i64 0, .int .i64 0, .int .i64 0, .int .i64 0, .int .i64 0, .int .i64 0]) 8 64 := El.mk' insInfo Tryz.underlying54 rfl (by omega)

/-- What a copied program owns: a row of procedures, and for each its row of instructions. -/
def prcCells (m : Prc × Value) : List Value := [.int .i64 m.1.lo, .int .i64 m.1.hi, m.2]
theorem prc_len (m : Prc × Value) : (prcCells m).length = 3 := rfl
def OwnP (w : World) (B : Nat) (v : Value) (n : Nat) (ms : List (Prc × Value)) : Prop :=
  ms.length = n ∧ w.ownsRow B 56 3 v n (ms.flatMap prcCells) ∧ ∀ m, m ∈ ms → w.ownsRow B 38 8 m.2 m.1.code.length (m.1.code.flatMap Ins.cells)

theorem rdI_of_own {w : World} {B n cap : Nat} {a : Option Addr} {is : List Ins} (hn : is.length = n) (h : w.ownsRow B 38 8 (.slice a n cap) n (is.flatMap Ins.cells)) : RdL EIns 8 w a n is :=
  rdl_of_rd Ins.cells (by omega) ins_len hn (owns_rd h) (fun x _ => rfl)
theorem OwnP.rd {w : World} {B n cap : Nat} {a : Option Addr} {ms : List (Prc × Value)} (h : OwnP w B (.slice a n cap) n ms) : RdP w a n (ms.map (·.1)) := by
  obtain ⟨hn, h1, h2⟩ := h
  have h3 := rdl_of_rd (E := fun w cs (m : Prc × Value) => EPrc w cs m.1) prcCells (by omega) prc_len hn (owns_rd h1) (fun m hm => by
    obtain ⟨a', c', hv⟩ := owns_slice (h2 m hm)
    have h4 := h2 m hm
    rw [hv] at h4
    exact ⟨a', c', by rw [prcCells, hv], rdI_of_own rfl h4, owns_cap h4⟩)
  refine ⟨by rw [List.length_map]; exact hn, ?_⟩
  rcases h3.2 with h0 | ⟨b, off, e, hc⟩
  · exact .inl h0
  · refine .inr ⟨b, off, e, fun k p hp => ?_⟩
    rw [List.getElem?_map, Option.map_eq_some_iff] at hp
    obtain ⟨m, hm, rfl⟩ := hp
    exact hc k m hm
theorem OwnP.chg {F : Nat → Prop} {w w' : World} {B n : Nat} {v : Value} {ms : List (Prc × Value)} (h : OwnP w B v n ms) (hc : Chg F w w') (hF : ∀ b, B ≤ b → b < w.heap.size → ¬ F b) : OwnP w' B v n ms :=
  ⟨h.1, owns_chg h.2.1 hc (fun b hb => hF b (h.2.1.lt b hb).1 (h.2.1.lt b hb).2), fun m hm => owns_chg (h.2.2 m hm) hc (fun b hb => hF b ((h.2.2 m hm).lt b hb).1 ((h.2.2 m hm).lt b hb).2)⟩
theorem OwnP.grew {w w' : World} {B n : Nat} {v : Value} {ms : List (Prc × Value)} (h : OwnP w B v n ms) (hc : Grew w w') : OwnP w' B v n ms :=
  h.chg (Chg.of_below (F := fun _ => False) hc) (fun _ _ _ hf => hf)

theorem prcInfo : (Tryz.prog.info? 56).map (fun i => (i.zero, i.size, i.bytes)) = some (some (.agg #[.int .i64 0, .int .i64 0, .slice none 0 0]), 3, 40) := by kernel_rfl
theorem prcEl : El Tryz.prog 23 56 (.agg #[.int .i64 0, .int .i64 0, .slice none 0 0]) 3 40 := El.mk' prcInfo Tryz.underlying23 rfl (by omega)

end Go.Proofs.YtcdfomoglkhboaaGreatDoor
