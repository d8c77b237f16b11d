/- Lemmas and walks of this proof, some texts one behind the other. No condition. -/
import Derived.Test.YtnjoofpllhbccaaGt
import Derived.Test.YtnjoofpllhbccaaMarks
import Derived.Test.YtnjoofpllhbccaaGs3
import Derived.Test.YtnjoofpllhbccaaOw
import Derived.Test.YtnjoofpllhbccaaGm
set_option linter.unusedSimpArgs false
set_option linter.unusedVariables false
/- Rows of rows of numbers as answers: compared, marked, held. No condition. -/
namespace Go.Proofs.Ytnjoofpllhbccaa
open Go.RowKit
set_option linter.unusedVariables false
set_option linter.unusedSimpArgs false
attribute [local go_sem] ext_cell ext_frozen ext_lt ext_le ext_le1 lt_s2 lt_s3 lt_s4 lt_s5 lt_s6 ext_lt1 ext_lt2 ext_lt3

/-- The answer: a row of rows of the call's own. -/
def RetLL (ls : List (List Int)) (w : World) (e : Ending) (w' : World) : Prop := ∃ a c ms, e = .returned (.slice a ls.length c) ∧ OwnLL w' w.heap.size (.slice a ls.length c) ms ∧ ms.map (·.1) = ls ∧ Grew w w'
theorem retLL_of {P : Program} {f : FuncId} {args : Array Value} {w : World} {L S : List (List Int)} (h : Calls P f args w (RetLL L w)) (hS : L = S) : Calls P f args w (RetLL S w) := hS ▸ h
theorem ll_len {ms : List (List Int × Value)} {ls : List (List Int)} (h : ms.map (·.1) = ls) : ms.length = ls.length := by rw [← h]; simp

/-- Marked numbers. -/
def markZ (k m : Nat) : List Int := (List.range m).map fun j => ((k + j : Nat) : Int)
theorem markZ_ints (k m : Nat) : markI k m = ints .i64 (markZ k m) := by simp [markI, markZ, ints]
theorem markZ_len (k m : Nat) : (markZ k m).length = m := by simp [markZ]
def marksL : Nat → List (List Int × Value) → List (List Int × Value)
  | _, [] => []
  | k, m :: ms => (markZ k m.1.length, m.2) :: marksL (k + m.1.length) ms
def sumL (ms : List (List Int × Value)) : Nat := (ms.map fun m => m.1.length).sum
theorem marksL_len : ∀ (k : Nat) (ms : List (List Int × Value)), (marksL k ms).length = ms.length
  | _, [] => rfl
  | k, m :: ms => by rw [marksL, List.length_cons, marksL_len]; rfl
theorem marksL_snoc : ∀ (k : Nat) (ms : List (List Int × Value)) (m : List Int × Value), marksL k (ms ++ [m]) = marksL k ms ++ [(markZ (k + sumL ms) m.1.length, m.2)]
  | k, [], m => by simp [marksL, sumL]
  | k, x :: ms, m => by
    rw [List.cons_append, marksL, marksL_snoc, marksL, List.cons_append]
    simp [sumL, Nat.add_assoc]
theorem marksL_vals : ∀ (k : Nat) (ms : List (List Int × Value)), (marksL k ms).map (·.2) = ms.map (·.2)
  | _, [] => rfl
  | k, m :: ms => by rw [marksL, List.map_cons, marksL_vals, List.map_cons]
theorem sumL_snoc (ms : List (List Int × Value)) (m : List Int × Value) : sumL (ms ++ [m]) = sumL ms + m.1.length := by simp [sumL]
theorem sumL_le {ms : List (List Int × Value)} {N : Nat} (h : ∀ m, m ∈ ms → m.1.length ≤ N) : sumL ms ≤ ms.length * N := by
  induction ms with
  | nil => simp [sumL]
  | cons m ms ih =>
    have h1 := ih (fun x hx => h x (by simp [hx]))
    have h2 := h m (by simp)
    simp only [sumL, List.map_cons, List.sum_cons, List.length_cons] at h1 ⊢
    rw [Nat.succ_mul]
    omega
/-- Row k of them. -/
theorem OwnLL.at_ {w : World} {B n c : Nat} {a : Option Addr} {ms : List (List Int × Value)} (h : OwnLL w B (.slice a n c) ms) {k : Nat} {m : List Int × Value} (hm : ms[k]? = some m) : ∃ b off la lc, a = some ⟨b, off, none⟩ ∧ m.2 = .slice la m.1.length lc ∧ w.cell? ⟨b, off + k, none⟩ = some (.slice la m.1.length lc) ∧ w.ownsRow B 3 1 (.slice la m.1.length lc) m.1.length (ints .i64 m.1) := by
  obtain ⟨A, cc, e⟩ := owns_slice h.row
  simp only [Value.slice.injEq] at e
  obtain ⟨rfl, rfl, rfl⟩ := e
  have hr := owns_rd h.row
  have ho := h.each m (List.mem_of_getElem? hm)
  obtain ⟨la, lc, hv⟩ := owns_slice ho
  rcases hr.2 with e | ⟨b, off, rfl, hc⟩
  · have h1 := congrArg List.length e
    have h2 := (List.getElem?_eq_some_iff.1 hm).1
    simp only [List.length_map, List.length_nil] at h1
    omega
  · have h9 : w.cell? ⟨b, off + k, none⟩ = some m.2 := hc k _ (by rw [List.getElem?_map, hm]; rfl)
    rw [hv] at h9 ho
    exact ⟨b, off, la, lc, rfl, hv, h9, ho⟩
/-- Row k is written anew. -/
theorem OwnLL.turn {w w' : World} {B : Nat} {v : Value} {xs ys : List (List Int × Value)} {m : List Int × Value} {l : List Int} (h : OwnLL w B v (xs ++ m :: ys)) (hl : l.length = m.1.length)
    (ho : w'.ownsRow B 3 1 m.2 m.1.length (ints .i64 l)) (c : Chg (fun b => m.2.ownBlock = some b) w w') : OwnLL w' B v (xs ++ (l, m.2) :: ys) := by
  have hm := h.each m (by simp)
  obtain ⟨p1, p2, p3⟩ := List.pairwise_append.1 h.apart
  obtain ⟨p4, p5⟩ := List.pairwise_cons.1 p2
  have hlen : (xs ++ (l, m.2) :: ys).length = (xs ++ m :: ys).length := by simp
  refine ⟨?_, fun u hu => ?_, ?_⟩
  · rw [hlen, show (xs ++ (l, m.2) :: ys).map (·.2) = (xs ++ m :: ys).map (·.2) from by simp]
    exact owns_chg h.row c (fun b e1 e2 => row_row_ne hm h.row (by decide) e2 e1)
  · rcases List.mem_append.1 hu with hx | hx
    · exact owns_chg (h.each u (by simp [hx])) c (fun b e1 e2 => p3 u hx m (by simp) b e1 e2)
    · rcases List.mem_cons.1 hx with rfl | hx
      · simp only [hl]
        exact ho
      · exact owns_chg (h.each u (by simp [hx])) c (fun b e1 e2 => p4 u hx b e2 e1)
  · refine List.pairwise_append.2 ⟨p1, List.pairwise_cons.2 ⟨fun u hu b e1 e2 => p4 u hu b e1 e2, p5⟩, fun u hu u' hu' b e1 e2 => ?_⟩
    rcases List.mem_cons.1 hu' with rfl | hu'
    · exact p3 u hu m (by simp) b e1 e2
    · exact p3 u hu u' (by simp [hu']) b e1 e2

theorem marksL_get : ∀ (k0 : Nat) (ms : List (List Int × Value)) (k : Nat) (m : List Int × Value), ms[k]? = some m → (marksL k0 ms)[k]? = some (markZ (k0 + sumL (ms.take k)) m.1.length, m.2)
  | _, [], k, m, h => by simp at h
  | k0, x :: ms, 0, m, h => by
    simp only [List.getElem?_cons_zero, Option.some.injEq] at h
    subst h
    simp [marksL, sumL]
  | k0, x :: ms, k + 1, m, h => by
    rw [List.getElem?_cons_succ] at h
    rw [marksL, List.getElem?_cons_succ, marksL_get _ ms k m h]
    simp [sumL, Nat.add_assoc]
/-! GrfParts. -/
def grfParts (ps : List Prc) : List (List Int) := if prgOkB ps then ptOf ps else []
theorem ptOf_bd {ps : List Prc} (hB : prgOkB ps = true) : (ptOf ps).length ≤ 4 ∧ ∀ l, l ∈ ptOf ps → l.length ≤ 4 := by
  have h4 := (prg_len hB).2
  have h1 := (prg_len hB).1
  have hok := gok_of hB
  have hp := reach_pl hok (a := 0) (by rw [csOf_len]; omega)
  have hr := hp.len
  rw [csOf_len] at hr
  constructor
  · simp only [ptOf, partsL, partsP, List.length_map]
    rw [← csOf_len ps]
    have := List.length_filter_le (firstB (cOf' (csOf ps)) (csOf ps).length) (reachL (cOf' (csOf ps)) (csOf ps).length 0)
    rw [csOf_len] at this ⊢
    omega
  · intro l hl
    simp only [ptOf, partsL, partsP, List.mem_map] at hl
    obtain ⟨x, hx, rfl⟩ := hl
    rw [← csOf_len ps] at hx ⊢
    have := (part_pl hok (hp.b x (List.mem_filter.1 hx).1)).len
    rw [csOf_len] at this ⊢
    omega
theorem implGrfParts (a : Option Addr) (n cap : Nat) (ps : List Prc) (w : World) (hr : RdP w a n ps) (hn : n ≤ 9223372036854775807) :
    Calls Try.prog 59 #[.agg #[.slice a n cap]] w (RetLL (grfParts ps) w) := by
  cases hB : prgOkB ps
  · have HC := Lib.hid (fun W (g : Grew w W) => readGraphNo a n cap ps W (hr.grew g) hn hB)
    have HE := Lib.hid (show grfParts ps = [] from by simp [grfParts, hB])
    clear hB hr
    go_enter Try.func59, Try.ntmps59
    go_wp2_with fail
    refine (HC.out _ (by repeat (first | with_reducible exact Below.refl _ _ | with_reducible assumption | with_reducible apply grew_ext | with_reducible apply grew_al | with_reducible apply grew_dn | with_reducible apply grew_d | (with_reducible refine grew_set ?_ (by first | omega | (repeat (first | with_reducible exact Nat.le_refl _ | with_reducible apply le_pl | with_reducible apply le_ext | with_reducible apply le_al))) _)))).mono ?_
    rintro e w1 ⟨rfl, g1⟩
    go_wp2
    go_ret
    rw [HE.out]
    exact ⟨none, 0, [], rfl, OwnLL.nil _ _, rfl, grew_tr (by repeat (first | with_reducible exact Below.refl _ _ | with_reducible assumption | with_reducible apply grew_ext | with_reducible apply grew_al | with_reducible apply grew_dn | with_reducible apply grew_d | (with_reducible refine grew_set ?_ (by first | omega | (repeat (first | with_reducible exact Nat.le_refl _ | with_reducible apply le_pl | with_reducible apply le_ext | with_reducible apply le_al))) _))) g1⟩
  · have HC := Lib.hid (fun W (g : Grew w W) => readGraphYes a n cap ps W (hr.grew g) hn hB)
    have HE := Lib.hid (show grfParts ps = ptOf ps from by simp [grfParts, hB])
    clear hB hr
    go_enter Try.func59, Try.ntmps59
    go_wp2_with fail
    refine (HC.out _ (by repeat (first | with_reducible exact Below.refl _ _ | with_reducible assumption | with_reducible apply grew_ext | with_reducible apply grew_al | with_reducible apply grew_dn | with_reducible apply grew_d | (with_reducible refine grew_set ?_ (by first | omega | (repeat (first | with_reducible exact Nat.le_refl _ | with_reducible apply le_pl | with_reducible apply le_ext | with_reducible apply le_al))) _)))).mono ?_
    rintro e w1 ⟨gb, rfl, hg, g1⟩
    obtain ⟨⟨x, cv, pv, cms, pms, h1, h2, h3, h4, h5⟩, h6, h7, h8⟩ := hg
    obtain ⟨A, c, rfl⟩ := owns_slice h4.row
    have hl := ll_len h5
    rw [hl] at h1 h4
    have q2 : w1.cell? ⟨gb, 2, none⟩ = some (.slice A (ptOf ps).length c) := h1.cell 2
    have O := Lib.hid (h4.mono (show w.heap.size ≤ _ from by simp))
    have H5 := Lib.hid h5
    have G := Lib.hid (grew_tr (show Grew w (w.alloc (.cells #[.slice a n cap] 49)) from grew_al (Below.refl _ _) _) g1)
    clear h1 h2 h3 h4 h5 h7 g1 hl
    go_wp2
    go_ret
    rw [HE.out]
    exact ⟨A, c, pms, rfl, O.out, H5.out, G.out⟩
end Go.Proofs.Ytnjoofpllhbccaa

/- The parts of a program, the reference's side. No condition. -/
namespace Go.Proofs.Ytnjoofpllhbccaa
open Go.RowKit
set_option linter.unusedVariables false
set_option linter.unusedSimpArgs false
attribute [local go_sem] ext_cell ext_frozen ext_lt ext_le ext_le1 lt_s2 lt_s3 lt_s4 lt_s5 lt_s6 ext_lt1 ext_lt2 ext_lt3

/-- The loop over what procedure 0 reaches: k of them seen. -/
structure LS (w w2 : World) (c : Int → List Int) (N : Nat) (L : List Int) (k : Nat) (wr : World) (v : Value) (ms : List (List Int × Value)) : Prop where
  hc : Chg (fun b => b = w.heap.size + 1) w2 wr
  hv : ∀ b, v.ownBlock = some b → b = w.heap.size + 1 ∨ w2.heap.size ≤ b
  o : OwnLL wr w.heap.size v ms
  m : ms.map (·.1) = partsP c N (L.take k)
theorem LS.len {w w2 wr : World} {c : Int → List Int} {N k : Nat} {L : List Int} {v : Value} {ms : List (List Int × Value)} (h : LS w w2 c N L k wr v ms) : ms.length ≤ L.length := by
  rw [ll_len h.m]
  simp only [partsP, List.length_map]
  exact Nat.le_trans (List.length_filter_le _ _) (List.length_take_le' _ _)
theorem LS.skip {w w2 wr wr' : World} {c : Int → List Int} {N k : Nat} {L : List Int} {v : Value} {ms : List (List Int × Value)} {x : Int} (h : LS w w2 c N L k wr v ms) (hx : L[k]? = some x) (hf : firstB c N x = false) (g : Grew wr wr') : LS w w2 c N L (k + 1) wr' v ms :=
  ⟨h.hc.trans (Chg.of_below (F := fun b => b = w.heap.size + 1) g) (fun _ _ e => e) (fun _ _ e => e), h.hv, h.o.grew g, by rw [take_get hx, partsP_snoc, hf, h.m]; simp⟩
theorem LS.take {w w2 wr w5 w6 : World} {c : Int → List Int} {N k : Nat} {L : List Int} {v v6 u : Value} {ms : List (List Int × Value)} {x : Int} (h : LS w w2 c N L k wr v ms) (hx : L[k]? = some x) (hf : firstB c N x = true) (g : Grew wr w5) (hw : w.heap.size ≤ wr.heap.size)
    (hu : w5.ownsRow wr.heap.size 3 1 u (partL c N x).length (ints .i64 (partL c N x))) (o6 : w6.ownsRow w.heap.size 27 1 v6 (ms.length + 1) (ms.map (·.2) ++ [u])) (g6 : w5.grownBy w6 v.ownBlock) (h6 : v6.ownBlock = v.ownBlock ∨ v6.ownBlock = some (w5.heap.size + 1)) :
    LS w w2 c N L (k + 1) w6 v6 (ms ++ [(partL c N x, u)]) := by
  have c6 := Chg.of_grownBy g6
  refine ⟨(h.hc.trans (Chg.of_below (F := fun b => b = w.heap.size + 1) g) (fun _ _ e => e) (fun _ _ e => e)).trans c6 (fun _ _ e => e) (fun i hi e => by rcases h.hv i e with h | h <;> omega), fun b hb => ?_, h.o.snoc g hu hw o6 g6, by rw [take_get hx, partsP_snoc, hf, List.map_append, h.m]; simp⟩
  rcases h6 with e | e
  · exact h.hv b (by rw [← e]; exact hb)
  · rw [e, Option.some.injEq] at hb
    have h1 := h.hc.size
    have h2 := g.size
    omega

set_option maxRecDepth 100000 in
set_option maxHeartbeats 4000000 in
theorem specGrfParts (a : Option Addr) (n cap : Nat) (ps : List Prc) (w : World) (hr : RdP w a n ps) (hn : n ≤ 9223372036854775807) :
    Calls Try.prog 61 #[.agg #[.slice a n cap]] w (RetLL (grfParts ps) w) := by
  have hl := hr.len
  have C := fun W (g : Grew w W) => specPrgOk a n cap ps W (hr.grew g) hn
  have H0 := Lib.hid (show OwnLL ((w.alloc (.cells #[.slice a n cap] 49)).alloc (.cells #[] 27)) w.heap.size (.slice (some ⟨w.heap.size + 1, 0, none⟩) 0 0) [] from
    ⟨by simpa using World.ownsRow_lit (w.alloc (.cells #[.slice a n cap] 49)) (e := 27) (size := 1) #[] 0 (base := w.heap.size) (by simp) (Nat.zero_le _) rfl, fun m hm => (by cases hm), List.Pairwise.nil⟩)
  cases hB : prgOkB ps
  · rw [hB] at C
    have HC := Lib.hid C; clear C
    have HE := Lib.hid (show grfParts ps = [] from by simp [grfParts, hB])
    clear hB hr hl
    go_enter Try.func61, Try.ntmps61
    go_wp2_with fail
    refine (HC.out _ (by repeat (first | with_reducible exact Below.refl _ _ | with_reducible assumption | with_reducible apply grew_ext | with_reducible apply grew_al | with_reducible apply grew_dn | with_reducible apply grew_d | (with_reducible refine grew_set ?_ (by first | omega | (repeat (first | with_reducible exact Nat.le_refl _ | with_reducible apply le_pl | with_reducible apply le_ext | with_reducible apply le_al))) _)))).mono ?_
    rintro e w1 ⟨rfl, g1⟩
    have O1 := Lib.hid (H0.out.grew g1)
    have G1 := Lib.hid (show Grew w w1 from grew_tr (grew_al (grew_al (Below.refl _ _) _) _) g1)
    clear g1
    go_wp2
    go_ret
    rw [HE.out]
    exact ⟨_, _, [], rfl, O1.out, rfl, G1.out⟩
  · rw [hB] at C
    have HC := Lib.hid C; clear C
    have HE := Lib.hid (show grfParts ps = partsP (cOf' (csOf ps)) (csOf ps).length (reachL (cOf' (csOf ps)) (csOf ps).length 0) from by rw [grfParts, if_pos hB, ptOf, partsL, csOf_len])
    have hN : (csOf ps).length = n := by rw [csOf_len, hl]
    have hok := gok_of hB
    have hn4 := prg_len hB
    rw [hl] at hn4
    have HD := Lib.hid (fun W (g : Grew w W) => l6Reach a n cap ps 0 W (hr.grew g) hn hB (by omega))
    have HP := Lib.hid (fun (x : Int) (hx : 0 ≤ x ∧ x < n) W (g : Grew w W) => l6Part a n cap ps x W (hr.grew g) hn hB hx)
    have HH := Lib.hid (fun (x : Int) (hx : 0 ≤ x ∧ x < n) => part_head hok (a := x) (by rw [hN]; exact hx))
    have HPL := Lib.hid (fun (x : Int) (hx : 0 ≤ x ∧ x < n) => part_pl hok (a := x) (by rw [hN]; exact hx))
    have HLP := Lib.hid (reach_pl hok (a := 0) (by omega))
    rw [hN] at HPL HLP
    clear hB hr hl hok
    go_enter Try.func61, Try.ntmps61
    go_wp2_with fail
    refine (HC.out _ (by repeat (first | with_reducible exact Below.refl _ _ | with_reducible assumption | with_reducible apply grew_ext | with_reducible apply grew_al | with_reducible apply grew_dn | with_reducible apply grew_d | (with_reducible refine grew_set ?_ (by first | omega | (repeat (first | with_reducible exact Nat.le_refl _ | with_reducible apply le_pl | with_reducible apply le_ext | with_reducible apply le_al))) _)))).mono ?_
    rintro e w1 ⟨rfl, g1⟩
    have hb1 : w1.cell? ⟨w.heap.size, 0, none⟩ = some (.slice a n cap) := (g1.cell (p := ⟨w.heap.size, 0, none⟩) (by simp; omega)).trans (by simp [go_sem])
    have O1 := Lib.hid (H0.out.grew g1)
    have hG1 := show Grew w w1 from grew_tr (grew_al (grew_al (Below.refl _ _) _) _) g1
    have lb1 : w.heap.size + 1 < w1.heap.size := Nat.lt_of_lt_of_le (by simp) g1.size
    clear g1 H0
    go_wp2_with fail
    refine (HD.out _ hG1).mono ?_
    rintro e w2 ⟨A, c, rfl, o2, g2⟩
    have hb2 : w2.cell? ⟨w.heap.size, 0, none⟩ = some (.slice a n cap) := (g2.cell (p := ⟨w.heap.size, 0, none⟩) (by simp only; omega)).trans hb1
    have HB2 := Lib.hid hb2
    have O2 := Lib.hid (O1.out.grew g2)
    have G2 := Lib.hid (grew_tr hG1 g2)
    rw [hN] at o2 ⊢
    rw [hN] at HE HP HH
    obtain ⟨C0, hC0⟩ : ∃ C0, cOf' (csOf ps) = C0 := ⟨_, rfl⟩
    rw [hC0] at o2 HE HP HH HPL HLP ⊢
    obtain ⟨L, hL⟩ : ∃ L, reachL C0 n 0 = L := ⟨_, rfl⟩
    rw [hL] at o2 HE HLP ⊢
    have HRO := Lib.hid (show w2.ownsRow (w.heap.size + 1 + 1) 3 1 (.slice A L.length c) L.length (ints .i64 L) from owns_mono o2 (by omega))
    have hLl := HLP.out.len
    have hL9 : L.length ≤ 9223372036854775807 := by omega
    have lb2 : w.heap.size + 1 < w2.heap.size := Nat.lt_of_lt_of_le lb1 g2.size
    clear hL o2 g2 hG1 hb1 hb2 O1 HC HD hC0 lb1
    go_wp2
    go_loopw [3, 5] (fun v i wr => ∃ (k : Nat) (ms : List (List Int × Value)), k ≤ L.length ∧ i = .int .i64 k ∧ LS w w2 C0 n L k wr v ms) (fun _ i _ => L.length - (Go.RowKit.intOf i).toNat)
    case atStart => exact ⟨0, [], Nat.zero_le _, rfl, Chg.refl _ _, fun b hb => .inl (by simp only [Value.ownBlock, Option.some.injEq] at hb; omega), O2.out, by simp [partsP]⟩
    case round =>
      clear O2
      obtain ⟨k, ms, hk, rfl, h⟩ := hrel
      have hb0 : wr.cell? ⟨w.heap.size, 0, none⟩ = some (.slice a n cap) := (World.cell?_of_block (w := w2) (w' := wr) (a := ⟨w.heap.size, 0, none⟩) (h.hc.block w.heap.size (by omega) (by omega))).trans HB2.out
      have gw : Grew w wr := G2.out.trans ⟨h.hc.os, h.hc.tape, h.hc.output, h.hc.size, fun k hk => h.hc.block k (by omega) (by omega)⟩
      by_cases hlt : k < L.length
      · have hro := owns_chg HRO.out h.hc (fun b hb e => by have := (HRO.out.lt b hb).1; omega)
        obtain ⟨b, off, x, rfl, hx, hcell⟩ := (owns_rd hro).at1 hlt
        have hxb := HLP.out.b x (List.mem_of_getElem? hx)
        have hpl := (HPL.out x hxb).len
        have C := Lib.hid (HP.out x hxb)
        obtain ⟨hd, tl, hpe, hle, hiff⟩ := HH.out x hxb
        have hml := h.len
        obtain ⟨oa, oc, rfl⟩ := owns_slice h.o.row
        have HS := Lib.hid (fun wr' (g : Grew wr wr') (hf : firstB C0 n x = false) => h.skip hx hf g)
        have HT := Lib.hid (fun w5 w6 v6 u (g : Grew wr w5) (hf : firstB C0 n x = true) hu o6 g6 h6 => h.take (w5 := w5) (w6 := w6) (v6 := v6) (u := u) hx hf g gw.size hu o6 g6 h6)
        have HO := Lib.hid h.o
        obtain ⟨F, hF⟩ : ∃ F, firstB C0 n x = F := ⟨_, rfl⟩
        obtain ⟨X, hX⟩ : ∃ X, partL C0 n x = X := ⟨_, rfl⟩
        rw [hX] at HT C hpl hpe
        rw [hF] at HS HT hiff
        have hX0 : 0 < X.length := by rw [hpe]; simp
        have HX0 := Lib.hid (show X[0]? = some hd from by rw [hpe]; rfl)
        have HSG : Hid (∀ W, Grew wr W → W.cell? ⟨w.heap.size, 0, none⟩ = some (.slice a n cap) ∧ W.cell? ⟨b, off + k, none⟩ = some (.int .i64 x)) := Lib.hid (fun W g => ⟨(g.cell (p := ⟨w.heap.size, 0, none⟩) (World.block_lt_of_cell? wr _ hb0)).trans hb0, (g.cell (p := ⟨b, off + k, none⟩) (World.block_lt_of_cell? wr _ hcell)).trans hcell⟩)
        have HG := Lib.hid gw
        clear hF hX hro hx gw h hpe hle
        cases F
        · have hne : (hd == x) = false := by
            rw [beq_eq_false_iff_ne]
            exact fun e => by have := hiff.2 e; cases this
          clear hiff
          go_wp2_with fail
          go_region_held3 (fun W => W.cell? ⟨w.heap.size, 0, none⟩ = some (.slice a n cap) ∧ W.cell? ⟨b, off + k, none⟩ = some (.int .i64 x)) (with_reducible (first | assumption | exact HSG.out _ (grew_d (Below.refl _ _))))
            ((go_at_call 117; (with_reducible refine (C.out _ (grew_tr HG.out (grew_d (Below.refl _ _)))).mono ?_); rintro e w5 ⟨A5, c5, rfl, o5, g5⟩; have t5 := HSG.out _ (grew_tr (grew_d (Below.refl _ _)) g5); have R5 := Lib.hid o5; have G5 := Lib.hid (grew_tr (grew_d (Below.refl _ _)) g5); clear o5 g5))
          obtain ⟨b5, off5, y5, rfl, hy5, hcell5⟩ := (owns_rd R5.out).at1 hX0
          obtain rfl : y5 = hd := Option.some.inj (hy5.symm.trans HX0.out)
          rw [Nat.add_zero] at hcell5
          clear hy5
          go_wp2_with fail
          go_quiet (fail)
          have HN := Lib.hid (HS.out _ (grew_tr G5.out (grew_drewN _ nq)) trivial)
          clear t5 HSG hb0 hcell hcell5
          go_wp2
          go_roundw
          case rel => exact ⟨k + 1, ms, by omega, by go_num, HN.out⟩
          case measure => simp [Go.RowKit.intOf]; omega
        · obtain rfl : hd = x := hiff.1 rfl
          clear hiff
          go_wp2_with fail
          go_region_held3 (fun W => W.cell? ⟨w.heap.size, 0, none⟩ = some (.slice a n cap) ∧ W.cell? ⟨b, off + k, none⟩ = some (.int .i64 hd)) (with_reducible (first | assumption | exact HSG.out _ (grew_d (Below.refl _ _))))
            ((go_at_call 117; (with_reducible refine (C.out _ (grew_tr HG.out (grew_d (Below.refl _ _)))).mono ?_); rintro e w5 ⟨A5, c5, rfl, o5, g5⟩; have t5 := HSG.out _ (grew_tr (grew_d (Below.refl _ _)) g5); have R5 := Lib.hid (owns_mono o5 (show wr.heap.size ≤ _ from by simp)); have G5 := Lib.hid (grew_tr (grew_d (Below.refl _ _)) g5); clear o5 g5))
          obtain ⟨b5, off5, y5, rfl, hy5, hcell5⟩ := (owns_rd R5.out).at1 hX0
          obtain rfl : y5 = hd := Option.some.inj (hy5.symm.trans HX0.out)
          rw [Nat.add_zero] at hcell5
          clear hy5
          go_wp2_with fail
          go_quiet (fail)
          have hg6 := grew_tr G5.out (grew_drewN _ nq)
          obtain ⟨v7, w7, hr7, o7, g7, hv7⟩ := owns_append_lit (P := Try.prog) _ llEl (HO.out.grew hg6).row 1 [.slice (some ⟨b5, off5, none⟩) X.length c5] rfl (by simp [Value.oneCell']) (by omega) (by omega) (Nat.le_trans HG.out.size hg6.size)
          have HN := Lib.hid (HT.out _ _ _ _ hg6 trivial (owns_grew R5.out (grew_drewN _ nq)) o7 g7 hv7)
          have R7 := Lib.hid hr7
          clear t5 HSG hb0 hcell hcell5 o7 g7 hr7 hv7 hg6
          go_wp2_with (at_builtin; refine wpList_append_run rfl _ _ rfl rfl rfl rfl R7.out ?_)
          go_roundw
          case rel => exact ⟨k + 1, _, by omega, by go_num, HN.out⟩
          case measure => simp [Go.RowKit.intOf]; omega
      · obtain rfl : k = L.length := by omega
        have hm := h.m
        rw [List.take_length] at hm
        obtain ⟨oa, oc, rfl⟩ := owns_slice h.o.row
        have hlen := ll_len hm
        have HO := Lib.hid h.o
        have HG := Lib.hid gw
        have HM := Lib.hid hm
        clear h gw hb0 hm
        go_wp2
        go_ret
        rw [HE.out]
        exact ⟨oa, oc, ms, by rw [← hlen]; rfl, by rw [← hlen]; exact HO.out, HM.out, HG.out⟩
end Go.Proofs.Ytnjoofpllhbccaa

/- Whether a row of numbers holds one of a part; in which part a number is. No condition. -/
namespace Go.Proofs.Ytnjoofpllhbccaa
open Go.RowKit
set_option linter.unusedVariables false
set_option linter.unusedSimpArgs false
attribute [local go_sem] ext_cell ext_frozen ext_lt ext_le ext_le1 lt_s2 lt_s3 lt_s4 lt_s5 lt_s6 ext_lt1 ext_lt2 ext_lt3

/-- A number is handed back, nothing is touched. -/
def RetN (z : Int) (w : World) (e : Ending) (w' : World) : Prop := e = .returned (.int .i64 z) ∧ w = w'
theorem ofL_at {parts : List (List Int)} {x : Int} {k : Nat} {q : List Int} (h : ∀ p, p ∈ parts.take k → ¬ x ∈ p) (hk : parts[k]? = some q) (hx : x ∈ q) : ofL parts x = k := by
  have : parts.findIdx? (fun q => decide (x ∈ q)) = some k := by
    obtain ⟨hlt, he⟩ := List.getElem?_eq_some_iff.1 hk
    rw [List.findIdx?_eq_some_iff_getElem]
    refine ⟨hlt, by rw [he]; simpa using hx, fun j hj => ?_⟩
    have := h parts[j] (List.mem_of_getElem? (i := j) (by rw [List.getElem?_take, if_pos hj]; exact List.getElem?_eq_getElem _))
    simpa using this
  simp [ofL, this]
theorem ofL_none {parts : List (List Int)} {x : Int} (h : ∀ p, p ∈ parts → ¬ x ∈ p) : ofL parts x = -1 := by
  have : parts.findIdx? (fun q => decide (x ∈ q)) = none := by
    rw [List.findIdx?_eq_none_iff]
    exact fun p hp => by simpa using h p hp
  simp [ofL, this]
theorem ofL_ge (parts : List (List Int)) (x : Int) : -1 ≤ ofL parts x ∧ ofL parts x < parts.length := by
  unfold ofL
  split
  · rename_i k hk
    have := (List.findIdx?_eq_some_iff_getElem.1 hk).1
    omega
  · omega
end Go.Proofs.Ytnjoofpllhbccaa

/- What the laws ask of lists: equal, has, rises. No condition. -/
namespace Go.Proofs.Ytnjoofpllhbccaa
open Go.RowKit
set_option linter.unusedVariables false
set_option linter.unusedSimpArgs false
attribute [local go_sem] ext_cell ext_frozen ext_lt ext_le ext_le1 lt_s2 lt_s3 lt_s4 lt_s5 lt_s6 ext_lt1 ext_lt2 ext_lt3

theorem owOf (a : Option Addr) (n cap : Nat) (parts : List (List Int)) (x : Int) (w : World) (hr : RdLL w a n parts) (hn : n ≤ 1000) (hb : ∀ l, l ∈ parts → l.length ≤ 1000) :
    Calls Try.prog 62 #[.slice a n cap, .int .i64 x] w (RetN (ofL parts x) w) := by
  have HL := Lib.hid hr.len
  have HR := Lib.hid hr; clear hr
  go_enter Try.func62, Try.ntmps62
  go_wp2
  go_loop [5] (fun i => ∃ k : Nat, k ≤ n ∧ i = .int .i64 k ∧ ∀ p, p ∈ parts.take k → ¬ x ∈ p) (fun i => n - (Go.RowKit.intOf i).toNat)
  case atStart => exact ⟨0, Nat.zero_le _, rfl, by simp⟩
  case round =>
    obtain ⟨k, hk, rfl, hall⟩ := hrel
    have HA := Lib.hid hall; clear hall
    by_cases hlt : k < n
    · obtain ⟨b, off, l, la, lc, rfl, hx, hc, hrd, h1, h2⟩ := rdLL_at HR.out hlt
      have hl := hb l (List.mem_of_getElem? hx)
      have C := Lib.hid (owHas la l.length lc l x w hrd (by omega))
      have HX := Lib.hid hx; clear hx hrd
      by_cases hq : x ∈ l
      · have HD := Lib.hid (decide_eq_true hq)
        go_wp2_with (go_at_call 50; refine C.out.mono ?_; rintro e w1 ⟨rfl, rfl⟩; rw [HD.out])
        go_ret
        exact ⟨by rw [ofL_at HA.out HX.out hq]; rfl, rfl⟩
      · have HD := Lib.hid (decide_eq_false hq)
        have HQ := Lib.hid hq; clear hq
        go_wp2_with (go_at_call 50; refine C.out.mono ?_; rintro e w1 ⟨rfl, rfl⟩; rw [HD.out])
        go_round
        case rel =>
          refine ⟨k + 1, by omega, by go_num, fun p hp => ?_⟩
          rw [take_get HX.out] at hp
          rcases List.mem_append.1 hp with hp | hp
          · exact HA.out p hp
          · rw [List.mem_singleton.1 hp]
            exact HQ.out
        case measure => simp [Go.RowKit.intOf]; omega
    · go_wp2
      go_ret
      refine ⟨?_, rfl⟩
      have := HA.out
      rw [List.take_of_length_le (by have := HL.out; omega)] at this
      rw [ofL_none this]
      rfl
/-- Two rows of lists that are the same are told as such. -/
theorem owListsE (a : Option Addr) (n cap : Nat) (a' : Option Addr) (n' cap' : Nat) (ls : List (List Int)) (w : World) (hr : RdLL w a n ls) (hr' : RdLL w a' n' ls) (hm : n ≤ 1000) (hb : ∀ l, l ∈ ls → l.length ≤ 1000) :
    Calls Try.prog 60 #[.slice a n cap, .slice a' n' cap'] w (RetTG true w) := by
  have hl := hr.len
  have hl' := hr'.len
  obtain rfl : n' = n := by omega
  have HR := Lib.hid hr; clear hr
  have HR' := Lib.hid hr'; clear hr'
  have HB := Lib.hid hb; clear hb
  go_enter Try.func60, Try.ntmps60
  go_wp2
  go_loopw [5] (fun i wr => ∃ k : Nat, k ≤ n' ∧ i = .int .i64 k ∧ Grew w wr) (fun i _ => n' - (intOf i).toNat)
  case atStart => exact ⟨0, Nat.zero_le _, rfl, Below.refl _ _⟩
  case round =>
    obtain ⟨k, hk, rfl, hg⟩ := hrel
    by_cases hlt : k < n'
    · obtain ⟨b, off, l, la, lc, rfl, hx, hc, hrd, h1, h2⟩ := rdLL_at (RdL.grew stays_ints HR.out hg) hlt
      obtain ⟨b', off', l', la', lc', rfl, hx', hc', hrd', h1', h2'⟩ := rdLL_at (RdL.grew stays_ints HR'.out hg) hlt
      rw [hx] at hx'
      obtain rfl := Option.some.inj hx'
      have hl9 := HB.out l (List.mem_of_getElem? hx)
      have HC := Lib.hid (fun W (g : Grew wr W) => owIntsE la l.length lc la' l.length lc' l W (hrd.grew g) (hrd'.grew g) hl9)
      have HG := Lib.hid hg
      clear hx hx' hrd hrd' hg
      have lb := World.block_lt_of_cell? wr _ hc
      have lb' := World.block_lt_of_cell? wr _ hc'
      simp only at lb lb'
      go_wp2_with fail
      first | refine wp_region_ext2 (by kernel_rfl) (by kernel_rfl) ?_ | refine wp_region_ext (by kernel_rfl) (by kernel_rfl) ?_
      repeat (go_big_quiet_step ((first | (with_reducible exact ext_grow (HC.out _ (by repeat (first | with_reducible exact Below.refl _ _ | with_reducible assumption | with_reducible apply grew_ext | with_reducible apply grew_al | with_reducible apply grew_dn | with_reducible apply grew_d | (with_reducible refine grew_set ?_ (by first | omega | (repeat (first | with_reducible exact Nat.le_refl _ | with_reducible apply le_pl | with_reducible apply le_ext | with_reducible apply le_al))) _))))))))
      refine wpQuiet_nil ?_
      intro _ hw'
      obtain ⟨y, hw''⟩ := hw'
      subst hw''
      have HG2 := Lib.hid (show Grew w (ext wr y) from grew_tr HG.out (by repeat (first | with_reducible exact Below.refl _ _ | with_reducible assumption | with_reducible apply grew_ext | with_reducible apply grew_al | with_reducible apply grew_dn | with_reducible apply grew_d | (with_reducible refine grew_set ?_ (by first | omega | (repeat (first | with_reducible exact Nat.le_refl _ | with_reducible apply le_pl | with_reducible apply le_ext | with_reducible apply le_al))) _))))
      clear hc hc'
      go_wp2
      go_roundw
      case rel => exact ⟨k + 1, by omega, by go_num, HG2.out⟩
      case measure => simp [intOf]; omega
    · have HG := Lib.hid hg
      go_wp2
      go_ret
      exact ⟨rfl, HG.out⟩
end Go.Proofs.Ytnjoofpllhbccaa

/- The parts of a graph: heads rise, each is the part of its head, together they are what can be come to. No condition. -/
namespace Go.Proofs.Ytnjoofpllhbccaa
set_option linter.unusedVariables false

variable {c : Int → List Int} {n : Nat} (hc : ∀ k x, x ∈ c k → 0 ≤ x ∧ x < n) (hn : 0 < n)
include hc hn
theorem parts_cons {k : Nat} (hk : k < (partsL c n).length) : ∃ t, (partsL c n).getD k [] = (headsL c n).getD k 0 :: t := by
  obtain ⟨_, a2, a3⟩ := heads_rch hc hn (heads_get hk)
  obtain ⟨h, t, hp, _, hf⟩ := part_head hc a2
  exact ⟨t, by rw [parts_get c n hk, hp, hf.1 a3]⟩
theorem heads_lt {i j : Nat} (hij : i < j) (hj : j < (partsL c n).length) : (headsL c n).getD i 0 < (headsL c n).getD j 0 := by
  have hs : Srt (headsL c n) := (reachL_spec hc (a := 0) ⟨by omega, by omega⟩).1.filter _
  have lj : j < (headsL c n).length := by rw [← parts_len]; exact hj
  have li : i < (headsL c n).length := by omega
  rw [List.getD_eq_getElem?_getD, List.getD_eq_getElem?_getD, List.getElem?_eq_getElem li, List.getElem?_eq_getElem lj]
  exact List.pairwise_iff_getElem.1 hs i j li lj hij
theorem parts_srt {l : List Int} (hl : l ∈ partsL c n) : Srt l := by
  obtain ⟨k, hk, rfl⟩ := List.getElem_of_mem hl
  have h := parts_get c n hk
  rw [List.getD_eq_getElem?_getD, List.getElem?_eq_getElem hk, Option.getD_some] at h
  rw [h]
  exact part_srt hc (heads_rch hc hn (heads_get hk)).2.1
theorem parts_flat_nodup : (partsL c n).flatten.Nodup := by
  rw [List.Nodup, List.pairwise_flatten]
  refine ⟨fun l hl => srt_nodup (parts_srt hc hn hl), ?_⟩
  rw [List.pairwise_iff_getElem]
  intro i j hi hj hij x h1 y h2 hxy
  subst hxy
  have e := parts_one hc hn hi hj (x := x) (by rw [List.getD_eq_getElem?_getD, List.getElem?_eq_getElem hi]; exact h1) (by rw [List.getD_eq_getElem?_getD, List.getElem?_eq_getElem hj]; exact h2)
  omega
theorem parts_flat_mem (x : Int) : x ∈ (partsL c n).flatten ↔ x ∈ reachL c n 0 := by
  have hr := reachL_spec hc (a := 0) ⟨by omega, by omega⟩
  rw [List.mem_flatten, hr.2]
  constructor
  · rintro ⟨l, hl, hx⟩
    obtain ⟨k, hk, rfl⟩ := List.getElem_of_mem hl
    have h := (parts_mem hc hn hk x).1 (by rw [List.getD_eq_getElem?_getD, List.getElem?_eq_getElem hk]; exact hx)
    exact (heads_rch hc hn (heads_get hk)).1.trans h.1
  · intro hx
    have hxb := rch_bd hc ⟨by omega, by omega⟩ hx
    obtain ⟨h, t, hp, hle, hf⟩ := part_head hc hxb
    have hh : h ∈ partL c n x := by rw [hp]; simp
    have hrh := (part_mem hc hxb h).1 hh
    have hhb := rch_bd hc hxb hrh.1
    have hpe := part_eq hc hxb hh
    refine ⟨partL c n h, ?_, by rw [hpe]; exact part_self hc hxb⟩
    unfold partsL partsP
    refine List.mem_map.2 ⟨h, List.mem_filter.2 ⟨(hr.2 h).2 (hx.trans hrh.1), ?_⟩, rfl⟩
    unfold firstB
    rw [hpe, hp]
    simp
theorem parts_sum : ((partsL c n).map List.length).sum = (reachL c n 0).length := by
  have hr := reachL_spec hc (a := 0) ⟨by omega, by omega⟩
  rw [← List.length_flatten]
  have h1 := nodup_sub _ _ (parts_flat_nodup hc hn) (fun x hx => (parts_flat_mem hc hn x).1 hx)
  have h2 := nodup_sub _ _ (srt_nodup hr.1) (fun x hx => (parts_flat_mem hc hn x).2 hx)
  omega
end Go.Proofs.Ytnjoofpllhbccaa

/- Rows of rows as results of a law: below a bound, compared, marked, held. No condition. -/
namespace Go.Proofs.Ytnjoofpllhbccaa
open Go.RowKit
set_option linter.unusedVariables false
set_option linter.unusedSimpArgs false

/-- Such a row whose blocks all lie below N. -/
structure OwnLN (w : World) (B N : Nat) (v : Value) (ms : List (List Int × Value)) : Prop where
  o : OwnLL w B v ms
  t : ∀ b, v.ownBlock = some b → b < N
  r : ∀ m, m ∈ ms → ∀ b, m.2.ownBlock = some b → b < N
section
variable {w w' : World} {B N : Nat} {v : Value} {ms : List (List Int × Value)}
theorem OwnLN.of (h : OwnLL w B v ms) : OwnLN w B w.heap.size v ms := ⟨h, fun b e => (h.row.lt b e).2, fun m hm b e => ((h.each m hm).lt b e).2⟩
theorem OwnLN.chg {F : Nat → Prop} (h : OwnLN w B N v ms) (c : Chg F w w') (hF : ∀ b, B ≤ b → b < N → ¬ F b) : OwnLN w' B N v ms :=
  ⟨⟨owns_chg h.o.row c (fun b hb => hF b (h.o.row.lt b hb).1 (h.t b hb)), fun m hm => owns_chg (h.o.each m hm) c (fun b hb => hF b ((h.o.each m hm).lt b hb).1 (h.r m hm b hb)), h.o.apart⟩, h.t, h.r⟩
theorem OwnLN.grew (h : OwnLN w B N v ms) (g : Grew w w') : OwnLN w' B N v ms := h.chg (Chg.of_below (F := fun _ => False) g) (fun _ _ _ e => e)
theorem OwnLN.rd {a : Option Addr} {c : Nat} {S : List (List Int)} (h : OwnLN w B N (.slice a S.length c) ms) (hm : ms.map (·.1) = S) : RdLL w a S.length S := by
  have := h.o.rd (ll_len hm)
  rwa [hm] at this
theorem ll_bd {S : List (List Int)} (hm : ms.map (·.1) = S) (hb : ∀ l, l ∈ S → l.length ≤ 4) : ∀ m, m ∈ ms → m.1.length ≤ 1000 := fun m h => by
  have := hb m.1 (by rw [← hm]; exact List.mem_map_of_mem h)
  omega
end
theorem rdLL_grew {w w' : World} {a : Option Addr} {n : Nat} {S : List (List Int)} (h : RdLL w a n S) (g : Grew w w') : RdLL w' a n S := RdL.grew stays_ints h g
theorem grfParts_bd (ps : List Prc) : (grfParts ps).length ≤ 4 ∧ ∀ l, l ∈ grfParts ps → l.length ≤ 4 := by
  cases hB : prgOkB ps
  · simp [grfParts, hB]
  · rw [grfParts, if_pos hB]
    exact ptOf_bd hB
end Go.Proofs.Ytnjoofpllhbccaa

/- What the parts of a program's graph are. No condition. -/
namespace Go.Proofs.Ytnjoofpllhbccaa
open Go.RowKit
set_option linter.unusedVariables false
set_option linter.unusedSimpArgs false

theorem prt_eq {ps : List Prc} (hB : prgOkB ps = true) : grfParts ps = partsL (cOf' (csOf ps)) (csOf ps).length := by
  rw [grfParts, if_pos hB, ptOf, csOf_len]
theorem prt_pos {ps : List Prc} (hB : prgOkB ps = true) : 0 < (csOf ps).length := by
  rw [csOf_len]; have := prg_len hB; omega
theorem prt_0 {ps : List Prc} (hB : prgOkB ps = true) : thereB ps 0 = true := by
  have := prg_len hB
  simp [thereB, hB]; omega
theorem prt_get {ps : List Prc} {k : Nat} {l : List Int} (hk : (grfParts ps)[k]? = some l) : k < (grfParts ps).length ∧ (grfParts ps).getD k [] = l := by
  obtain ⟨h1, h2⟩ := List.getElem?_eq_some_iff.1 hk
  exact ⟨h1, by rw [List.getD_eq_getElem?_getD, hk]; rfl⟩
/-- A part begins with its head, and is the part of that. -/
theorem prt_at {ps : List Prc} (hB : prgOkB ps = true) {k : Nat} {l : List Int} (hk : (grfParts ps)[k]? = some l) : ∃ t, l = (headsL (cOf' (csOf ps)) (csOf ps).length).getD k 0 :: t ∧ grfPart ps ((headsL (cOf' (csOf ps)) (csOf ps).length).getD k 0) = l := by
  obtain ⟨h1, h2⟩ := prt_get hk
  rw [prt_eq hB] at h1 h2
  have hc := gok_of hB
  obtain ⟨t, ht⟩ := parts_cons hc (prt_pos hB) h1
  have hb := (heads_rch hc (prt_pos hB) (heads_get h1)).2.1
  refine ⟨t, by rw [← h2, ht], ?_⟩
  have hth : thereB ps ((headsL (cOf' (csOf ps)) (csOf ps).length).getD k 0) = true := by
    have h3 := hb.2
    have e3 := csOf_len ps
    simp only [thereB, hB, Bool.true_and, Bool.and_eq_true, decide_eq_true_eq]
    exact ⟨hb.1, by rw [e3] at h3; rw [← e3]; rw [e3]; exact h3⟩
  rw [grfPart, if_pos hth, ← h2, parts_get _ _ h1]
theorem prt_lt {ps : List Prc} (hB : prgOkB ps = true) {k : Nat} {l : List Int} (hk : (grfParts ps)[k + 1]? = some l) : (headsL (cOf' (csOf ps)) (csOf ps).length).getD k 0 < (headsL (cOf' (csOf ps)) (csOf ps).length).getD (k + 1) 0 := by
  obtain ⟨h1, h2⟩ := prt_get hk
  rw [prt_eq hB] at h1
  exact heads_lt (gok_of hB) (prt_pos hB) (by omega) h1
theorem prt_sum {ps : List Prc} (hB : prgOkB ps = true) : ((grfParts ps).map List.length).sum = (grfReach ps 0).length := by
  rw [prt_eq hB, grfReach, if_pos (prt_0 hB)]
  exact parts_sum (gok_of hB) (prt_pos hB)
theorem prt_of {ps : List Prc} (hB : prgOkB ps = true) {x : Int} (hx : x ∈ grfReach ps 0) : ¬ ofL (grfParts ps) x < 0 := by
  rw [grfReach, if_pos (prt_0 hB)] at hx
  obtain ⟨q, hq, hxq⟩ := parts_cover (gok_of hB) (prt_pos hB) hx
  obtain ⟨o, ho, rfl⟩ := List.mem_iff_getElem.1 hq
  rw [prt_eq hB, ofL_spec (gok_of hB) (prt_pos hB) ho (by rw [List.getD_eq_getElem?_getD, List.getElem?_eq_getElem ho]; exact hxq)]
  omega
theorem prt_no {ps : List Prc} (hB : prgOkB ps = false) : grfParts ps = [] := by rw [grfParts, hB]; rfl
/-- How many procedures the first k parts have. -/
def sumK (L : List (List Int)) (k : Nat) : Nat := ((L.take k).map List.length).sum
theorem sumK_0 (L : List (List Int)) : sumK L 0 = 0 := by simp [sumK]
theorem sumK_succ {L : List (List Int)} {k : Nat} {l : List Int} (h : L[k]? = some l) : sumK L (k + 1) = sumK L k + l.length := by
  simp [sumK, List.take_add_one, h]
theorem sumK_all (L : List (List Int)) {k : Nat} (h : L.length ≤ k) : sumK L k = (L.map List.length).sum := by
  rw [sumK, List.take_of_length_le h]
theorem sumK_le (L : List (List Int)) (hb : ∀ l, l ∈ L → l.length ≤ 4) : ∀ k, sumK L k ≤ 4 * k
  | 0 => by simp [sumK_0]
  | k + 1 => by
    have ih := sumK_le L hb k
    cases h : L[k]? with
    | none => 
      have := List.getElem?_eq_none_iff.1 h
      rw [sumK, List.take_of_length_le (by omega), ← sumK_all L this]
      omega
    | some l =>
      have := hb l (List.mem_of_getElem? h)
      rw [sumK_succ h]
      omega
end Go.Proofs.Ytnjoofpllhbccaa
