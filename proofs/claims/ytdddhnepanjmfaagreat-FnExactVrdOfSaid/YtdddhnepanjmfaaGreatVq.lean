/- Lemmas and walks of this proof, some texts one behind the other. No condition. -/
import Derived.Test.YtdddhnepanjmfaaGreatGs2
import Derived.Test.YtdddhnepanjmfaaGreatReadS
import Derived.Test.YtdddhnepanjmfaaGreatGs
set_option linter.unusedSimpArgs false
set_option linter.unusedVariables false
/- The call graph, the reference's side: a procedure's part; the three questions of one procedure. No condition. -/
namespace Go.Proofs.YtdddhnepanjmfaaGreat
open Go.RowKit
set_option linter.unusedVariables false
set_option linter.unusedSimpArgs false
attribute [local go_sem] ext_cell ext_frozen ext_lt ext_le ext_le1 lt_s2 lt_s3 lt_s4 lt_s5 lt_s6 ext_lt1 ext_lt2 ext_lt3

theorem reach_pl {cs : List (List Int)} (h : Gok cs) {a : Int} (ha : 0 ≤ a ∧ a < cs.length) : Pl cs.length (reachL (cOf' cs) cs.length a) := by
  obtain ⟨h1, h2⟩ := reachL_spec h ha
  exact ⟨h1, fun x hx => rch_bd h ha ((h2 x).1 hx)⟩
theorem part_pl {cs : List (List Int)} (h : Gok cs) {a : Int} (ha : 0 ≤ a ∧ a < cs.length) : Pl cs.length (partL (cOf' cs) cs.length a) :=
  ⟨part_srt h ha, fun x hx => rch_bd h ha ((part_mem h ha x).1 hx).1⟩

set_option maxRecDepth 100000 in
set_option maxHeartbeats 4000000 in
theorem l6Part (a : Option Addr) (n cap : Nat) (ps : List Prc) (proc : Int) (w : World) (hr : RdP w a n ps) (hn : n ≤ 9223372036854775807) (hB : prgOkB ps = true) (hp : 0 ≤ proc ∧ proc < n) :
    Calls Tryz.prog 41 #[.agg #[.slice a n cap], .int .i64 proc] w (RetIs (partL (cOf' (csOf ps)) (csOf ps).length proc) w) := by
  have hl := hr.len
  have hN : (csOf ps).length = n := by rw [csOf_len, hl]
  have hok := gok_of hB
  have hn4 := (prg_len hB).2
  rw [hl] at hn4
  have HC := Lib.hid (fun (proc : Int) (hp : 0 ≤ proc ∧ proc < n) W (g : Grew w W) => l6Reach a n cap ps proc W (hr.grew g) hn hB hp)
  have HPL := Lib.hid (fun (x : Int) (hx : 0 ≤ x ∧ x < n) => reach_pl hok (a := x) (by rw [hN]; exact hx))
  obtain ⟨r, hrr⟩ : ∃ r, reachL (cOf' (csOf ps)) (csOf ps).length = r := ⟨_, rfl⟩
  have hP : partL (cOf' (csOf ps)) (csOf ps).length proc = (r proc).filter (fun o => decide (proc ∈ r o)) := by rw [partL, hrr]
  rw [hP]
  rw [hrr, hN] at HPL
  have HC2 : Hid (∀ (proc : Int), 0 ≤ proc ∧ proc < (n : Int) → ∀ W, Grew w W → Calls Tryz.prog 40 #[.agg #[.slice a n cap], .int .i64 proc] W (RetIs (r proc) W)) := Lib.hid (by have := HC.out; rwa [hrr] at this)
  have H0 := Lib.hid (show ((w.alloc (.cells #[.slice a n cap] 34)).alloc (.cells #[] 3)).ownsRow w.heap.size 3 1 (.slice (some ⟨w.heap.size + 1, 0, none⟩) 0 0) 0 (ints .i64 []) from by
    simpa [ints] using World.ownsRow_lit (w.alloc (.cells #[.slice a n cap] 34)) (e := 3) (size := 1) #[] 0 (base := w.heap.size) (by simp) (Nat.zero_le _) rfl)
  have HLP := Lib.hid (HPL.out proc hp)
  clear HC hr hl hN hok hB hrr hP
  go_enter Tryz.func41, Tryz.ntmps41
  go_wp2_with fail
  refine (HC2.out proc hp _ (gr)).mono ?_
  rintro e w1 ⟨A, c, rfl, o1, g1⟩
  have hb1 : w1.cell? ⟨w.heap.size, 0, none⟩ = some (.slice a n cap) := (g1.cell (p := ⟨w.heap.size, 0, none⟩) (by simp; omega)).trans (by simp [go_sem])
  have O1 := Lib.hid (owns_grew H0.out g1)
  have G1 := Lib.hid (show Grew w w1 from grew_tr (grew_al (grew_al (Below.refl _ _) _) _) g1)
  obtain ⟨L, hL⟩ : ∃ L, r proc = L := ⟨_, rfl⟩
  rw [hL] at o1 HLP
  rw [hL]
  have HLQ := Lib.hid hL
  have HRO := Lib.hid (show w1.ownsRow (w.heap.size + 1 + 1) 3 1 (.slice A L.length c) L.length (ints .i64 L) from owns_mono o1 (by simp))
  have hLl := HLP.out.len
  have hL9 : L.length ≤ 9223372036854775807 := by omega
  have lb1 : w.heap.size + 1 < w1.heap.size := Nat.lt_of_lt_of_le (by simp) g1.size
  have HB1 := Lib.hid hb1
  clear hL o1 g1 H0 hb1
  go_wp2
  go_loopw [5, 7] (fun v i wr => ∃ k : Nat, k ≤ L.length ∧ i = .int .i64 k ∧ Chg (fun b => b = w.heap.size + 1) w1 wr ∧ (∀ b, v.ownBlock = some b → b = w.heap.size + 1 ∨ w1.heap.size ≤ b) ∧ wr.ownsRow w.heap.size 3 1 v ((L.take k).filter fun o => decide (proc ∈ r o)).length (ints .i64 ((L.take k).filter fun o => decide (proc ∈ r o)))) (fun _ i _ => L.length - (Go.RowKit.intOf i).toNat)
  case atStart => exact ⟨0, Nat.zero_le _, rfl, Chg.refl _ _, fun b hb => .inl (by simp only [Value.ownBlock, Option.some.injEq] at hb; omega), O1.out⟩
  case round =>
    clear O1
    obtain ⟨k, hk, rfl, hc, hv, ho⟩ := hrel
    obtain ⟨oa, oc, rfl⟩ := owns_slice ho
    have hfl : ((L.take k).filter fun o => decide (proc ∈ r o)).length ≤ n := Nat.le_trans (List.length_filter_le _ _) (Nat.le_trans (List.length_take_le' _ _) hLl)
    have hb0 : wr.cell? ⟨w.heap.size, 0, none⟩ = some (.slice a n cap) := (World.cell?_of_block (w := w1) (w' := wr) (a := ⟨w.heap.size, 0, none⟩) (hc.block w.heap.size (by omega) (by omega))).trans HB1.out
    have gw : Grew w wr := G1.out.trans ⟨hc.os, hc.tape, hc.output, hc.size, fun k hk => hc.block k (by omega) (by omega)⟩
    by_cases hlt : k < L.length
    · have hro := owns_chg HRO.out hc (fun b hb e => by have := (HRO.out.lt b hb).1; omega)
      obtain ⟨b, off, x, rfl, hx, hcell⟩ := (owns_rd hro).at1 hlt
      have hxb := HLP.out.b x (List.mem_of_getElem? hx)
      have HPX := Lib.hid (HPL.out x hxb)
      have C := Lib.hid (HC2.out x hxb)
      have hft : Hid ((L.take (k + 1)).filter (fun o => decide (proc ∈ r o)) = (L.take k).filter (fun o => decide (proc ∈ r o)) ++ if proc ∈ r x then [x] else []) := Lib.hid (by
        rw [take_get hx, List.filter_append]
        congr 1
        by_cases h : proc ∈ r x <;> simp [h])
      obtain ⟨X, hX⟩ : ∃ X, r x = X := ⟨_, rfl⟩
      rw [hX] at HPX C hft
      have hXl := HPX.out.len
      have HSG : Hid (∀ W, Grew wr W → W.cell? ⟨w.heap.size, 0, none⟩ = some (.slice a n cap) ∧ W.cell? ⟨b, off + k, none⟩ = some (.int .i64 x)) := Lib.hid (fun W g => ⟨(g.cell (p := ⟨w.heap.size, 0, none⟩) (World.block_lt_of_cell? wr _ hb0)).trans hb0, (g.cell (p := ⟨b, off + k, none⟩) (World.block_lt_of_cell? wr _ hcell)).trans hcell⟩)
      have HG := Lib.hid gw
      have HCH := Lib.hid hc
      have HV := Lib.hid hv
      have HO := Lib.hid ho
      clear hX hro hx gw hc hv ho
      cases hin : decide (proc ∈ X)
      · have HIN := Lib.hid hin
        have HF := hft.out
        rw [if_neg (of_decide_eq_false hin), List.append_nil] at HF
        have HF := Lib.hid HF
        clear hin hft
        go_wp2_with fail
        go_region_held3 (fun W => W.cell? ⟨w.heap.size, 0, none⟩ = some (.slice a n cap) ∧ W.cell? ⟨b, off + k, none⟩ = some (.int .i64 x)) (with_reducible (first | assumption | exact HSG.out _ (grew_d (Below.refl _ _))))
          (first
          | (go_at_call 40; (with_reducible refine (C.out _ (grew_tr HG.out (grew_d (Below.refl _ _)))).mono ?_); rintro e w5 ⟨A5, c5, rfl, o5, g5⟩; have t5 := HSG.out _ (grew_tr (grew_d (Below.refl _ _)) g5); have R5 := Lib.hid (owns_rd o5); have G5 := Lib.hid (grew_tr (grew_d (Below.refl _ _)) g5); clear o5 g5)
          | (go_at_call 73; refine (l6Has A5 X.length c5 X proc w5 R5.out (by omega)).mono ?_; rintro e w6 ⟨rfl, rfl⟩; rw [HIN.out]))
        have HO5 := Lib.hid (owns_grew HO.out G5.out)
        have HC5 := Lib.hid (HCH.out.trans (Chg.of_below (F := fun b => b = w.heap.size + 1) G5.out) (fun _ _ e => e) (fun _ _ e => e))
        clear t5 HSG hb0 hcell
        go_wp2
        go_roundw
        case rel => exact ⟨k + 1, by omega, by go_num, HC5.out, HV.out, by rw [HF.out]; exact HO5.out⟩
        case measure => simp [Go.RowKit.intOf]; omega
      · have HIN := Lib.hid hin
        have HF := hft.out
        rw [if_pos (of_decide_eq_true hin)] at HF
        have HF := Lib.hid HF
        clear hin hft
        go_wp2_with fail
        go_region_held3 (fun W => W.cell? ⟨w.heap.size, 0, none⟩ = some (.slice a n cap) ∧ W.cell? ⟨b, off + k, none⟩ = some (.int .i64 x)) (with_reducible (first | assumption | exact HSG.out _ (grew_d (Below.refl _ _))))
          (first
          | (go_at_call 40; (with_reducible refine (C.out _ (grew_tr HG.out (grew_d (Below.refl _ _)))).mono ?_); rintro e w5 ⟨A5, c5, rfl, o5, g5⟩; have t5 := HSG.out _ (grew_tr (grew_d (Below.refl _ _)) g5); have R5 := Lib.hid (owns_rd o5); have G5 := Lib.hid (grew_tr (grew_d (Below.refl _ _)) g5); clear o5 g5)
          | (go_at_call 73; refine (l6Has A5 X.length c5 X proc w5 R5.out (by omega)).mono ?_; rintro e w6 ⟨rfl, rfl⟩; rw [HIN.out]))
        have ho5 := owns_grew HO.out G5.out
        obtain ⟨v7, w7, hr7, o7, g7, hv7⟩ := owns_append_lit (P := Tryz.prog) w5 intEl ho5 1 [.int .i64 x] rfl (by simp [Value.oneCell']) (by omega) (by omega) (Nat.le_trans HG.out.size G5.out.size)
        have c7 := Chg.of_grownBy g7
        have HC7 := Lib.hid (show Chg (fun b => b = w.heap.size + 1) w1 w7 from (HCH.out.trans (Chg.of_below (F := fun b => b = w.heap.size + 1) G5.out) (fun _ _ e => e) (fun _ _ e => e)).trans c7 (fun _ _ e => e) (fun i hi e => by rcases HV.out i e with h | h <;> omega))
        have HV7 := Lib.hid (show ∀ b, v7.ownBlock = some b → b = w.heap.size + 1 ∨ w1.heap.size ≤ b from fun b hb => by
          rcases hv7 with h | h
          · exact HV.out b (by rw [← h]; exact hb)
          · rw [h, Option.some.injEq] at hb
            have h1 := HCH.out.size
            have h2 := G5.out.size
            omega)
        obtain ⟨a7, c7', rfl⟩ := owns_slice o7
        have HO7 := Lib.hid o7
        have R7 := Lib.hid hr7
        have q5 := t5.2
        clear t5 HSG hb0 hcell o7 g7 hr7 hv7 c7 ho5
        go_wp2_with (at_builtin; refine wpList_append_run rfl _ _ rfl rfl rfl rfl R7.out ?_)
        go_roundw
        case rel => exact ⟨k + 1, by omega, by go_num, HC7.out, HV7.out, by rw [HF.out, ints_append, List.length_append]; exact HO7.out⟩
        case measure => simp [Go.RowKit.intOf]; omega
    · obtain rfl : k = L.length := by omega
      rw [List.take_length] at ho ⊢
      have HO := Lib.hid ho
      have HG := Lib.hid gw
      clear ho gw hc hv hb0
      go_wp2
      go_ret
      rw [HLQ.out]
      exact ⟨oa, oc, rfl, HO.out, HG.out⟩
end Go.Proofs.YtdddhnepanjmfaaGreat

/- Rows of rows of numbers as answers: compared, marked, held. No condition. -/
namespace Go.Proofs.YtdddhnepanjmfaaGreat
open Go.RowKit
set_option linter.unusedVariables false
set_option linter.unusedSimpArgs false
attribute [local go_sem] ext_cell ext_frozen ext_lt ext_le ext_le1 lt_s2 lt_s3 lt_s4 lt_s5 lt_s6 ext_lt1 ext_lt2 ext_lt3

/-- The answer: a row of rows of the call's own. -/
def RetLL (ls : List (List Int)) (w : World) (e : Ending) (w' : World) : Prop := ∃ a c ms, e = .returned (.slice a ls.length c) ∧ OwnLL w' w.heap.size (.slice a ls.length c) ms ∧ ms.map (·.1) = ls ∧ Grew w w'
theorem ll_len {ms : List (List Int × Value)} {ls : List (List Int)} (h : ms.map (·.1) = ls) : ms.length = ls.length := by rw [← h]; simp

/-- Row k of them. -/
theorem OwnLL.at_ {w : World} {B n c : Nat} {a : Option Addr} {ms : List (List Int × Value)} (h : OwnLL w B (.slice a n c) ms) {k : Nat} {m : List Int × Value} (hm : ms[k]? = some m) : ∃ b off la lc, a = some ⟨b, off, none⟩ ∧ m.2 = .slice la m.1.length lc ∧ w.cell? ⟨b, off + k, none⟩ = some (.slice la m.1.length lc) ∧ w.ownsRow B 3 1 (.slice la m.1.length lc) m.1.length (ints .i64 m.1) := by
  obtain ⟨A, cc, e⟩ := owns_slice h.row
  simp only [Value.slice.injEq] at e
  obtain ⟨rfl, rfl, rfl⟩ := e
  have hr := owns_rd h.row
  have ho := h.each m (List.mem_of_getElem? hm)
  obtain ⟨la, lc, hv⟩ := owns_slice ho
  rcases hr.2 with e | ⟨b, off, rfl, hc⟩
  · have h1 := congrArg List.length e
    have h2 := (List.getElem?_eq_some_iff.1 hm).1
    simp only [List.length_map, List.length_nil] at h1
    omega
  · have h9 : w.cell? ⟨b, off + k, none⟩ = some m.2 := hc k _ (by rw [List.getElem?_map, hm]; rfl)
    rw [hv] at h9 ho
    exact ⟨b, off, la, lc, rfl, hv, h9, ho⟩
/-- Row k is written anew. -/
theorem OwnLL.turn {w w' : World} {B : Nat} {v : Value} {xs ys : List (List Int × Value)} {m : List Int × Value} {l : List Int} (h : OwnLL w B v (xs ++ m :: ys)) (hl : l.length = m.1.length)
    (ho : w'.ownsRow B 3 1 m.2 m.1.length (ints .i64 l)) (c : Chg (fun b => m.2.ownBlock = some b) w w') : OwnLL w' B v (xs ++ (l, m.2) :: ys) := by
  have hm := h.each m (by simp)
  obtain ⟨p1, p2, p3⟩ := List.pairwise_append.1 h.apart
  obtain ⟨p4, p5⟩ := List.pairwise_cons.1 p2
  have hlen : (xs ++ (l, m.2) :: ys).length = (xs ++ m :: ys).length := by simp
  refine ⟨?_, fun u hu => ?_, ?_⟩
  · rw [hlen, show (xs ++ (l, m.2) :: ys).map (·.2) = (xs ++ m :: ys).map (·.2) from by simp]
    exact owns_chg h.row c (fun b e1 e2 => row_row_ne hm h.row (by decide) e2 e1)
  · rcases List.mem_append.1 hu with hx | hx
    · exact owns_chg (h.each u (by simp [hx])) c (fun b e1 e2 => p3 u hx m (by simp) b e1 e2)
    · rcases List.mem_cons.1 hx with rfl | hx
      · simp only [hl]
        exact ho
      · exact owns_chg (h.each u (by simp [hx])) c (fun b e1 e2 => p4 u hx b e2 e1)
  · refine List.pairwise_append.2 ⟨p1, List.pairwise_cons.2 ⟨fun u hu b e1 e2 => p4 u hu b e1 e2, p5⟩, fun u hu u' hu' b e1 e2 => ?_⟩
    rcases List.mem_cons.1 hu' with rfl | hu'
    · exact p3 u hu m (by simp) b e1 e2
    · exact p3 u hu u' (by simp [hu']) b e1 e2

/-! GrfParts. -/
def grfParts (ps : List Prc) : List (List Int) := if prgOkB ps then ptOf ps else []
theorem ptOf_bd {ps : List Prc} (hB : prgOkB ps = true) : (ptOf ps).length ≤ 4 ∧ ∀ l, l ∈ ptOf ps → l.length ≤ 4 := by
  have h4 := (prg_len hB).2
  have h1 := (prg_len hB).1
  have hok := gok_of hB
  have hp := reach_pl hok (a := 0) (by rw [csOf_len]; omega)
  have hr := hp.len
  rw [csOf_len] at hr
  constructor
  · simp only [ptOf, partsL, partsP, List.length_map]
    rw [← csOf_len ps]
    have := List.length_filter_le (firstB (cOf' (csOf ps)) (csOf ps).length) (reachL (cOf' (csOf ps)) (csOf ps).length 0)
    rw [csOf_len] at this ⊢
    omega
  · intro l hl
    simp only [ptOf, partsL, partsP, List.mem_map] at hl
    obtain ⟨x, hx, rfl⟩ := hl
    rw [← csOf_len ps] at hx ⊢
    have := (part_pl hok (hp.b x (List.mem_filter.1 hx).1)).len
    rw [csOf_len] at this ⊢
    omega
end Go.Proofs.YtdddhnepanjmfaaGreat

/- The verdict of certificates: facts on components, plain. No condition. -/
namespace Go.Proofs.YtdddhnepanjmfaaGreat
open Go.RowKit
set_option linter.unusedVariables false
set_option linter.unusedSimpArgs false

structure PtF (ps : List Prc) (l : List Int) : Prop where
  s : Srt l
  b : ∀ x, x ∈ l → 0 ≤ x ∧ x < ps.length
  n1 : 1 ≤ l.length
  n4 : l.length ≤ 4
  nd : l.Nodup
theorem ptOf_facts {ps : List Prc} (hB : prgOkB ps = true) {l : List Int} (hl : l ∈ ptOf ps) : PtF ps l := by
  have h1 := (prg_len hB).1
  have hok := gok_of hB
  have hp := reach_pl hok (a := 0) (by rw [csOf_len]; omega)
  have h4 := (ptOf_bd hB).2 l hl
  simp only [ptOf, partsL, partsP, List.mem_map] at hl
  obtain ⟨x, hx, rfl⟩ := hl
  rw [← csOf_len ps] at hx h4 ⊢
  have hx2 := hp.b x (List.mem_filter.1 hx).1
  have hpl := part_pl hok hx2
  have hs := part_self hok hx2
  refine ⟨hpl.s, fun y hy => by rw [← csOf_len ps]; exact hpl.b y hy, List.length_pos_of_mem hs, h4, srt_nodup hpl.s⟩
theorem ptOf_ne {ps : List Prc} (hB : prgOkB ps = true) : ptOf ps ≠ [] := by
  have h1 := (prg_len hB).1
  have hok := gok_of hB
  have h0 : (0 : Int) ∈ reachL (cOf' (csOf ps)) (csOf ps).length 0 := ((reachL_spec hok (a := 0) ⟨by omega, by rw [csOf_len]; omega⟩).2 0).2 Rch.refl
  obtain ⟨q, hq, -⟩ := parts_cover hok (by rw [csOf_len]; omega) h0
  rw [csOf_len] at hq
  exact List.ne_nil_of_mem hq
theorem certF_len {ps : List Prc} (h : prgOkB ps = true) (part : List Int) (ss : List (List St)) : ∀ k, (certF ps part ss k).length ≤ 10 * k
  | 0 => by simp [certF]
  | k + 1 => by
    have := certF_len h part ss k
    rw [certF, List.length_append]
    cases hp : part[k]? with
    | none => simp; omega
    | some p =>
      cases hr : ss[k]? with
      | none => simp; omega
      | some row =>
        simp only
        have := rowF_len ps p row (codeOfP ps p).length
        have := codeOfP_le h p
        omega
theorem alarmsL_len {ps : List Prc} (h : prgOkB ps = true) {part : List Int} (h4 : part.length ≤ 4) (x : Crt) : (alarmsL ps part x).length ≤ 40 := by
  have := certF_len h part x.states part.length
  unfold alarmsL
  omega
/-- The alarms of each. -/
def alS (ps : List Prc) (parts : List (List Int)) (xs : List Crt) : List (List Site) := (parts.zip xs).map fun q => alarmsL ps q.1 q.2
theorem alS_get {ps : List Prc} {parts : List (List Int)} {xs : List Crt} {k : Nat} {A : List Site} (h : (alS ps parts xs)[k]? = some A) : ∃ part x, parts[k]? = some part ∧ xs[k]? = some x ∧ A = alarmsL ps part x := by
  unfold alS at h
  rw [List.getElem?_map, Option.map_eq_some_iff] at h
  obtain ⟨⟨part, x⟩, h1, rfl⟩ := h
  rw [List.getElem?_zip_eq_some] at h1
  exact ⟨part, x, h1.1, h1.2, rfl⟩
theorem alS_flat {ps : List Prc} {parts : List (List Int)} {xs : List Crt} : ∀ k, ((alS ps parts xs).take k).flatten = allF ps parts xs k
  | 0 => rfl
  | k + 1 => by
    cases hA : (alS ps parts xs)[k]? with
    | some A =>
      obtain ⟨part, x, h1, h2, rfl⟩ := alS_get hA
      rw [take_flat hA, allF_succ h1 h2, alS_flat k]
    | none =>
      have hl := List.getElem?_eq_none_iff.1 hA
      have : allF ps parts xs (k + 1) = allF ps parts xs k := by
        rw [allF]
        unfold alS at hl
        rw [List.length_map, List.length_zip] at hl
        cases hp : parts[k]? with
        | none => simp
        | some part =>
          cases hx : xs[k]? with
          | none => simp
          | some x =>
            have := (List.getElem?_eq_some_iff.1 hp).1
            have := (List.getElem?_eq_some_iff.1 hx).1
            omega
      rw [this, ← alS_flat k, List.take_of_length_le (by omega), List.take_of_length_le (by omega)]
theorem alS_all {ps : List Prc} {parts : List (List Int)} {xs : List Crt} (h : xs.length = parts.length) : (alS ps parts xs).flatten = allF ps parts xs xs.length := by
  rw [← alS_flat, List.take_of_length_le]
  simp [alS, h]

/-! ### The verdict, by cases -/
theorem vrdP_no {ps : List Prc} {xs : List Crt} (h : prgOkB ps = false) : vrdP ps xs = (0, []) := by simp [vrdP, h]
theorem vrdP_len {ps : List Prc} {xs : List Crt} (h : xs.length ≠ (ptOf ps).length) : vrdP ps xs = (0, []) := by
  unfold vrdP
  simp only [ptOf] at h ⊢
  simp [h]
theorem vrdP_bad {ps : List Prc} {xs : List Crt} {k : Nat} {part : List Int} {x : Crt} (h1 : (ptOf ps)[k]? = some part) (h2 : xs[k]? = some x) (h : certB ps part x = false) : vrdP ps xs = (0, []) := by
  unfold vrdP
  rw [if_neg]
  intro hc
  simp only [Bool.and_eq_true, List.all_eq_true] at hc
  have := hc.2 (part, x) (List.mem_of_getElem? (by rw [List.getElem?_zip_eq_some]; exact ⟨h1, h2⟩))
  rw [h] at this
  cases this
theorem vrdP_ok {ps : List Prc} {xs : List Crt} (hB : prgOkB ps = true) (hl : xs.length = (ptOf ps).length) (h : ∀ (k : Nat) (part : List Int) (x : Crt), (ptOf ps)[k]? = some part → xs[k]? = some x → certB ps part x = true) :
    vrdP ps xs = if allF ps (ptOf ps) xs xs.length = [] then (2, []) else (3, putsL [] (allF ps (ptOf ps) xs xs.length)) := by
  unfold vrdP
  rw [if_pos]
  simp only [Bool.and_eq_true, List.all_eq_true, decide_eq_true_eq]
  refine ⟨⟨hB, hl⟩, ?_⟩
  rintro ⟨part, x⟩ hm
  obtain ⟨i, hi⟩ := List.getElem?_of_mem hm
  rw [List.getElem?_zip_eq_some] at hi
  exact h i part x hi.1 hi.2
theorem puts_sort (l : List Site) : sortS l = putsL [] l :=
  sorted_unique ((sortS_perm l).trans (by simpa using (putsL_perm l []).symm)) (sortS_sorted l) (putsL_sorted l [] List.Pairwise.nil)
theorem vrdP_ok' {ps : List Prc} {xs : List Crt} (hB : prgOkB ps = true) (hl : xs.length = (ptOf ps).length) (h : ∀ (k : Nat) (part : List Int) (x : Crt), (ptOf ps)[k]? = some part → xs[k]? = some x → certB ps part x = true) :
    vrdP ps xs = (if (alS ps (ptOf ps) xs).flatten = [] then 2 else 3, sortS (alS ps (ptOf ps) xs).flatten) := by
  rw [vrdP_ok hB hl h, alS_all hl]
  split
  · rename_i e
    rw [e, show sortS [] = [] from List.eq_nil_of_length_eq_zero (sortS_len [])]
  · rw [puts_sort]
end Go.Proofs.YtdddhnepanjmfaaGreat
