/- The parts of a program, the reference's side. No condition. -/
import Derived.Test.YtdddhnepanjmfaaGreatVq
namespace Go.Proofs.YtdddhnepanjmfaaGreat
open Go.RowKit
set_option linter.unusedVariables false
set_option linter.unusedSimpArgs false
attribute [local go_sem] ext_cell ext_frozen ext_lt ext_le ext_le1 lt_s2 lt_s3 lt_s4 lt_s5 lt_s6 ext_lt1 ext_lt2 ext_lt3

/-- The loop over what procedure 0 reaches: k of them seen. -/
structure LS (w w2 : World) (c : Int → List Int) (N : Nat) (L : List Int) (k : Nat) (wr : World) (v : Value) (ms : List (List Int × Value)) : Prop where
  hc : Chg (fun b => b = w.heap.size + 1) w2 wr
  hv : ∀ b, v.ownBlock = some b → b = w.heap.size + 1 ∨ w2.heap.size ≤ b
  o : OwnLL wr w.heap.size v ms
  m : ms.map (·.1) = partsP c N (L.take k)
theorem LS.len {w w2 wr : World} {c : Int → List Int} {N k : Nat} {L : List Int} {v : Value} {ms : List (List Int × Value)} (h : LS w w2 c N L k wr v ms) : ms.length ≤ L.length := by
  rw [ll_len h.m]
  simp only [partsP, List.length_map]
  exact Nat.le_trans (List.length_filter_le _ _) (List.length_take_le' _ _)
theorem LS.skip {w w2 wr wr' : World} {c : Int → List Int} {N k : Nat} {L : List Int} {v : Value} {ms : List (List Int × Value)} {x : Int} (h : LS w w2 c N L k wr v ms) (hx : L[k]? = some x) (hf : firstB c N x = false) (g : Grew wr wr') : LS w w2 c N L (k + 1) wr' v ms :=
  ⟨h.hc.trans (Chg.of_below (F := fun b => b = w.heap.size + 1) g) (fun _ _ e => e) (fun _ _ e => e), h.hv, h.o.grew g, by rw [take_get hx, partsP_snoc, hf, h.m]; simp⟩
theorem LS.take {w w2 wr w5 w6 : World} {c : Int → List Int} {N k : Nat} {L : List Int} {v v6 u : Value} {ms : List (List Int × Value)} {x : Int} (h : LS w w2 c N L k wr v ms) (hx : L[k]? = some x) (hf : firstB c N x = true) (g : Grew wr w5) (hw : w.heap.size ≤ wr.heap.size)
    (hu : w5.ownsRow wr.heap.size 3 1 u (partL c N x).length (ints .i64 (partL c N x))) (o6 : w6.ownsRow w.heap.size 54 1 v6 (ms.length + 1) (ms.map (·.2) ++ [u])) (g6 : w5.grownBy w6 v.ownBlock) (h6 : v6.ownBlock = v.ownBlock ∨ v6.ownBlock = some (w5.heap.size + 1)) :
    LS w w2 c N L (k + 1) w6 v6 (ms ++ [(partL c N x, u)]) := by
  have c6 := Chg.of_grownBy g6
  refine ⟨(h.hc.trans (Chg.of_below (F := fun b => b = w.heap.size + 1) g) (fun _ _ e => e) (fun _ _ e => e)).trans c6 (fun _ _ e => e) (fun i hi e => by rcases h.hv i e with h | h <;> omega), fun b hb => ?_, h.o.snoc g hu hw o6 g6, by rw [take_get hx, partsP_snoc, hf, List.map_append, h.m]; simp⟩
  rcases h6 with e | e
  · exact h.hv b (by rw [← e]; exact hb)
  · rw [e, Option.some.injEq] at hb
    have h1 := h.hc.size
    have h2 := g.size
    omega

set_option maxRecDepth 100000 in
set_option maxHeartbeats 4000000 in
theorem specGrfParts (a : Option Addr) (n cap : Nat) (ps : List Prc) (w : World) (hr : RdP w a n ps) (hn : n ≤ 9223372036854775807) :
    Calls Tryz.prog 19 #[.agg #[.slice a n cap]] w (RetLL (grfParts ps) w) := by
  have hl := hr.len
  have C := fun W (g : Grew w W) => specPrgOk a n cap ps W (hr.grew g) hn
  have H0 := Lib.hid (show OwnLL ((w.alloc (.cells #[.slice a n cap] 34)).alloc (.cells #[] 54)) w.heap.size (.slice (some ⟨w.heap.size + 1, 0, none⟩) 0 0) [] from
    ⟨by simpa using World.ownsRow_lit (w.alloc (.cells #[.slice a n cap] 34)) (e := 54) (size := 1) #[] 0 (base := w.heap.size) (by simp) (Nat.zero_le _) rfl, fun m hm => (by cases hm), List.Pairwise.nil⟩)
  cases hB : prgOkB ps
  · rw [hB] at C
    have HC := Lib.hid C; clear C
    have HE := Lib.hid (show grfParts ps = [] from by simp [grfParts, hB])
    clear hB hr hl
    go_enter Tryz.func19, Tryz.ntmps19
    go_wp2_with fail
    refine (HC.out _ (gr)).mono ?_
    rintro e w1 ⟨rfl, g1⟩
    have O1 := Lib.hid (H0.out.grew g1)
    have G1 := Lib.hid (show Grew w w1 from grew_tr (grew_al (grew_al (Below.refl _ _) _) _) g1)
    clear g1
    go_wp2
    go_ret
    rw [HE.out]
    exact ⟨_, _, [], rfl, O1.out, rfl, G1.out⟩
  · rw [hB] at C
    have HC := Lib.hid C; clear C
    have HE := Lib.hid (show grfParts ps = partsP (cOf' (csOf ps)) (csOf ps).length (reachL (cOf' (csOf ps)) (csOf ps).length 0) from by rw [grfParts, if_pos hB, ptOf, partsL, csOf_len])
    have hN : (csOf ps).length = n := by rw [csOf_len, hl]
    have hok := gok_of hB
    have hn4 := prg_len hB
    rw [hl] at hn4
    have HD := Lib.hid (fun W (g : Grew w W) => l6Reach a n cap ps 0 W (hr.grew g) hn hB (by omega))
    have HP := Lib.hid (fun (x : Int) (hx : 0 ≤ x ∧ x < n) W (g : Grew w W) => l6Part a n cap ps x W (hr.grew g) hn hB hx)
    have HH := Lib.hid (fun (x : Int) (hx : 0 ≤ x ∧ x < n) => part_head hok (a := x) (by rw [hN]; exact hx))
    have HPL := Lib.hid (fun (x : Int) (hx : 0 ≤ x ∧ x < n) => part_pl hok (a := x) (by rw [hN]; exact hx))
    have HLP := Lib.hid (reach_pl hok (a := 0) (by omega))
    rw [hN] at HPL HLP
    clear hB hr hl hok
    go_enter Tryz.func19, Tryz.ntmps19
    go_wp2_with fail
    refine (HC.out _ (gr)).mono ?_
    rintro e w1 ⟨rfl, g1⟩
    have hb1 : w1.cell? ⟨w.heap.size, 0, none⟩ = some (.slice a n cap) := (g1.cell (p := ⟨w.heap.size, 0, none⟩) (by simp; omega)).trans (by simp [go_sem])
    have O1 := Lib.hid (H0.out.grew g1)
    have hG1 := show Grew w w1 from grew_tr (grew_al (grew_al (Below.refl _ _) _) _) g1
    have lb1 : w.heap.size + 1 < w1.heap.size := Nat.lt_of_lt_of_le (by simp) g1.size
    clear g1 H0
    go_wp2_with fail
    refine (HD.out _ hG1).mono ?_
    rintro e w2 ⟨A, c, rfl, o2, g2⟩
    have hb2 : w2.cell? ⟨w.heap.size, 0, none⟩ = some (.slice a n cap) := (g2.cell (p := ⟨w.heap.size, 0, none⟩) (by simp only; omega)).trans hb1
    have HB2 := Lib.hid hb2
    have O2 := Lib.hid (O1.out.grew g2)
    have G2 := Lib.hid (grew_tr hG1 g2)
    rw [hN] at o2 ⊢
    rw [hN] at HE HP HH
    obtain ⟨C0, hC0⟩ : ∃ C0, cOf' (csOf ps) = C0 := ⟨_, rfl⟩
    rw [hC0] at o2 HE HP HH HPL HLP ⊢
    obtain ⟨L, hL⟩ : ∃ L, reachL C0 n 0 = L := ⟨_, rfl⟩
    rw [hL] at o2 HE HLP ⊢
    have HRO := Lib.hid (show w2.ownsRow (w.heap.size + 1 + 1) 3 1 (.slice A L.length c) L.length (ints .i64 L) from owns_mono o2 (by omega))
    have hLl := HLP.out.len
    have hL9 : L.length ≤ 9223372036854775807 := by omega
    have lb2 : w.heap.size + 1 < w2.heap.size := Nat.lt_of_lt_of_le lb1 g2.size
    clear hL o2 g2 hG1 hb1 hb2 O1 HC HD hC0 lb1
    go_wp2
    go_loopw [3, 5] (fun v i wr => ∃ (k : Nat) (ms : List (List Int × Value)), k ≤ L.length ∧ i = .int .i64 k ∧ LS w w2 C0 n L k wr v ms) (fun _ i _ => L.length - (Go.RowKit.intOf i).toNat)
    case atStart => exact ⟨0, [], Nat.zero_le _, rfl, Chg.refl _ _, fun b hb => .inl (by simp only [Value.ownBlock, Option.some.injEq] at hb; omega), O2.out, by simp [partsP]⟩
    case round =>
      clear O2
      obtain ⟨k, ms, hk, rfl, h⟩ := hrel
      have hb0 : wr.cell? ⟨w.heap.size, 0, none⟩ = some (.slice a n cap) := (World.cell?_of_block (w := w2) (w' := wr) (a := ⟨w.heap.size, 0, none⟩) (h.hc.block w.heap.size (by omega) (by omega))).trans HB2.out
      have gw : Grew w wr := G2.out.trans ⟨h.hc.os, h.hc.tape, h.hc.output, h.hc.size, fun k hk => h.hc.block k (by omega) (by omega)⟩
      by_cases hlt : k < L.length
      · have hro := owns_chg HRO.out h.hc (fun b hb e => by have := (HRO.out.lt b hb).1; omega)
        obtain ⟨b, off, x, rfl, hx, hcell⟩ := (owns_rd hro).at1 hlt
        have hxb := HLP.out.b x (List.mem_of_getElem? hx)
        have hpl := (HPL.out x hxb).len
        have C := Lib.hid (HP.out x hxb)
        obtain ⟨hd, tl, hpe, hle, hiff⟩ := HH.out x hxb
        have hml := h.len
        obtain ⟨oa, oc, rfl⟩ := owns_slice h.o.row
        have HS := Lib.hid (fun wr' (g : Grew wr wr') (hf : firstB C0 n x = false) => h.skip hx hf g)
        have HT := Lib.hid (fun w5 w6 v6 u (g : Grew wr w5) (hf : firstB C0 n x = true) hu o6 g6 h6 => h.take (w5 := w5) (w6 := w6) (v6 := v6) (u := u) hx hf g gw.size hu o6 g6 h6)
        have HO := Lib.hid h.o
        obtain ⟨F, hF⟩ : ∃ F, firstB C0 n x = F := ⟨_, rfl⟩
        obtain ⟨X, hX⟩ : ∃ X, partL C0 n x = X := ⟨_, rfl⟩
        rw [hX] at HT C hpl hpe
        rw [hF] at HS HT hiff
        have hX0 : 0 < X.length := by rw [hpe]; simp
        have HX0 := Lib.hid (show X[0]? = some hd from by rw [hpe]; rfl)
        have HSG : Hid (∀ W, Grew wr W → W.cell? ⟨w.heap.size, 0, none⟩ = some (.slice a n cap) ∧ W.cell? ⟨b, off + k, none⟩ = some (.int .i64 x)) := Lib.hid (fun W g => ⟨(g.cell (p := ⟨w.heap.size, 0, none⟩) (World.block_lt_of_cell? wr _ hb0)).trans hb0, (g.cell (p := ⟨b, off + k, none⟩) (World.block_lt_of_cell? wr _ hcell)).trans hcell⟩)
        have HG := Lib.hid gw
        clear hF hX hro hx gw h hpe hle
        cases F
        · have hne : (hd == x) = false := by
            rw [beq_eq_false_iff_ne]
            exact fun e => by have := hiff.2 e; cases this
          clear hiff
          go_wp2_with fail
          go_region_held3 (fun W => W.cell? ⟨w.heap.size, 0, none⟩ = some (.slice a n cap) ∧ W.cell? ⟨b, off + k, none⟩ = some (.int .i64 x)) (with_reducible (first | assumption | exact HSG.out _ (grew_d (Below.refl _ _))))
            ((go_at_call 41; (with_reducible refine (C.out _ (grew_tr HG.out (grew_d (Below.refl _ _)))).mono ?_); rintro e w5 ⟨A5, c5, rfl, o5, g5⟩; have t5 := HSG.out _ (grew_tr (grew_d (Below.refl _ _)) g5); have R5 := Lib.hid o5; have G5 := Lib.hid (grew_tr (grew_d (Below.refl _ _)) g5); clear o5 g5))
          obtain ⟨b5, off5, y5, rfl, hy5, hcell5⟩ := (owns_rd R5.out).at1 hX0
          obtain rfl : y5 = hd := Option.some.inj (hy5.symm.trans HX0.out)
          rw [Nat.add_zero] at hcell5
          clear hy5
          go_wp2_with fail
          go_quiet (fail)
          have HN := Lib.hid (HS.out _ (grew_tr G5.out (grew_drewN _ nq)) trivial)
          clear t5 HSG hb0 hcell hcell5
          go_wp2
          go_roundw
          case rel => exact ⟨k + 1, ms, by omega, by go_num, HN.out⟩
          case measure => simp [Go.RowKit.intOf]; omega
        · obtain rfl : hd = x := hiff.1 rfl
          clear hiff
          go_wp2_with fail
          go_region_held3 (fun W => W.cell? ⟨w.heap.size, 0, none⟩ = some (.slice a n cap) ∧ W.cell? ⟨b, off + k, none⟩ = some (.int .i64 hd)) (with_reducible (first | assumption | exact HSG.out _ (grew_d (Below.refl _ _))))
            ((go_at_call 41; (with_reducible refine (C.out _ (grew_tr HG.out (grew_d (Below.refl _ _)))).mono ?_); rintro e w5 ⟨A5, c5, rfl, o5, g5⟩; have t5 := HSG.out _ (grew_tr (grew_d (Below.refl _ _)) g5); have R5 := Lib.hid (owns_mono o5 (show wr.heap.size ≤ _ from by simp)); have G5 := Lib.hid (grew_tr (grew_d (Below.refl _ _)) g5); clear o5 g5))
          obtain ⟨b5, off5, y5, rfl, hy5, hcell5⟩ := (owns_rd R5.out).at1 hX0
          obtain rfl : y5 = hd := Option.some.inj (hy5.symm.trans HX0.out)
          rw [Nat.add_zero] at hcell5
          clear hy5
          go_wp2_with fail
          go_quiet (fail)
          have hg6 := grew_tr G5.out (grew_drewN _ nq)
          obtain ⟨v7, w7, hr7, o7, g7, hv7⟩ := owns_append_lit (P := Tryz.prog) _ llEl (HO.out.grew hg6).row 1 [.slice (some ⟨b5, off5, none⟩) X.length c5] rfl (by simp [Value.oneCell']) (by omega) (by omega) (Nat.le_trans HG.out.size hg6.size)
          have HN := Lib.hid (HT.out _ _ _ _ hg6 trivial (owns_grew R5.out (grew_drewN _ nq)) o7 g7 hv7)
          have R7 := Lib.hid hr7
          clear t5 HSG hb0 hcell hcell5 o7 g7 hr7 hv7 hg6
          go_wp2_with (at_builtin; refine wpList_append_run rfl _ _ rfl rfl rfl rfl R7.out ?_)
          go_roundw
          case rel => exact ⟨k + 1, _, by omega, by go_num, HN.out⟩
          case measure => simp [Go.RowKit.intOf]; omega
      · obtain rfl : k = L.length := by omega
        have hm := h.m
        rw [List.take_length] at hm
        obtain ⟨oa, oc, rfl⟩ := owns_slice h.o.row
        have hlen := ll_len hm
        have HO := Lib.hid h.o
        have HG := Lib.hid gw
        have HM := Lib.hid hm
        clear h gw hb0 hm
        go_wp2
        go_ret
        rw [HE.out]
        exact ⟨oa, oc, ms, by rw [← hlen]; rfl, by rw [← hlen]; exact HO.out, HM.out, HG.out⟩
end Go.Proofs.YtdddhnepanjmfaaGreat
