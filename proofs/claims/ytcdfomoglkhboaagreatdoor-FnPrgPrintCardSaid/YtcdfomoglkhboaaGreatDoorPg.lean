/- The program's reader of a program's lines, for lines that are right: the program is read. The numbers want the table, the two errors and strings.Split's bound. -/
import Derived.Test.YtcdfomoglkhboaaGreatDoorPc
namespace Go.Proofs.YtcdfomoglkhboaaGreatDoor
open Go.RowKit Go.Lib
set_option linter.unusedVariables false
set_option linter.unusedSimpArgs false
attribute [local go_sem] ext_cell ext_frozen ext_lt ext_le ext_le1 lt_s2 lt_s3 lt_s4 lt_s5 lt_s6 ext_lt1 ext_lt2 ext_lt3

theorem lines_at {ps : List Prc} {j : Nat} {p : Prc} (h : ps[j]? = some p) {q : Nat} (hq : q < (linesC p).length) : (printL ps)[behind (ps.take j) + q]? = (linesC p)[q]? := by
  obtain ⟨hj, rfl⟩ := List.getElem?_eq_some_iff.1 h
  have hcut : ps = ps.take j ++ ps[j] :: ps.drop (j + 1) := by
    conv => lhs; rw [← List.take_append_drop j ps, List.drop_eq_getElem_cons hj]
  have hcat : ps.flatMap linesC = (ps.take j).flatMap linesC ++ (linesC ps[j] ++ (ps.drop (j + 1)).flatMap linesC) := by
    conv => lhs; rw [hcut]
    rw [List.flatMap_append, List.flatMap_cons]
  unfold printL
  rw [hcat, behind, show 1 + ((ps.take j).flatMap linesC).length + q = (((ps.take j).flatMap linesC).length + q) + 1 by omega, List.getElem?_cons_succ,
    List.getElem?_append_right (by omega), Nat.add_sub_cancel_left, List.getElem?_append_left hq]
theorem behind_succ {ps : List Prc} {j : Nat} {p : Prc} (h : ps[j]? = some p) : behind (ps.take (j + 1)) = behind (ps.take j) + (1 + p.code.length) := by
  unfold behind
  rw [List.take_add_one, h]
  simp only [Option.toList_some, List.flatMap_append, List.flatMap_cons, List.flatMap_nil, List.append_nil, List.length_append, linesC_length]
  omega
theorem behind_all (ps : List Prc) : behind ps = (printL ps).length := by
  simp only [behind, printL, List.length_cons]
  omega
theorem hform_split : split [112, 114, 111, 99, 115, 32, 35] [32] = [procsT, [35]] := by decide +kernel
theorem headNums {n : Int} (hn : numOkB n = true) :
    numsK [procsT, [35]] [procsT, itoa n] 2 = [n] ∧
    ∀ (j : Nat) (f y : List UInt8), ([procsT, [35]] : List (List UInt8))[j]? = some f → ([procsT, itoa n] : List (List UInt8))[j]? = some y → if f = [35] then (readN y).isSome = true else f = y := by
  constructor
  · simp [numsK, procsT, readN_itoa hn]
  · intro j f y hf hy
    rcases j with _ | _ | j <;> simp at hf hy <;> subst hf <;> subst hy
    · simp [procsT]
    · simp [readN_itoa hn]
theorem ints1 {B : Nat} {w : World} {a : Option Addr} {n cap : Nat} {x : Int} (h : w.ownsRow B 3 1 (.slice a n cap) n (ints .i64 [x])) : ∃ b, a = some ⟨b, 0, none⟩ ∧ w.cell? ⟨b, 0, none⟩ = some (.int .i64 x) := by
  have hl := h.1
  have hn : n = 1 := by simpa [ints] using hl.symm
  subst hn
  rcases h.2 with ⟨h1, h2⟩ | ⟨g, cap', cur, h1, _⟩
  · omega
  · simp only [Value.slice.injEq] at h1
    obtain ⟨rfl, -⟩ := h1
    exact ⟨g, rfl, h.cellAt 0 (by omega)⟩

set_option maxRecDepth 100000 in
set_option maxHeartbeats 8000000 in
theorem paProg (W0 : World) (g t c : Nat) (ps : List Prc) (w : World) (h : PaS W0 g t (printL ps).length c 0 w) (hg : W0.heap.size ≤ g) (hL : Lns t (printL ps) W0) (hnc : (printL ps).length ≤ c) (hok : prgOkB ps = true) (En : Env W0) (ML : MaxL W0) :
    Calls Tryz.prog 33 #[.pointer (some ⟨g, 0, none⟩)] w fun e w' => ∃ v ms, e = .returned (.tuple #[.agg #[v], .nilIface]) ∧
      OwnP w' w.heap.size v ps.length ms ∧ ms.map (·.1) = ps ∧ ChgG g w w' := by
  have hnl : (printL ps).length ≤ 45 := by have := printB_len ps; unfold printB at this; rw [if_pos hok] at this; exact this
  have hok' := hok
  simp only [prgOkB, Bool.and_eq_true, decide_eq_true_eq, List.all_eq_true] at hok
  obtain ⟨⟨h1, h2⟩, h3⟩ := hok
  obtain ⟨nl, hnl'⟩ : ∃ nl, (printL ps).length = nl := ⟨_, rfl⟩
  obtain ⟨N, hN⟩ : ∃ N, ps.length = N := ⟨_, rfl⟩
  rw [hnl'] at h hnc hnl
  rw [hN] at h1 h2
  have hNs : numOkB (N : Int) = true := numOk_small (by omega) (by omega)
  have HNum := Lib.hid fun w h => paNumbers W0 g t nl c 0 (printL ps) [112, 114, 111, 99, 115, 32, 35] (headL N) _ _ w h hg hL hnl' (by rw [← hN]; rfl) (by omega) hnc hform_split words_head (by decide) (by
      rw [headL_eq]
      have := itoa_100 hNs
      simp only [List.length_append, List.length_cons, List.length_nil]
      omega) rfl (by decide)
    (fun y hy => by
      simp only [List.mem_cons, List.not_mem_nil, or_false] at hy
      rcases hy with rfl | rfl
      · decide
      · exact Nat.le_trans (itoa_100 hNs) (by decide)) (headNums hNs).2 En ML
  simp only [List.length_cons, List.length_nil, Nat.zero_add, Nat.reduceAdd, (headNums hNs).1] at HNum
  have HPr := Lib.hid fun (j : Nat) (p : Prc) (hj : ps[j]? = some p) w h => (paProc W0 g t nl c (behind (ps.take j)) (printL ps) p.lo p.hi p.code N w h hg hL hnl' (by omega) hnc (by omega) (by have := h3 p (List.mem_of_getElem? hj); rw [hN] at this; exact this) (fun q hq => lines_at hj hq) En ML)
  have HLen := Lib.hid fun (j : Nat) (p : Prc) (hj : ps[j]? = some p) => (okCode hok').2 p (List.mem_of_getElem? hj)
  have HBe := Lib.hid (show behind (ps.take N) = nl by rw [List.take_of_length_le (by omega), behind_all, hnl'])
  have HGg := Lib.hid hg
  have HP := Lib.hid h
  have gl := h.1.lt
  have HNN := Lib.hid hN
  have hN1 : ¬ (N : Int) < 1 := by omega
  have hN2 : ¬ (4 : Int) < (N : Int) := by omega
  have hN3 : N ≤ 4 := by omega
  rw [hN]
  clear hg hL hnc hok' En ML h1 h2 h3 hNs h hN hnl'
  go_enter Tryz.func33, Tryz.ntmps33
  have HZ0 := Lib.hid (Blk.new w 25 #[.slice none 0 0])
  go_wp2_with fail
  refine (HNum.out _ (HP.out.grew (grew_al (Below.refl _ w) (.cells #[.slice none 0 0] 25)))).mono ?_
  rintro e w1 ⟨v, rfl, ho, hS, hC⟩
  obtain ⟨al, cl, rfl⟩ := owns_slice ho
  obtain ⟨bl, rfl, q0⟩ := ints1 ho
  simp only [List.length_cons, List.length_nil, Nat.zero_add, Nat.reduceAdd] at ho ⊢
  have HC1 := Lib.hid (ChgG.trans (ChgG.of_grew (grew_al (Below.refl _ w) (.cells #[.slice none 0 0] 25))) hC)
  have HS1 := Lib.hid hS
  have HZ1 := Lib.hid (HZ0.out.chg hC (by omega))
  have HR1 := Lib.hid (owns_mono ho (show w.heap.size ≤ _ by simp))
  clear ho hS hC HZ0 HNum HP
  obtain ⟨b6, hb6⟩ : ∃ b, w1.heap.size = b := ⟨_, rfl⟩
  have b6g : g < b6 := by have := HC1.out.size; omega
  have b6w : w.heap.size < b6 := by have := HZ1.out.lt; omega
  have b6l : ¬ bl = b6 := by have := World.block_lt_of_cell? w1 _ q0; simp only at this; omega
  have HB1 := Lib.hid (show Blk (w1.alloc (.cells #[.slice none 0 0] 25)) b6 25 #[.slice none 0 0] by rw [← hb6]; exact Blk.new _ _ _)
  have q1 := gk (grew_al (Below.refl _ w1) (.cells #[.slice none 0 0] 25)) q0
  go_wp2
  clear q1
  go_loopw [34] (fun i wr => ∃ j : Nat, j ≤ N ∧ i = .int .i64 j ∧ ChgG g w wr ∧ PaS W0 g t nl c (behind (ps.take j)) wr ∧ Blk wr w.heap.size 25 #[.slice none 0 0] ∧ wr.ownsRow w.heap.size 3 1 (.slice (some ⟨bl, 0, none⟩) 1 cl) 1 (ints .i64 [(N : Int)]) ∧
    ∃ (a1 : Option Addr) (cp : Nat) (ms : List (Prc × Value)), Blk wr b6 25 #[.slice a1 j cp] ∧ OwnP wr w.heap.size (.slice a1 j cp) j ms ∧ ms.map (·.1) = ps.take j) (fun i _ => N - (Go.RowKit.intOf i).toNat)
  case atStart => exact ⟨0, Nat.zero_le _, rfl, ChgG.grew HC1.out (grew_al (Below.refl _ w1) _), HS1.out.grew (grew_al (Below.refl _ w1) _), HZ1.out.alloc _, HR1.out.alloc _, none, 0, [], HB1.out, ⟨rfl, World.ownsRow_nil _ _ _ _, fun m hm => nomatch hm⟩, rfl⟩
  case round =>
    obtain ⟨j, hj, rfl, hc, hs, hz, hr, a1, cp, ms, hb, ho, hms⟩ := hrel
    clear HC1 HS1 HZ1 HB1 HR1 q0
    have HC := Lib.hid hc
    have HS := Lib.hid hs
    have HZ := Lib.hid hz
    have HB := Lib.hid hb
    have HO := Lib.hid ho
    have HR := Lib.hid hr
    have HM := Lib.hid hms
    clear hc hs hz hb ho hr hms
    by_cases hlt : j < N
    · obtain ⟨p, hi⟩ : ∃ p, ps[j]? = some p := ⟨_, List.getElem?_eq_getElem (by have := HNN.out; omega)⟩
      have CL := Lib.hid fun w h => HPr.out j p hi w h
      have HTk := Lib.hid (show ps.take (j + 1) = ps.take j ++ [p] by rw [List.take_add_one, hi]; rfl)
      have HBs := Lib.hid (behind_succ hi)
      have HLe := Lib.hid (HLen.out j p hi)
      clear hi
      obtain ⟨lo, hi', code⟩ := p
      simp only at CL
      have q0 := HR.out.cellAt 0 (by omega)
      simp only [ints, List.map_cons, List.map_nil, List.getElem?_cons_zero] at q0
      go_wp2_with fail
      refine (CL.out _ HS.out).mono ?_
      rintro e w2 ⟨v, rfl, ho2, hs, hc⟩
      have n6 : ¬ b6 = g := by omega
      have HS2 := Lib.hid hs
      have HC2 := Lib.hid (ChgG.trans HC.out hc)
      have HB2 := Lib.hid (HB.out.chg hc n6)
      have HZ2 := Lib.hid (HZ.out.chg hc (by omega))
      have HR2 := Lib.hid (owns_chg HR.out hc (fun b hb e => by have := (HR.out.lt b hb).1; omega))
      have HO2 := Lib.hid (HO.out.chg hc (fun b hb _ e => by omega))
      have HV2 := Lib.hid (owns_mono ho2 HC.out.size)
      clear hs hc HS HC HB HZ HO HR CL ho2 q0
      have l2 := HB2.out.lt
      obtain ⟨va, vc, rfl⟩ := owns_slice HV2.out
      go_upto_region 10 with fail
      refine wp_letP ?_
      intro E hE
      have HD4 := Lib.hid (show Blk E w2.heap.size 56 #[.int .i64 lo, .int .i64 hi', .slice va code.length vc] by rw [hE]; exact Blk.new _ _ _)
      have g4 : Grew w2 E := by rw [hE]; exact grew_al (Below.refl _ w2) _
      have HS4 := Lib.hid (HS2.out.grew g4)
      have HC4 := Lib.hid (ChgG.grew HC2.out g4)
      have HB4 := Lib.hid (HB2.out.grew g4)
      have HZ4 := Lib.hid (HZ2.out.grew g4)
      have HR4 := Lib.hid (owns_grew HR2.out g4)
      have HO4 := Lib.hid (HO2.out.grew g4)
      have HV4 := Lib.hid (owns_grew HV2.out g4)
      obtain ⟨b7, hb7⟩ : ∃ b, w2.heap.size = b := ⟨_, rfl⟩
      have n7 : ¬ b7 = b6 := by omega
      rw [hb7] at HD4 ⊢
      clear hE g4 HS2 HC2 HB2 HZ2 HO2 HR2 HV2 l2 hb7
      obtain ⟨v', W, hrun, o5, g5, hv'⟩ := owns_append_lit (P := Tryz.prog) E prcEl HO4.out.2.1 1 (prcCells (⟨lo, hi', code⟩, .slice va code.length vc)) rfl (fun u hu => by simp only [prcCells, List.mem_cons, List.not_mem_nil, or_false] at hu; rcases hu with rfl | rfl | rfl <;> rfl) (by omega) (by omega) HC4.out.size
      obtain ⟨a2, cp2, rfl⟩ := owns_slice o5
      have hc5 := Chg.of_grownBy g5
      have hbr := blk_row_ne HB4.out HO4.out.2.1 (by decide)
      have hzr := blk_row_ne HZ4.out HO4.out.2.1 (by decide)
      have B5 := HB4.out.chg hc5 hbr
      have Z5 := HZ4.out.chg hc5 hzr
      have hX : ∀ (x : Value) (N : Nat) (xs : List Value), E.ownsRow w.heap.size 38 8 x N xs → W.ownsRow w.heap.size 38 8 x N xs := fun x N xs hx => owns_chg hx hc5 (fun b hb e => row_row_ne hx HO4.out.2.1 (by decide) hb e)
      have R5 := owns_chg HR4.out hc5 (fun b hb e => row_row_ne HR4.out HO4.out.2.1 (by decide) hb e)
      have P5 : OwnP W w.heap.size (.slice a2 (j + 1) cp2) (j + 1) (ms ++ [(⟨lo, hi', code⟩, .slice va code.length vc)]) := ⟨by rw [List.length_append, HO4.out.1]; rfl, by rw [List.flatMap_append, List.flatMap_cons, List.flatMap_nil, List.append_nil]; exact o5, fun m hm => by
        rcases List.mem_append.1 hm with hm | hm
        · exact hX _ _ _ (HO4.out.2.2 m hm)
        · obtain rfl := List.mem_singleton.1 hm
          exact hX _ _ _ HV4.out⟩
      have S5 := HS4.out.chg hc5 HGg.out (fun b hb => by have := (HO4.out.2.1.lt b hb).1; omega)
      have C5 := chg_own HC4.out hc5 (fun b hb => (HO4.out.2.1.lt b hb).1)
      have HRU := Lib.hid hrun
      have z0 := HD4.out.cell 0
      have z1 := HD4.out.cell 1
      have z2 := HD4.out.cell 2
      have zl := HD4.out.lt
      have y0 := HB4.out.cell 0
      have yl := HB4.out.lt
      have e0 := B5.cell 0
      have ef := fun q => B5.frozen q
      have el := B5.lt
      simp only [List.getElem?_toArray, List.getElem?_cons_zero, List.getElem?_cons_succ] at z0 z1 z2 y0 e0
      have HB5 := Lib.hid B5
      have HZ5 := Lib.hid Z5
      have HR5 := Lib.hid R5
      have HP5 := Lib.hid P5
      have HS5 := Lib.hid S5
      have HC5 := Lib.hid C5
      have HNB := Lib.hid (blk_row_ne B5 P5.2.1 (by decide))
      have HNR := Lib.hid (blk_row_ne B5 R5 (by decide))
      have HNI := Lib.hid (fun m hm => blk_row_ne B5 (P5.2.2 m hm) (by decide))
      clear hrun o5 g5 hv' hc5 hbr hzr B5 Z5 hX R5 P5 S5 C5
      go_wp2_with (at_builtin; refine wpList_append_run rfl _ _ rfl rfl rfl rfl HRU.out ?_)
      go_roundw
      case rel =>
        have hs := HS5.out
        refine ⟨j + 1, by omega, by go_num, chg_new HC5.out (by simp only; omega) _, ?_, HZ5.out.far (by simp only; omega) _, owns_far HR5.out HNR.out _, a2, cp2, _, HB5.out.set_ 0 _, ⟨HP5.out.1, owns_far HP5.out.2.1 HNB.out _, fun m hm => owns_far (HP5.out.2.2 m hm) (HNI.out m hm) _⟩, ?_⟩
        · rw [HBs.out]
          exact hs.set HGg.out b6g _
        · rw [List.map_append, HM.out, HTk.out]
          rfl
      case measure => simp [Go.RowKit.intOf]; omega
    · obtain rfl : j = N := by omega
      have c0 := HB.out.cell 0
      have bl6 := HB.out.lt
      have z0 := HZ.out.cell 0
      have zl := HZ.out.lt
      have zf := fun q => HZ.out.frozen q
      have p0 := HS.out.1.cell 0
      have p1 := HS.out.1.cell 1
      have pl := HS.out.1.lt
      simp only [List.getElem?_toArray, List.getElem?_cons_zero, List.getElem?_cons_succ] at c0 z0 p0 p1
      rw [HBe.out] at p1
      have HNP := Lib.hid (blk_row_ne HZ.out HO.out.2.1 (by decide))
      have HNI := Lib.hid (fun m hm => blk_row_ne HZ.out (HO.out.2.2 m hm) (by decide))
      go_wp2
      go_quiet (fail)
      go_wp2
      refine body_letW ?_
      intro E hE
      have HZE := (show Blk E w.heap.size 25 #[.slice a1 j cp] by rw [hE]; exact (HZ.out.grew (grew_drewN _ _)).set_ 0 _)
      have HCE := (show ChgG g w E by rw [hE]; exact chg_new (ChgG.grew HC.out (grew_drewN _ _)) (Nat.le_refl _) _)
      have HOE := (show OwnP E w.heap.size (.slice a1 j cp) j ms by
        rw [hE]
        exact ⟨HO.out.1, owns_far (owns_grew HO.out.2.1 (grew_drewN _ _)) HNP.out _, fun m hm => owns_far (owns_grew (HO.out.2.2 m hm) (grew_drewN _ _)) (HNI.out m hm) _⟩)
      clear hE
      have k0 := HZE.cell 0
      simp only [List.getElem?_toArray, List.getElem?_cons_zero, List.getElem?_cons_succ] at k0
      have kl := HZE.lt
      refine bodyPost_ret (by simp [results, Tryz.results33, go_sem, k0, kl]; try rfl) rfl ?_
      exact ⟨_, _, rfl, HOE, by rw [HM.out, List.take_of_length_le (by have := HNN.out; omega)], HCE⟩

theorem calls_letP {P : Program} {f : FuncId} {args : Array Value} {W : World} {Q : Ending → World → Prop} (h : ∀ E, E = W → Calls P f args E Q) : Calls P f args W Q := h W rfl
theorem asNil (v : Value) (w : World) :
    Calls Tryz.prog 34 #[.nilIface, v] w fun e w' => e = .returned (.bool false) ∧ w = w' := by
  go_enter Tryz.func34, Tryz.ntmps34
  go_wp2
  go_ret
  exact ⟨rfl, rfl⟩

set_option maxRecDepth 100000 in
set_option maxHeartbeats 2000000 in
theorem implPrgParseT (t c : Nat) (ps : List Prc) (w : World) (hL : Lns t (printL ps) w) (hnc : (printL ps).length ≤ c) (hok : prgOkB ps = true) (En : Env w) (ML : MaxL w) :
    Calls Tryz.prog 12 #[.slice (some ⟨t, 0, none⟩) (printL ps).length c] w fun e w' => ∃ v ms, e = .returned (.tuple #[.agg #[v], .int .i64 0]) ∧
      OwnP w' w.heap.size v ps.length ms ∧ ms.map (·.1) = ps ∧ Grew w w' := by
  obtain ⟨W0, hW0⟩ : ∃ W, W = w.alloc (.cells #[.slice none 0 0] 25) := ⟨_, rfl⟩
  have g0 : Grew w W0 := by rw [hW0]; exact grew_al (Below.refl _ w) _
  have hl0 : W0.heap.size = w.heap.size + 1 := by rw [hW0]; simp
  have HZ0 := Lib.hid (show Blk W0 w.heap.size 25 #[.slice none 0 0] by rw [hW0]; exact Blk.new _ _ _)
  have HP := Lib.hid fun w' h => paProg W0 (w.heap.size + 1) t c ps w' h (by omega) (fun j y hj => gk g0 (hL j y hj)) hnc hok (En.grew g0) (ML.grew g0)
  have HG0 := Lib.hid g0
  clear hL hnc hok En ML g0
  obtain ⟨nl, hnl⟩ : ∃ nl, (printL ps).length = nl := ⟨_, rfl⟩
  rw [hnl] at HP ⊢
  clear hnl
  go_enter Tryz.func12, Tryz.ntmps12
  go_wp2_with fail
  rw [← hW0]
  refine (HP.out _ ⟨?_, grew_al (Below.refl _ _) _⟩).mono ?_
  · have := Blk.new W0 65 #[.slice (some ⟨t, 0, none⟩) nl c, .int .i64 0]
    rw [hl0] at this
    exact this
  rintro e w2 ⟨v, ms, rfl, hP, hms, hC⟩
  obtain ⟨va, vc, rfl⟩ := owns_slice hP.2.1
  have hC' : Below w.heap.size (W0.alloc (.cells #[.slice (some ⟨t, 0, none⟩) nl c, .int .i64 0] 65)) w2 := hC.belowB (by simp; omega) (fun k e => by omega)
  have HG2 := Lib.hid (show Grew w w2 from (grew_al HG0.out _).trans hC')
  have HZ2 := Lib.hid ((HZ0.out.alloc _).chg hC (by omega))
  have HP2 := Lib.hid (show OwnP w2 w.heap.size (.slice va ps.length vc) ps.length ms from ⟨hP.1, owns_mono hP.2.1 (by simp; omega), fun m hm => owns_mono (hP.2.2 m hm) (by simp; omega)⟩)
  have HM := Lib.hid hms
  clear hP hms hC hC' HP HZ0 HG0 hl0 hW0
  have lz := HZ2.out.lt
  go_wp2_with fail
  refine calls_letP ?_
  intro E hE
  have HD := Lib.hid (show Blk E w2.heap.size 25 #[.slice va ps.length vc] by rw [hE]; exact (Blk.new w2 _ _).alloc _)
  have g2 : Grew w2 E := by rw [hE]; exact grew_al (grew_al (Below.refl _ w2) _) _
  have HZE := Lib.hid (HZ2.out.grew g2)
  have HPE := Lib.hid (HP2.out.grew g2)
  have HGE := Lib.hid (grew_tr HG2.out g2)
  have HNP := Lib.hid (blk_row_ne HZE.out HPE.out.2.1 (by decide))
  have HNI := Lib.hid (fun m hm => blk_row_ne HZE.out (HPE.out.2.2 m hm) (by decide))
  clear hE g2 HZ2 HP2 HG2
  refine (asNil _ _).mono ?_
  rintro e w3 ⟨rfl, rfl⟩
  have d0 := HD.out.cell 0
  have dl := HD.out.lt
  have z0 := HZE.out.cell 0
  have zl := HZE.out.lt
  have zf := fun q => HZE.out.frozen q
  simp only [List.getElem?_toArray, List.getElem?_cons_zero, List.getElem?_cons_succ] at d0 z0
  go_wp2
  refine body_letW ?_
  intro F hF
  have HZF := (show Blk F w.heap.size 25 #[.slice va ps.length vc] by rw [hF]; exact HZE.out.set_ 0 _)
  have HGF := (show Grew w F by rw [hF]; exact grew_set HGE.out (Nat.le_refl _) _)
  have HPF := (show OwnP F w.heap.size (.slice va ps.length vc) ps.length ms by
    rw [hF]
    exact ⟨HPE.out.1, owns_far HPE.out.2.1 HNP.out _, fun m hm => owns_far (HPE.out.2.2 m hm) (HNI.out m hm) _⟩)
  clear hF
  have k0 := HZF.cell 0
  simp only [List.getElem?_toArray, List.getElem?_cons_zero, List.getElem?_cons_succ] at k0
  have kl := HZF.lt
  refine bodyPost_ret (by simp [results, Tryz.results12, go_sem, k0, kl]; try rfl) rfl ?_
  exact ⟨_, _, rfl, HPF, HM.out, HGF⟩
end Go.Proofs.YtcdfomoglkhboaaGreatDoor
