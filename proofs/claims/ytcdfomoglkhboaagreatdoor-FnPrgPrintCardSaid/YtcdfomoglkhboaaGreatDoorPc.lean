/- The program's reader of a procedure's lines, for lines that are right. The numbers want the table, the two errors and strings.Split's bound. -/
import Derived.Test.YtcdfomoglkhboaaGreatDoorPl
import Derived.Test.YtcdfomoglkhboaaGreatDoorTip
import Derived.Test.YtcdfomoglkhboaaGreatDoorRegG
import Derived.Test.YtcdfomoglkhboaaGreatDoorDrQ
namespace Go.Proofs.YtcdfomoglkhboaaGreatDoor
open Go.RowKit Go.Lib
set_option linter.unusedVariables false
set_option linter.unusedSimpArgs false
attribute [local go_sem] ext_cell ext_frozen ext_lt ext_le ext_le1 lt_s2 lt_s3 lt_s4 lt_s5 lt_s6 ext_lt1 ext_lt2 ext_lt3

theorem PaS.chg {F : Nat → Prop} {W0 : World} {g t n c k : Nat} {w w' : World} (h : PaS W0 g t n c k w) (x : Chg F w w') (hg : W0.heap.size ≤ g) (hF : ∀ b, F b → g < b) : PaS W0 g t n c k w' :=
  ⟨h.1.chg x (fun e => absurd (hF _ e) (Nat.lt_irrefl _)), h.2.trans (x.belowB h.2.size (fun b hb => by have := hF b hb; omega))⟩
theorem PaS.set {W0 : World} {g t n c k b i : Nat} {w : World} (h : PaS W0 g t n c k w) (hg : W0.heap.size ≤ g) (hb : g < b) (u : Value) : PaS W0 g t n c k (w.setCell ⟨b, i, none⟩ u) :=
  h.chg (F := fun x => x = b) (Chg.alw (F := fun x => x = b) (p := ⟨b, i, none⟩) (Chg.refl _ w) rfl u) hg (fun x e => by omega)
theorem chgs3 (W : World) (z i j l : Nat) (u v x : Value) : Chg (fun t => t = z) W (((W.setCell ⟨z, i, none⟩ u).setCell ⟨z, j, none⟩ v).setCell ⟨z, l, none⟩ x) :=
  Chg.alw (F := fun t => t = z) (p := ⟨z, l, none⟩) (Chg.alw (F := fun t => t = z) (p := ⟨z, j, none⟩) (Chg.alw (F := fun t => t = z) (p := ⟨z, i, none⟩) (Chg.refl _ W) rfl u) rfl v) rfl x
theorem chg_preP {bs : List Bx} {w w' : World} (h : Chg (preB bs) w w') (hp : ∀ b, b ∈ bs → b.al ≠ none) : Grew w w' :=
  h.belowB (Nat.le_refl _) (fun k hk => by obtain ⟨b, hb, ha, rfl⟩ := hk; exact absurd ha (hp b hb))
theorem wp_letP {P : Program} {c : Code} {Q : Exit → Act → World → Prop} {a : Act} {W : World} (h : ∀ E, E = W → c.wp P Q a E) : c.wp P Q a W := h W rfl
theorem ints3 {B : Nat} {w : World} {a : Option Addr} {n cap : Nat} {x y z : Int} (h : w.ownsRow B 3 1 (.slice a n cap) n (ints .i64 [x, y, z])) : ∃ b, a = some ⟨b, 0, none⟩ ∧ w.cell? ⟨b, 0, none⟩ = some (.int .i64 x) ∧ w.cell? ⟨b, 1, none⟩ = some (.int .i64 y) ∧ w.cell? ⟨b, 2, none⟩ = some (.int .i64 z) := by
  have hl := h.1
  have hn : n = 3 := by simpa [ints] using hl.symm
  subst hn
  rcases h.2 with ⟨h1, h2⟩ | ⟨g, cap', cur, h1, _⟩
  · omega
  · simp only [Value.slice.injEq] at h1
    obtain ⟨rfl, -⟩ := h1
    refine ⟨g, rfl, ?_, ?_, ?_⟩
    · exact h.cellAt 0 (by omega)
    · exact h.cellAt 1 (by omega)
    · exact h.cellAt 2 (by omega)
theorem prc_split {lo hi n : Int} : split (prcL lo hi n) [32] = [procT, itoa lo, itoa hi, sizeT, itoa n] := words_prc
theorem form_split : split [112, 114, 111, 99, 32, 35, 32, 35, 32, 115, 105, 122, 101, 32, 35] [32] = [procT, [35], [35], sizeT, [35]] := by decide +kernel
theorem prcL_short {lo hi n : Int} (h1 : (itoa lo).length ≤ 100) (h2 : (itoa hi).length ≤ 100) (h3 : (itoa n).length ≤ 100) : (prcL lo hi n).length ≤ 1000 := by
  rw [prcL_eq]
  simp only [List.length_append, List.length_cons, List.length_nil]
  omega
theorem itoa_100 {n : Int} (h : numOkB n = true) : (itoa n).length ≤ 100 := by
  obtain ⟨h1, h2⟩ := numOkB_iff.1 h
  exact Nat.le_trans (itoa_length (n := n) (by omega) (by omega)) (by decide)
/-- A procedure's first line is read. -/
theorem prcNums {lo hi n : Int} (hlo : numOkB lo = true) (hhi : numOkB hi = true) (hn : numOkB n = true) :
    numsK [procT, [35], [35], sizeT, [35]] [procT, itoa lo, itoa hi, sizeT, itoa n] 5 = [lo, hi, n] ∧
    ∀ (j : Nat) (f y : List UInt8), ([procT, [35], [35], sizeT, [35]] : List (List UInt8))[j]? = some f → ([procT, itoa lo, itoa hi, sizeT, itoa n] : List (List UInt8))[j]? = some y → if f = [35] then (readN y).isSome = true else f = y := by
  constructor
  · simp [numsK, procT, sizeT, readN_itoa hlo, readN_itoa hhi, readN_itoa hn]
  · intro j f y hf hy
    rcases j with _ | _ | _ | _ | _ | j <;> simp at hf hy <;> subst hf <;> subst hy
    · simp [procT]
    · simp [readN_itoa hlo]
    · simp [readN_itoa hhi]
    · simp [sizeT]
    · simp [readN_itoa hn]

set_option maxRecDepth 100000 in
set_option maxHeartbeats 8000000 in
theorem paProc (W0 : World) (g t n c k : Nat) (ls : List (List UInt8)) (lo hi : Int) (code : List Ins) (procs : Int) (w : World) (h : PaS W0 g t n c k w) (hg : W0.heap.size ≤ g) (hL : Lns t ls W0) (hn : ls.length = n) (hm : n ≤ 1000000) (hnc : n ≤ c) (hp : procs ≤ 100)
    (hok : prcOkB ⟨lo, hi, code⟩ procs = true) (hl : ∀ j, j < (linesC ⟨lo, hi, code⟩).length → ls[k + j]? = (linesC ⟨lo, hi, code⟩)[j]?) (En : Env W0) (ML : MaxL W0) :
    Calls Tryz.prog 65 #[.pointer (some ⟨g, 0, none⟩), .int .i64 procs] w fun e w' => ∃ v, e = .returned (.tuple #[.agg #[.int .i64 lo, .int .i64 hi, v], .nilIface]) ∧
      w'.ownsRow w.heap.size 38 8 v code.length (code.flatMap Ins.cells) ∧ PaS W0 g t n c (k + (1 + code.length)) w' ∧ ChgG g w w' := by
  simp only [prcOkB, Bool.and_eq_true, decide_eq_true_eq, List.all_eq_true] at hok
  obtain ⟨⟨⟨h1, h2, h3⟩, h4⟩, h5⟩ := hok
  obtain ⟨hlo, hhi⟩ := itvOkB_num h1
  rw [linesC_length] at hl
  simp only at hl h1 h2 h3 h4 h5
  obtain ⟨N, hN⟩ : ∃ N, code.length = N := ⟨_, rfl⟩
  have hNs : numOkB (N : Int) = true := numOk_small (by omega) (by omega)
  have hl0 : ls[k]? = some (prcL lo hi N) := by have := hl 0 (by omega); simpa [linesC, hN] using this
  have HNum := Lib.hid fun w h => paNumbers W0 g t n c k ls [112, 114, 111, 99, 32, 35, 32, 35, 32, 115, 105, 122, 101, 32, 35] (prcL lo hi N) _ _ w h hg hL hn hl0 hm hnc form_split prc_split (by decide) (prcL_short (itoa_100 hlo) (itoa_100 hhi) (itoa_100 hNs)) rfl (by decide)
    (fun y hy => by
      simp only [List.mem_cons, List.not_mem_nil, or_false] at hy
      rcases hy with rfl | rfl | rfl | rfl | rfl
      · decide
      · exact Nat.le_trans (itoa_100 hlo) (by decide)
      · exact Nat.le_trans (itoa_100 hhi) (by decide)
      · decide
      · exact Nat.le_trans (itoa_100 hNs) (by decide)) (prcNums hlo hhi hNs).2 En ML
  simp only [List.length_cons, List.length_nil, Nat.zero_add, Nat.reduceAdd, (prcNums hlo hhi hNs).1] at HNum
  have HLn := Lib.hid fun (j : Nat) (i : Ins) (hj : code[j]? = some i) => (show ls[k + 1 + j]? = some (textI i) by
    have hj' := (List.getElem?_eq_some_iff.1 hj).1
    have := hl (1 + j) (by omega)
    rw [show k + (1 + j) = k + 1 + j by omega, show 1 + j = j + 1 by omega] at this
    rw [this]
    simp [linesC, hj])
  have HPL := Lib.hid fun (j : Nat) (i : Ins) (hj : code[j]? = some i) w h => paLine W0 g t n c (k + 1 + j) ls (textI i) w h hg hL hn (HLn.out j i hj) hm hnc
  have HPI := Lib.hid fun (j : Nat) (i : Ins) (hj : code[j]? = some i) w En ML => (show Calls Tryz.prog 16 #[.string ⟨(textI i).toArray⟩, .int .i64 procs, .int .i64 N] w fun e w' => e = .returned (insV (some i)) ∧ Grew w w' by
    have := implInsRead (textI i) procs N w En ML
    rw [lineI_T (h4 i (List.mem_of_getElem? hj) |> fun h => by rw [hN] at h; exact h) hp (by omega)] at this
    exact this)
  have HEnd := Lib.hid fun (j : Nat) (i : Ins) (hj : code[j]? = some i) (hjn : j + 1 = N) => (show endsB i = true by
    unfold lastB at h5
    rw [List.getLast?_eq_getElem?, hN, show N - 1 = j by omega, hj] at h5
    exact h5)
  have HOkI := Lib.hid fun w => itvOk lo hi w
  rw [h1] at HOkI
  have HEn := Lib.hid En
  have HML := Lib.hid ML
  have HGg := Lib.hid hg
  have hN1 : ¬ (N : Int) < 1 := by omega
  have hN2 : ¬ (10 : Int) < (N : Int) := by omega
  have hN3 : N ≤ 10 := by omega
  have HP := Lib.hid h
  have gl := h.1.lt
  have HNN := Lib.hid hN
  rw [hN]
  clear hg hL hn hm hnc hp hl En ML h1 h2 h3 h4 h5 hlo hhi hNs hl0 HLn h hN
  go_enter Tryz.func65, Tryz.ntmps65
  have HZ0 := Lib.hid (Blk.new w 56 #[.int .i64 0, .int .i64 0, .slice none 0 0])
  go_wp2_with fail
  refine (HNum.out _ (HP.out.grew (grew_al (Below.refl _ w) (.cells #[.int .i64 0, .int .i64 0, .slice none 0 0] 56)))).mono ?_
  rintro e w1 ⟨v, rfl, ho, hS, hC⟩
  obtain ⟨al, cl, rfl⟩ := owns_slice ho
  obtain ⟨bl, rfl, q0, q1, q2⟩ := ints3 ho
  simp only [List.length_cons, List.length_nil, Nat.zero_add, Nat.reduceAdd] at ho ⊢
  have HC1 := Lib.hid (ChgG.trans (ChgG.of_grew (grew_al (Below.refl _ w) (.cells #[.int .i64 0, .int .i64 0, .slice none 0 0] 56))) hC)
  have HS1 := Lib.hid hS
  have HZ1 := Lib.hid (HZ0.out.chg hC (by omega))
  clear ho hS hC HZ0 HNum HP
  go_wp2_with fail
  refine region_box 93 [⟨some 7, 0, 8, 56, #[.int .i64 0, .int .i64 0, .slice none 0 0], #[.int .i64 lo, .int .i64 hi, .slice none 0 0]⟩] (fun i => ([.slice (some ⟨bl, 0, none⟩) 3 cl, .pointer (some ⟨bl, 0, none⟩), .int .i64 lo, .slice (some ⟨bl, 0, none⟩) 3 cl, .pointer (some ⟨bl, 1, none⟩), .int .i64 hi, .agg #[.int .i64 lo, .int .i64 hi, .slice none 0 0], undef, undef] : List Value).getD i undef) (by kernel_rfl) rfl (by kernel_rfl) rfl (by intro b hb ha; simp only [List.mem_cons, List.not_mem_nil, or_false] at hb; rcases hb with rfl <;> first | (cases ha; done) | assumption) (by intro j k b c hjk hj hk hb hc; rcases j with _ | _ | j <;> rcases k with _ | _ | k <;> simp at hj hk hjk <;> (try subst hj) <;> (try subst hk) <;> first | (cases hb; done) | (cases hc; done) | (simp only; omega)) ⟨?_, ?_, ?_, ?_, ?_, ?_, ?_, ?_, ?_, trivial⟩ ?_
  · exact b_val rfl rfl (fun gm a W h => by have e6 : a.eval (.tmp 6) = .slice (some ⟨bl, 0, none⟩) 3 cl := (h.slot 6 (by kernel_rfl)).trans rfl; simp only [execOp, e6]; first | (simp [go_sem]; done) | (simp [go_sem]; exact wrapIn (by omega) (by omega)) | (simp [go_sem]; rfl) | kernel_rfl)
  · exact b_val rfl rfl (fun gm a W h => by have e24 : a.eval (.tmp 24) = .slice (some ⟨bl, 0, none⟩) 3 cl := (h.val (k := 0) (d := 24) ⟨⟨⟨0, .data⟩, by simp, rfl, by kernel_rfl⟩, by kernel_rfl⟩).trans rfl; simp only [execOp, e24]; first | (simp [go_sem]; done) | (simp [go_sem]; exact wrapIn (by omega) (by omega)) | (simp [go_sem]; rfl) | kernel_rfl)
  · exact b_val rfl rfl (fun gm a W h => by have e25 : a.eval (.tmp 25) = .pointer (some ⟨bl, 0, none⟩) := (h.val (k := 1) (d := 25) ⟨⟨⟨1, .data⟩, by simp, rfl, by kernel_rfl⟩, by kernel_rfl⟩).trans rfl; have kq0 := h.cell q0 (by rintro ⟨b, hb, ha, e⟩; simp only [List.mem_cons, List.not_mem_nil, or_false] at hb; rcases hb with rfl <;> first | (cases ha; done) | (simp only at e; omega)); have kq1 := h.cell q1 (by rintro ⟨b, hb, ha, e⟩; simp only [List.mem_cons, List.not_mem_nil, or_false] at hb; rcases hb with rfl <;> first | (cases ha; done) | (simp only at e; omega)); simp only [execOp, e25]; first | (simp [go_sem, kq0, kq1]; done) | (simp [go_sem, kq0, kq1]; exact wrapIn (by omega) (by omega)) | (simp [go_sem, kq0, kq1]; rfl) | kernel_rfl)
  · exact b_val rfl rfl (fun gm a W h => by have e6 : a.eval (.tmp 6) = .slice (some ⟨bl, 0, none⟩) 3 cl := (h.slot 6 (by kernel_rfl)).trans rfl; simp only [execOp, e6]; first | (simp [go_sem]; done) | (simp [go_sem]; exact wrapIn (by omega) (by omega)) | (simp [go_sem]; rfl) | kernel_rfl)
  · exact b_val rfl rfl (fun gm a W h => by have e27 : a.eval (.tmp 27) = .slice (some ⟨bl, 0, none⟩) 3 cl := (h.val (k := 3) (d := 27) ⟨⟨⟨3, .data⟩, by simp, rfl, by kernel_rfl⟩, by kernel_rfl⟩).trans rfl; simp only [execOp, e27]; first | (simp [go_sem]; done) | (simp [go_sem]; exact wrapIn (by omega) (by omega)) | (simp [go_sem]; rfl) | kernel_rfl)
  · exact b_val rfl rfl (fun gm a W h => by have e28 : a.eval (.tmp 28) = .pointer (some ⟨bl, 1, none⟩) := (h.val (k := 4) (d := 28) ⟨⟨⟨4, .data⟩, by simp, rfl, by kernel_rfl⟩, by kernel_rfl⟩).trans rfl; have kq0 := h.cell q0 (by rintro ⟨b, hb, ha, e⟩; simp only [List.mem_cons, List.not_mem_nil, or_false] at hb; rcases hb with rfl <;> first | (cases ha; done) | (simp only at e; omega)); have kq1 := h.cell q1 (by rintro ⟨b, hb, ha, e⟩; simp only [List.mem_cons, List.not_mem_nil, or_false] at hb; rcases hb with rfl <;> first | (cases ha; done) | (simp only at e; omega)); simp only [execOp, e28]; first | (simp [go_sem, kq0, kq1]; done) | (simp [go_sem, kq0, kq1]; exact wrapIn (by omega) (by omega)) | (simp [go_sem, kq0, kq1]; rfl) | kernel_rfl)
  · exact b_val rfl rfl (fun gm a W h => by have e26 : a.eval (.tmp 26) = .int .i64 lo := (h.val (k := 2) (d := 26) ⟨⟨⟨2, .data⟩, by simp, rfl, by kernel_rfl⟩, by kernel_rfl⟩).trans rfl; have e29 : a.eval (.tmp 29) = .int .i64 hi := (h.val (k := 5) (d := 29) ⟨⟨⟨5, .data⟩, by simp, rfl, by kernel_rfl⟩, by kernel_rfl⟩).trans rfl; simp only [execOp, List.map_toArray, List.map_cons, List.map_nil, e26, e29]; first | (simp [go_sem]; done) | (simp [go_sem]; exact wrapIn (by omega) (by omega)) | (simp [go_sem]; rfl) | kernel_rfl)
  · exact b_alloc 0 _ rfl rfl rfl (by kernel_rfl) rfl (fun gm a W h => by kernel_rfl)
  · refine b_store 0 _ rfl rfl rfl rfl (fun j hj => by cases hj; exact ⟨8, ⟨⟨⟨7, .data⟩, by simp, rfl, by kernel_rfl⟩, by kernel_rfl⟩⟩) rfl (fun gm a W h hold hb => ?_)
    have e8 : a.eval (.tmp 8) = .pointer (some ⟨gm 0, 0, none⟩) := (h.val (k := 7) (d := 8) ⟨⟨⟨7, .data⟩, by simp, rfl, by kernel_rfl⟩, by kernel_rfl⟩).trans rfl
    have e30 : a.eval (.tmp 30) = .agg #[.int .i64 lo, .int .i64 hi, .slice none 0 0] := (h.val (k := 6) (d := 30) ⟨⟨⟨6, .data⟩, by simp, rfl, by kernel_rfl⟩, by kernel_rfl⟩).trans rfl
    simp only at hb
    have hf := fun j => hb.frozen j
    have c0 := hb.cell 0
    have c1 := hb.cell 1
    have c2 := hb.cell 2
    refine ⟨_, by (simp only [execOp, e8, e30]; simp [go_sem, hf, c0, c1, c2]; try rfl), ((hb.set_ 0 _).set_ 1 _).set_ 2 _, chgs3 _ _ _ _ _ _ _ _⟩
  intro gm vs w9 hc9 hb9 hold9 hge9 hv9
  have x0 : vs 0 = .slice (some ⟨bl, 0, none⟩) 3 cl := (hv9 0 24 (by kernel_rfl)).trans rfl
  have x1 : vs 1 = .pointer (some ⟨bl, 0, none⟩) := (hv9 1 25 (by kernel_rfl)).trans rfl
  have x2 : vs 2 = .int .i64 lo := (hv9 2 26 (by kernel_rfl)).trans rfl
  have x3 : vs 3 = .slice (some ⟨bl, 0, none⟩) 3 cl := (hv9 3 27 (by kernel_rfl)).trans rfl
  have x4 : vs 4 = .pointer (some ⟨bl, 1, none⟩) := (hv9 4 28 (by kernel_rfl)).trans rfl
  have x5 : vs 5 = .int .i64 hi := (hv9 5 29 (by kernel_rfl)).trans rfl
  have x6 : vs 6 = .agg #[.int .i64 lo, .int .i64 hi, .slice none 0 0] := (hv9 6 30 (by kernel_rfl)).trans rfl
  have x7 : vs 7 = .pointer (some ⟨gm 0, 0, none⟩) := (hv9 7 8 (by kernel_rfl)).trans rfl
  have y0 := hb9 0 _ rfl
  have g0 := hge9 0 _ 7 rfl rfl
  simp only at y0
  simp only [putAll, Act.put, List.setIfInBounds_toArray, List.set_cons_zero, List.set_cons_succ, Nat.zero_add, Nat.reduceAdd, x0, x1, x2, x3, x4, x5, x6, x7]
  clear hb9 hold9 hge9 hv9 x0 x1 x2 x3 x4 x5 x6 x7
  have G9 := Lib.hid (chg_preP hc9 (by intro b hb; simp only [List.mem_cons, List.not_mem_nil, or_false] at hb; subst hb; exact fun e => nomatch e))
  clear hc9
  obtain ⟨b8, hb8⟩ : ∃ b, gm 0 = b := ⟨_, rfl⟩
  rw [hb8] at y0 g0 ⊢
  have q2' := gk G9.out q2
  have b8g : g < b8 := by have := HC1.out.size; omega
  have b8w : w.heap.size < b8 := by have := HZ1.out.lt; omega
  have HB9 := Lib.hid y0
  have HS9 := Lib.hid (HS1.out.grew G9.out)
  have HC9 := Lib.hid (ChgG.grew HC1.out G9.out)
  have HZ9 := Lib.hid (HZ1.out.grew G9.out)
  have c0 := HB9.out.cell 0
  have c1 := HB9.out.cell 1
  have c2 := HB9.out.cell 2
  simp only [List.getElem?_toArray, List.getElem?_cons_zero, List.getElem?_cons_succ] at c0 c1 c2
  have cl9 := HB9.out.lt
  clear y0 g0 q0 q1 q2 HS1 HC1 HZ1 G9
  go_wp2_with fail
  refine (prcItv lo hi _ _).mono ?_
  rintro e w10 ⟨rfl, g10⟩
  have HB10 := Lib.hid (HB9.out.grew g10)
  have HS10 := Lib.hid (HS9.out.grew g10)
  have HC10 := Lib.hid (ChgG.grew HC9.out g10)
  have HZ10 := Lib.hid (HZ9.out.grew g10)
  clear g10 c0 c1 c2 cl9 q2' HB9 HS9 HC9 HZ9
  go_wp2_with fail
  refine (HOkI.out _).mono ?_
  rintro e w11 ⟨rfl, g11⟩
  have HB11 := Lib.hid (HB10.out.grew g11)
  have HS11 := Lib.hid (HS10.out.grew g11)
  have HC11 := Lib.hid (ChgG.grew HC10.out g11)
  have HZ11 := Lib.hid (HZ10.out.grew g11)
  clear g11 HB10 HS10 HC10 HZ10 HOkI
  go_wp2
  go_loopw [50] (fun i wr => ∃ j : Nat, j ≤ N ∧ i = .int .i64 j ∧ ChgG g w wr ∧ PaS W0 g t n c (k + 1 + j) wr ∧ Blk wr w.heap.size 56 #[.int .i64 0, .int .i64 0, .slice none 0 0] ∧
    ∃ (a1 : Option Addr) (cp : Nat), Blk wr b8 56 #[.int .i64 lo, .int .i64 hi, .slice a1 j cp] ∧ wr.ownsRow w.heap.size 38 8 (.slice a1 j cp) j ((code.take j).flatMap Ins.cells)) (fun i _ => N - (Go.RowKit.intOf i).toNat)
  case atStart => exact ⟨0, Nat.zero_le _, rfl, HC11.out, HS11.out, HZ11.out, none, 0, HB11.out, World.ownsRow_nil _ _ _ _⟩
  case round =>
    obtain ⟨j, hj, rfl, hc, hs, hz, a1, cp, hb, ho⟩ := hrel
    clear HC11 HS11 HZ11 HB11
    have HC := Lib.hid hc
    have HS := Lib.hid hs
    have HZ := Lib.hid hz
    have HB := Lib.hid hb
    have HO := Lib.hid ho
    clear hc hs hz hb ho
    by_cases hlt : j < N
    · obtain ⟨i, hi⟩ : ∃ i, code[j]? = some i := ⟨_, List.getElem?_eq_getElem (by have := HNN.out; omega)⟩
      have CL := Lib.hid fun w h => HPL.out j i hi w h
      have CI := fun w En ML => HPI.out j i hi w En ML
      have CE := HEnd.out j i hi
      have HTk := Lib.hid (show (code.take (j + 1)).flatMap Ins.cells = (code.take j).flatMap Ins.cells ++ Ins.cells i by rw [List.take_add_one, hi]; simp)
      clear hi
      obtain ⟨op, d, ia, ib, rel, lo', hi', tv⟩ := i
      simp only [insV] at CI
      have HCI := Lib.hid CI
      have HCE := Lib.hid CE
      clear CI CE
      go_wp2_with fail
      refine (CL.out _ HS.out).mono ?_
      rintro e w2 ⟨rfl, hs, hc⟩
      have HS2 := Lib.hid hs
      have HC2 := Lib.hid (ChgG.trans HC.out hc)
      have HB2 := Lib.hid (HB.out.chg hc (by omega))
      have HZ2 := Lib.hid (HZ.out.chg hc (by omega))
      have HO2 := Lib.hid (owns_chg HO.out hc (fun b hb e => by have := (HO.out.lt b hb).1; omega))
      clear hs hc HS HC HB HZ HO CL
      go_wp2_with fail
      refine (HCI.out _ (HEn.out.grew HS2.out.2) (HML.out.grew HS2.out.2)).mono ?_
      rintro e w3 ⟨rfl, g3⟩
      have HS3 := Lib.hid (HS2.out.grew g3)
      have HC3 := Lib.hid (ChgG.grew HC2.out g3)
      have HB3 := Lib.hid (HB2.out.grew g3)
      have HZ3 := Lib.hid (HZ2.out.grew g3)
      have HO3 := Lib.hid (owns_grew HO2.out g3)
      clear g3 HS2 HC2 HB2 HZ2 HO2 HCI
      have l3 := HB3.out.lt
      go_upto_region 15 with fail
      refine wp_letP ?_
      intro E hE
      have HD4 := Lib.hid (show Blk E w3.heap.size 38 #[.int .i64 op, .int .i64 d, .int .i64 ia, .int .i64 ib, .int .i64 rel, .int .i64 lo', .int .i64 hi', .int .i64 tv] by rw [hE]; exact Blk.new _ _ _)
      have g4 : Grew w3 E := by rw [hE]; exact grew_al (Below.refl _ w3) _
      have HS4 := Lib.hid (HS3.out.grew g4)
      have HC4 := Lib.hid (ChgG.grew HC3.out g4)
      have HB4 := Lib.hid (HB3.out.grew g4)
      have HZ4 := Lib.hid (HZ3.out.grew g4)
      have HO4 := Lib.hid (owns_grew HO3.out g4)
      obtain ⟨b13, hb13⟩ : ∃ b, w3.heap.size = b := ⟨_, rfl⟩
      have n13 : ¬ b13 = b8 := by omega
      rw [hb13] at HD4 ⊢
      clear hE g4 HS3 HC3 HB3 HZ3 HO3 l3 hb13
      have FIN : ∀ E : World, Blk E b13 38 #[.int .i64 op, .int .i64 d, .int .i64 ia, .int .i64 ib, .int .i64 rel, .int .i64 lo', .int .i64 hi', .int .i64 tv] → PaS W0 g t n c (k + 1 + (j + 1)) E → ChgG g w E → Blk E b8 56 #[.int .i64 lo, .int .i64 hi, .slice a1 j cp] →
          Blk E w.heap.size 56 #[.int .i64 0, .int .i64 0, .slice none 0 0] → E.ownsRow w.heap.size 38 8 (.slice a1 j cp) j ((code.take j).flatMap Ins.cells) →
          ∃ (a2 : Option Addr) (cp2 : Nat) (W : World), (Builtin.append_ #[54, 54] 54 #[.slice a1 j cp, .slice (some ⟨E.heap.size, 0, none⟩) 1 1]).run Tryz.prog (E.alloc (.cells #[.int .i64 op, .int .i64 d, .int .i64 ia, .int .i64 ib, .int .i64 rel, .int .i64 lo', .int .i64 hi', .int .i64 tv] 38)) = .ok (.slice a2 (j + 1) cp2) W ∧
            Blk W b8 56 #[.int .i64 lo, .int .i64 hi, .slice a1 j cp] ∧
            (∀ (W' : World), W' = W.setCell ⟨b8, 2, none⟩ (.slice a2 (j + 1) cp2) → PaS W0 g t n c (k + 1 + (j + 1)) W' ∧ ChgG g w W' ∧ Blk W' b8 56 #[.int .i64 lo, .int .i64 hi, .slice a2 (j + 1) cp2] ∧
              Blk W' w.heap.size 56 #[.int .i64 0, .int .i64 0, .slice none 0 0] ∧ W'.ownsRow w.heap.size 38 8 (.slice a2 (j + 1) cp2) (j + 1) ((code.take (j + 1)).flatMap Ins.cells)) := by
        intro E hD hS hC hB hZ hO
        obtain ⟨v', W, hrun, o5, g5, hv'⟩ := owns_append_lit (P := Tryz.prog) E insEl hO 1 (Ins.cells ⟨op, d, ia, ib, rel, lo', hi', tv⟩) rfl (by simp [Ins.cells, Value.oneCell']) (by omega) (by omega) hC.size
        obtain ⟨a2, cp2, rfl⟩ := owns_slice o5
        have hc5 := Chg.of_grownBy g5
        have hbr := blk_row_ne hB hO (by decide)
        have hzr := blk_row_ne hZ hO (by decide)
        have B5 := hB.chg hc5 hbr
        have Z5 := hZ.chg hc5 hzr
        refine ⟨a2, cp2, W, hrun, B5, ?_⟩
        rintro W' rfl
        refine ⟨(hS.chg hc5 HGg.out (fun b hb => by have := (hO.lt b hb).1; omega)).set HGg.out b8g _, ?_, B5.set_ 2 _, Z5.far (by simp only; omega) _, ?_⟩
        · exact chg_new (chg_own hC hc5 (fun b hb => (hO.lt b hb).1)) (by simp only; omega) _
        · rw [HTk.out]
          exact owns_far o5 (blk_row_ne B5 o5 (by decide)) _
      have HFIN := Lib.hid FIN
      clear FIN
      by_cases hjn : (j : Int) = (N : Int) - 1
      · have CE := HCE.out (by omega)
        have y := fun q => HD4.out.cell q
        have yl := HD4.out.lt
        have y0 := y 0
        have y1 := y 1
        have y2 := y 2
        have y3 := y 3
        have y4 := y 4
        have y5 := y 5
        have y6 := y 6
        have y7 := y 7
        simp only [List.getElem?_toArray, List.getElem?_cons_zero, List.getElem?_cons_succ] at y0 y1 y2 y3 y4 y5 y6 y7
        clear y
        go_wp2_with fail
        clear y0 y1 y2 y3 y4 y5 y6 y7 yl
        refine (bool_is (implEnds ⟨op, d, ia, ib, rel, lo', hi', tv⟩ _) CE).mono ?_
        rintro e w5 ⟨rfl, g5⟩
        obtain ⟨a2, cp2, W, hrun, B5, F5⟩ := HFIN.out w5 (HD4.out.grew g5) (HS4.out.grew g5) (ChgG.grew HC4.out g5) (HB4.out.grew g5) (HZ4.out.grew g5) (owns_grew HO4.out g5)
        have z := fun q => (HD4.out.grew g5).cell q
        have zb := (HB4.out.grew g5).cell 2
        have zbl := (HB4.out.grew g5).lt
        have zl := (HD4.out.grew g5).lt
        have z0 := z 0
        have z1 := z 1
        have z2 := z 2
        have z3 := z 3
        have z4 := z 4
        have z5 := z 5
        have z6 := z 6
        have z7 := z 7
        simp only [List.getElem?_toArray, List.getElem?_cons_zero, List.getElem?_cons_succ] at z0 z1 z2 z3 z4 z5 z6 z7 zb
        have HRU := Lib.hid hrun
        have HF5 := Lib.hid F5
        have e2 := B5.cell 2
        have ef := fun q => B5.frozen q
        have el := B5.lt
        simp only [List.getElem?_toArray, List.getElem?_cons_zero, List.getElem?_cons_succ] at e2
        clear z hrun B5 F5
        go_wp2_with (at_builtin; refine wpList_append_run rfl _ _ rfl rfl rfl rfl HRU.out ?_)
        go_roundw
        case rel =>
          obtain ⟨f1, f2, f3, f4, f5⟩ := HF5.out _ rfl
          exact ⟨j + 1, by omega, by go_num, f2, f1, f4, a2, cp2, f3, f5⟩
        case measure => simp [Go.RowKit.intOf]; omega
      · obtain ⟨a2, cp2, W, hrun, B5, F5⟩ := HFIN.out E HD4.out HS4.out HC4.out HB4.out HZ4.out HO4.out
        have z := fun q => (HD4.out).cell q
        have zb := (HB4.out).cell 2
        have zbl := (HB4.out).lt
        have zl := (HD4.out).lt
        have z0 := z 0
        have z1 := z 1
        have z2 := z 2
        have z3 := z 3
        have z4 := z 4
        have z5 := z 5
        have z6 := z 6
        have z7 := z 7
        simp only [List.getElem?_toArray, List.getElem?_cons_zero, List.getElem?_cons_succ] at z0 z1 z2 z3 z4 z5 z6 z7 zb
        have HRU := Lib.hid hrun
        have HF5 := Lib.hid F5
        have e2 := B5.cell 2
        have ef := fun q => B5.frozen q
        have el := B5.lt
        simp only [List.getElem?_toArray, List.getElem?_cons_zero, List.getElem?_cons_succ] at e2
        clear z hrun B5 F5
        go_wp2_with (at_builtin; refine wpList_append_run rfl _ _ rfl rfl rfl rfl HRU.out ?_)
        go_roundw
        case rel =>
          obtain ⟨f1, f2, f3, f4, f5⟩ := HF5.out _ rfl
          exact ⟨j + 1, by omega, by go_num, f2, f1, f4, a2, cp2, f3, f5⟩
        case measure => simp [Go.RowKit.intOf]; omega
    · obtain rfl : j = N := by omega
      have c0 := HB.out.cell 0
      have c1 := HB.out.cell 1
      have c2 := HB.out.cell 2
      have bl8 := HB.out.lt
      have z0 := HZ.out.cell 0
      have z1 := HZ.out.cell 1
      have z2 := HZ.out.cell 2
      have zl := HZ.out.lt
      have zf := fun q => HZ.out.frozen q
      simp only [List.getElem?_toArray, List.getElem?_cons_zero, List.getElem?_cons_succ] at c0 c1 c2 z0 z1 z2
      have hzr := blk_row_ne HZ.out HO.out (by decide)
      have HNR := Lib.hid hzr
      clear hzr
      go_wp2
      refine body_letW ?_
      intro E hE
      have HZE := (show Blk E w.heap.size 56 #[.int .i64 lo, .int .i64 hi, .slice a1 j cp] by rw [hE]; exact ((HZ.out.set_ 0 _).set_ 1 _).set_ 2 _)
      have HSE := (show PaS W0 g t n c (k + 1 + j) E by rw [hE]; exact ((HS.out.set HGg.out gl _).set HGg.out gl _).set HGg.out gl _)
      have HCE := (show ChgG g w E by rw [hE]; exact chg_new (chg_new (chg_new HC.out (Nat.le_refl _) _) (Nat.le_refl _) _) (Nat.le_refl _) _)
      have HOE := (show E.ownsRow w.heap.size 38 8 (.slice a1 j cp) j (code.flatMap Ins.cells) by
        have ho := HO.out
        rw [List.take_of_length_le (by have := HNN.out; omega)] at ho
        rw [hE]
        exact owns_far (owns_far (owns_far ho HNR.out _) HNR.out _) HNR.out _)
      clear hE
      have k0 := HZE.cell 0
      have k1 := HZE.cell 1
      have k2 := HZE.cell 2
      simp only [List.getElem?_toArray, List.getElem?_cons_zero, List.getElem?_cons_succ] at k0 k1 k2
      have kl := HZE.lt
      refine bodyPost_ret (by simp [results, Tryz.results65, go_sem, k0, k1, k2, kl]; try rfl) rfl ?_
      exact ⟨_, rfl, HOE, by rw [show k + (1 + j) = k + 1 + j by omega]; exact HSE, HCE⟩
end Go.Proofs.YtcdfomoglkhboaaGreatDoor
