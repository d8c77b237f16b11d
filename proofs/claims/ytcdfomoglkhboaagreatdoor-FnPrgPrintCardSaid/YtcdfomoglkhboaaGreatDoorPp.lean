/- The lines of a program: the reference's and the program's. Itoa wants the table of powers of ten. -/
import Derived.Test.YtcdfomoglkhboaaGreatDoorTi
import Derived.Test.YtcdfomoglkhboaaGreatDoorRgA
import Derived.Test.YtcdfomoglkhboaaGreatDoorPrgOkI
import Derived.Test.YtcdfomoglkhboaaGreatDoorTxF
namespace Go.Proofs.YtcdfomoglkhboaaGreatDoor
open Go.RowKit Go.Lib
set_option linter.unusedVariables false
set_option linter.unusedSimpArgs false
attribute [local go_sem] ext_cell ext_frozen ext_lt ext_le ext_le1 lt_s2 lt_s3 lt_s4 lt_s5 lt_s6 ext_lt1 ext_lt2 ext_lt3
attribute [local go_sem] ByteArray.mk_append_mk

/-- What both print: no line of a program that is not ok. -/
def printB (ps : List Prc) : List (List UInt8) := if prgOkB ps then printL ps else []
/-- The lines of the first k procedures. -/
def preT (ps : List Prc) (k : Nat) : List (List UInt8) := headL ps.length :: (ps.take k).flatMap linesC
theorem preT_succ {ps : List Prc} {k : Nat} {p : Prc} (h : ps[k]? = some p) : preT ps (k + 1) = preT ps k ++ linesC p := by
  unfold preT
  rw [List.take_add_one, h]
  simp
theorem preT_all {ps : List Prc} {k : Nat} (h : ps.length ≤ k) : preT ps k = printL ps := by
  unfold preT printL
  rw [List.take_of_length_le h]
theorem okCode {ps : List Prc} (h : prgOkB ps = true) : (1 ≤ ps.length ∧ ps.length ≤ 4) ∧ ∀ p, p ∈ ps → itvOkB p.lo p.hi = true ∧ 1 ≤ p.code.length ∧ p.code.length ≤ 10 ∧ ∀ i, i ∈ p.code → insOkB i ps.length p.code.length = true := by
  simp only [prgOkB, Bool.and_eq_true, decide_eq_true_eq, List.all_eq_true] at h
  refine ⟨h.1, fun p hp => ?_⟩
  have := h.2 p hp
  simp only [prcOkB, Bool.and_eq_true, decide_eq_true_eq, List.all_eq_true] at this
  exact ⟨this.1.1.1, this.1.1.2.1, this.1.1.2.2, this.1.2⟩
theorem linesC_le {p : Prc} (h : p.code.length ≤ 10) : (linesC p).length ≤ 11 := by rw [linesC_length]; omega
theorem preT_le {ps : List Prc} (h : prgOkB ps = true) (k : Nat) (hk : k ≤ ps.length) : (preT ps k).length ≤ 1 + 11 * k := by
  induction k with
  | zero => simp [preT]
  | succ k ih =>
    have hx : ps[k]? = some ps[k] := List.getElem?_eq_getElem hk
    rw [preT_succ hx, List.length_append]
    have := ih (by omega)
    have := linesC_le ((okCode h).2 _ (List.getElem_mem hk)).2.2.1
    omega
theorem printB_len (ps : List Prc) : (printB ps).length ≤ 45 := by
  unfold printB
  split
  · rename_i h
    rw [← preT_all (Nat.le_refl _)]
    have := preT_le h ps.length (Nat.le_refl _)
    have := (okCode h).1.2
    omega
  · simp
theorem textB_ok {i : Ins} {procs size : Int} (h : insOkB i procs size = true) : textB i procs size = textI i := by unfold textB; rw [h]; rfl
theorem prcL_eq (lo hi n : Int) : prcL lo hi n = ((((([112, 114, 111, 99, 32] : List UInt8) ++ itoa lo) ++ [32]) ++ itoa hi) ++ [32, 115, 105, 122, 101, 32]) ++ itoa n := by
  simp [prcL, join_cons, joinTail, procT, sizeT]
theorem headL_eq (n : Int) : headL n = ([112, 114, 111, 99, 115, 32] : List UInt8) ++ itoa n := by
  simp [headL, join_cons, joinTail, procsT]
/-- Ownership behind a change of the row's own block alone. -/
theorem grew_own {w E W : World} {v : Value} {T : TypeId} {n : Nat} {xs : List Value} (g : Grew w E) (ho : E.ownsRow w.heap.size T 1 v n xs) (c : Chg (fun b => v.ownBlock = some b) E W) : Grew w W :=
  g.trans (c.belowB g.size (fun b hb => (ho.lt b hb).1))

set_option maxRecDepth 100000 in
set_option maxHeartbeats 4000000 in
theorem specPrgPrintF (a : Option Addr) (n cap : Nat) (ps : List Prc) (w : World) (hr : RdP w a n ps) (hn : n ≤ 9223372036854775807) (hok : prgOkB ps = false) :
    Calls Tryz.prog 9 #[.agg #[.slice a n cap]] w fun e w' => RetSs [] w e w' := by
  have CO := fun w hr => specPrgOk a n cap ps w hr hn
  rw [hok] at CO
  have HCO := Lib.hid CO
  have HR := Lib.hid hr
  clear CO hok hr hn
  go_enter Tryz.func9, Tryz.ntmps9
  have HO := Lib.hid (World.ownsRow_made (base := w.heap.size) (e := 9) (size := 1) (w.alloc (.cells #[.slice a n cap] 25)) #[] 0 (by simp) (by unfold maxLen; omega) rfl)
  go_wp2_with fail
  refine (HCO.out _ (HR.out.grew (gr))).mono ?_
  rintro e w1 ⟨rfl, g1⟩
  have HO1 := Lib.hid (owns_grew HO.out g1)
  have HG1 := Lib.hid (show Grew w w1 from grew_tr (gr) g1)
  clear g1 HO
  go_wp2
  go_ret
  have ho := HO1.out
  simp only [World.size_alloc] at ho
  exact ⟨_, _, rfl, ho, HG1.out⟩

set_option maxRecDepth 100000 in
set_option maxHeartbeats 8000000 in
theorem specPrgPrintT (a : Option Addr) (n cap : Nat) (ps : List Prc) (w : World) (hr : RdP w a n ps) (hn : n ≤ 9223372036854775807) (hok : prgOkB ps = true) :
    Calls Tryz.prog 9 #[.agg #[.slice a n cap]] w fun e w' => RetSs (printL ps) w e w' := by
  have CO := fun w hr => specPrgOk a n cap ps w hr hn
  rw [hok] at CO
  have HCO := Lib.hid CO
  have hlen := hr.len
  obtain ⟨⟨hn1, hn4⟩, hpr⟩ := okCode hok
  have HPR := Lib.hid hpr
  have HLe := Lib.hid (fun k hk => preT_le hok k hk)
  have HR := Lib.hid hr
  have hn1' : 1 ≤ n := by omega
  have hn4' : n ≤ 4 := by omega
  have HL := Lib.hid hlen
  have HD := Lib.hid fun w => specDigits (n : Int) w (by omega) (by omega)
  have hli := itoa_len (n := (n : Int)) (by omega) (by omega)
  clear CO hok hr hn hlen hpr hn1 hn4
  go_enter Tryz.func9, Tryz.ntmps9
  have HO := Lib.hid (World.ownsRow_made (base := w.heap.size) (e := 9) (size := 1) (w.alloc (.cells #[.slice a n cap] 25)) #[] 0 (by simp) (by unfold maxLen; omega) rfl)
  have HB0 := Lib.hid (Blk.new w 25 #[.slice a n cap])
  go_wp2_with fail
  refine (HCO.out _ (HR.out.grew (gr))).mono ?_
  rintro e w1 ⟨rfl, g1⟩
  have HO1 := Lib.hid (owns_grew HO.out g1)
  have HG1 := Lib.hid (show Grew w w1 from grew_tr (gr) g1)
  have HB1 := Lib.hid ((HB0.out.alloc _).grew g1)
  clear g1 HO HB0
  have q0 := HB1.out.cell 0
  simp only [List.getElem?_toArray, List.getElem?_cons_zero] at q0
  have ql := HB1.out.lt
  go_wp2_with fail
  refine (HD.out _).mono ?_
  rintro e w2 ⟨rfl, g2⟩
  have HO2 := Lib.hid (owns_grew HO1.out g2)
  have HG2 := Lib.hid (grew_tr HG1.out g2)
  have HB2 := Lib.hid (HB1.out.grew g2)
  clear g2 HO1 HG1 HB1 q0 ql
  have hhl := Lib.hid (show headL (ps.length : Int) = (112 :: 114 :: 111 :: 99 :: 115 :: 32 :: itoa (n : Int)) by rw [HL.out, headL_eq]; rfl)
  have HPN := Lib.hid (show (printL ps).length = (preT ps ps.length).length by rw [preT_all (Nat.le_refl _)])
  have q0 := HB2.out.cell 0
  simp only [List.getElem?_toArray, List.getElem?_cons_zero] at q0
  have ql := HB2.out.lt
  obtain ⟨v3, w3, hrun, o3, g3, hv3⟩ := owns_append_lit (P := Tryz.prog) w2 strEl HO2.out 1 [.string ⟨(112 :: 114 :: 111 :: 99 :: 115 :: 32 :: itoa (n : Int)).toArray⟩] rfl (by simp [Value.oneCell']) (by omega) (by omega) HG2.out.size
  obtain ⟨a3, c3, rfl⟩ := owns_slice o3
  have HC3 := Lib.hid (Chg.of_grownBy g3)
  have HG3 := Lib.hid (grew_own HG2.out HO2.out HC3.out)
  have HB3 := Lib.hid (HB2.out.chg HC3.out (fun h => blk_row_ne HB2.out HO2.out (by decide) h))
  have HO3 := Lib.hid (show w3.ownsRow w.heap.size 9 1 (.slice a3 (0 + 1) c3) (0 + 1) (strs (preT ps 0)) by
    have e : strs (preT ps 0) = [] ++ [.string ⟨(112 :: 114 :: 111 :: 99 :: 115 :: 32 :: itoa (n : Int)).toArray⟩] := by simp [preT, strs, hhl.out]
    rw [e]; exact o3)
  have R := Lib.hid hrun
  clear hrun o3 g3 hv3 HC3
  go_wp2_with (at_builtin; refine wpList_append_run rfl _ _ rfl rfl rfl rfl R.out ?_)
  clear R HO2 HG2 HB2 q0 ql hhl
  go_loopw [3, 5] (fun out i wr => ∃ k : Nat, k ≤ n ∧ i = .int .i64 k ∧ Grew w wr ∧ Blk wr w.heap.size 25 #[.slice a n cap] ∧ ∃ (N : Nat) (a1 : Option Addr) (cp : Nat), out = .slice a1 N cp ∧ N = (preT ps k).length ∧ wr.ownsRow w.heap.size 9 1 (.slice a1 N cp) N (strs (preT ps k))) (fun _ i _ => n - (Go.RowKit.intOf i).toNat)
  case atStart => exact ⟨0, Nat.zero_le _, rfl, HG3.out, HB3.out, 1, a3, c3, rfl, by simp [preT], HO3.out⟩
  case round =>
    obtain ⟨k, hk, rfl, hg, hB, N, a1, cp, rfl, hN, hO⟩ := hrel
    have HG := Lib.hid hg
    have HB := Lib.hid hB
    have HO := Lib.hid hO
    have HN := Lib.hid hN
    have hNs : N ≤ 45 := by have := HLe.out k (by have := HL.out; omega); omega
    have q0 := HB.out.cell 0
    simp only [List.getElem?_toArray, List.getElem?_cons_zero] at q0
    have ql := HB.out.lt
    clear hg hB hO hN
    by_cases hlt : k < n
    · obtain ⟨b, off, lo, hi, is, ia, ic, rfl, hx, c0, c1, c2, hb, hi1, hi2, hi3⟩ := rdP_at HR.out hlt
      have HX := Lib.hid hx
      obtain ⟨hiv, hs1, hs10, hins⟩ := HPR.out _ (List.mem_of_getElem? hx)
      simp only at hiv hs1 hs10 hins
      obtain ⟨hnl, hnh⟩ := itvOkB_num hiv
      obtain ⟨hl1, hl2⟩ := numOkB_iff.1 hnl
      obtain ⟨hh1, hh2⟩ := numOkB_iff.1 hnh
      have CL := Lib.hid fun w => specDigits lo w (by omega) (by omega)
      have CH := Lib.hid fun w => specDigits hi w (by omega) (by omega)
      have CM := Lib.hid fun w => specDigits (is.length : Int) w (by omega) (by omega)
      have ll := itoa_len (n := lo) (by omega) (by omega)
      have lh := itoa_len (n := hi) (by omega) (by omega)
      have lm := itoa_len (n := (is.length : Int)) (by omega) (by omega)
      have HI := Lib.hid hi1
      have HIN := Lib.hid hins
      have d0 := gk HG.out c0
      have d1 := gk HG.out c1
      have d2 := gk HG.out c2
      have hb' : b < wr.heap.size := Nat.lt_of_lt_of_le hb HG.out.size
      clear hx hiv hins hnl hnh hl1 hl2 hh1 hh2 hi1 hi2 hi3 c0 c1 c2 hb
      go_wp2_with fail
      refine let_world ?_
      intro E hE
      have e0 : E.cell? ⟨wr.heap.size, 0, none⟩ = some (.int .i64 lo) := by rw [hE]; simp [go_sem]
      have e1 : E.cell? ⟨wr.heap.size, 1, none⟩ = some (.int .i64 hi) := by rw [hE]; simp [go_sem]
      have e2 : E.cell? ⟨wr.heap.size, 2, none⟩ = some (.slice ia is.length ic) := by rw [hE]; simp [go_sem]
      have BE : Hid (Blk E wr.heap.size 56 #[.int .i64 lo, .int .i64 hi, .slice ia is.length ic]) := Lib.hid (by rw [hE]; exact Blk.new _ _ _)
      have BP : Hid (Blk E w.heap.size 25 #[.slice (some ⟨b, off, none⟩) n cap]) := Lib.hid (by rw [hE]; exact HB.out.alloc _)
      have OE : Hid (E.ownsRow w.heap.size 9 1 (.slice a1 N cp) N (strs (preT ps k))) := Lib.hid (by rw [hE]; exact HO.out.alloc _)
      have GE : Hid (Grew w E) := Lib.hid (by rw [hE]; exact grew_al HG.out _)
      obtain ⟨g, hgg⟩ : ∃ g, g = wr.heap.size := ⟨_, rfl⟩
      rw [← hgg] at e0 e1 e2 BE
      rw [← hgg]
      clear hE HG HB HO q0 ql d0 d1 d2 hb' hgg
      refine region_wA 71 17 40 [pgV (.slice a1 N cp), pgV (.pointer (some ⟨g, 0, none⟩)), pgV (.int .i64 lo), pgV (.string ⟨(itoa lo : List UInt8).toArray⟩), pgV (.string ⟨(([112, 114, 111, 99, 32]) ++ (itoa lo) : List UInt8).toArray⟩), pgV (.string ⟨((([112, 114, 111, 99, 32]) ++ (itoa lo)) ++ ([32]) : List UInt8).toArray⟩), pgV (.pointer (some ⟨g, 1, none⟩)), pgV (.int .i64 hi), pgV (.string ⟨(itoa hi : List UInt8).toArray⟩), pgV (.string ⟨(((([112, 114, 111, 99, 32]) ++ (itoa lo)) ++ ([32])) ++ (itoa hi) : List UInt8).toArray⟩), pgV (.string ⟨((((([112, 114, 111, 99, 32]) ++ (itoa lo)) ++ ([32])) ++ (itoa hi)) ++ ([32, 115, 105, 122, 101, 32]) : List UInt8).toArray⟩), pgV (.pointer (some ⟨g, 2, none⟩)), pgV (.slice ia is.length ic), pgV (.int .i64 is.length), pgV (.string ⟨(itoa (is.length : Int) : List UInt8).toArray⟩), pgV (.string ⟨(((((([112, 114, 111, 99, 32]) ++ (itoa lo)) ++ ([32])) ++ (itoa hi)) ++ ([32, 115, 105, 122, 101, 32])) ++ (itoa (is.length : Int)) : List UInt8).toArray⟩), pgS (E.heap.size) (1) (1) ([((((([112, 114, 111, 99, 32]) ++ (itoa lo)) ++ ([32])) ++ (itoa hi)) ++ ([32, 115, 105, 122, 101, 32])) ++ (itoa (is.length : Int))]), pgO (w.heap.size) (N + 1) (preT ps k ++ [((((([112, 114, 111, 99, 32] : List UInt8) ++ itoa lo) ++ [32]) ++ itoa hi) ++ [32, 115, 105, 122, 101, 32]) ++ itoa (is.length : Int)]), pgO (w.heap.size) (N + 1) (preT ps k ++ [((((([112, 114, 111, 99, 32] : List UInt8) ++ itoa lo) ++ [32]) ++ itoa hi) ++ [32, 115, 105, 122, 101, 32]) ++ itoa (is.length : Int)])] (fun W => Chg (fun b => (Value.slice a1 N cp).ownBlock = some b) E W) (by kernel_rfl) rfl (by kernel_rfl) rfl (by kernel_rfl) (far_get ⟨far_V, far_V, far_V, far_V, far_V, far_V, far_V, far_V, far_V, far_V, far_V, far_V, far_V, far_V, far_V, far_V, far_S (Nat.le_refl _), trivial⟩) ⟨?_, ?_, ?_, ?_, ?_, ?_, ?_, ?_, ?_, ?_, ?_, ?_, ?_, ?_, ?_, ?_, ?_, trivial⟩ 49 (by kernel_rfl) rfl (by kernel_rfl) rfl ?_ ?_
      · exact w_vx (v := .slice a1 N cp) rfl (fun A W h => by
        have e3 : A.eval (.tmp 3) = .slice a1 N cp := (h.slot 3).trans rfl
        simp only [execOp, e3]
        first | (simp [go_sem]; done) | rfl | kernel_rfl)
      · exact w_vx (v := .pointer (some ⟨g, 0, none⟩)) rfl (fun A W h => by
        have e6 : A.eval (.tmp 6) = .pointer (some ⟨g, 0, none⟩) := (h.slot 6).trans rfl
        simp only [execOp, e6]
        first | (simp [go_sem]; done) | rfl | kernel_rfl)
      · exact w_vx (v := .int .i64 lo) rfl (fun A W h => by
        have e33 : A.eval (.tmp 33) = .pointer (some ⟨g, 0, none⟩) := h.vb 1 33
        have k0 := gk h.grew e0
        simp only [execOp, e33]
        simp [go_sem, k0])
      · exact w_call (v := .string ⟨(itoa lo : List UInt8).toArray⟩) rfl (fun A W h => by
        have e34 : A.eval (.tmp 34) = .int .i64 lo := h.vb 2 34
        refine Eq.trans (b := .ok (.enter 29 #[A.eval (.tmp 34)]) W) (by kernel_rfl) ?_
        rw [e34]) (fun W hW => CL.out W)
      · exact w_vx (v := .string ⟨(([112, 114, 111, 99, 32]) ++ (itoa lo) : List UInt8).toArray⟩) rfl (fun A W h => by
        have e35 : A.eval (.tmp 35) = .string ⟨(itoa lo : List UInt8).toArray⟩ := h.vb 3 35
        have hh := str_add (P := Tryz.prog) 9 ([112, 114, 111, 99, 32]) (itoa lo) (by simp only [List.length_append, List.length_cons, List.length_nil]; omega) W
        simp only [execOp, e35]
        simp only [Sem.run_bind, evalK, eqGuard_add, hh, Result.andThen_ok, Sem.run_pure])
      · exact w_vx (v := .string ⟨((([112, 114, 111, 99, 32]) ++ (itoa lo)) ++ ([32]) : List UInt8).toArray⟩) rfl (fun A W h => by
        have e36 : A.eval (.tmp 36) = .string ⟨(([112, 114, 111, 99, 32]) ++ (itoa lo) : List UInt8).toArray⟩ := h.vb 4 36
        have hh := str_add (P := Tryz.prog) 9 (([112, 114, 111, 99, 32]) ++ (itoa lo)) ([32]) (by simp only [List.length_append, List.length_cons, List.length_nil]; omega) W
        simp only [execOp, e36]
        simp only [Sem.run_bind, evalK, eqGuard_add, hh, Result.andThen_ok, Sem.run_pure])
      · exact w_vx (v := .pointer (some ⟨g, 1, none⟩)) rfl (fun A W h => by
        have e6 : A.eval (.tmp 6) = .pointer (some ⟨g, 0, none⟩) := (h.slot 6).trans rfl
        simp only [execOp, e6]
        first | (simp [go_sem]; done) | rfl | kernel_rfl)
      · exact w_vx (v := .int .i64 hi) rfl (fun A W h => by
        have e38 : A.eval (.tmp 38) = .pointer (some ⟨g, 1, none⟩) := h.vb 6 38
        have k0 := gk h.grew e1
        simp only [execOp, e38]
        simp [go_sem, k0])
      · exact w_call (v := .string ⟨(itoa hi : List UInt8).toArray⟩) rfl (fun A W h => by
        have e39 : A.eval (.tmp 39) = .int .i64 hi := h.vb 7 39
        refine Eq.trans (b := .ok (.enter 29 #[A.eval (.tmp 39)]) W) (by kernel_rfl) ?_
        rw [e39]) (fun W hW => CH.out W)
      · exact w_vx (v := .string ⟨(((([112, 114, 111, 99, 32]) ++ (itoa lo)) ++ ([32])) ++ (itoa hi) : List UInt8).toArray⟩) rfl (fun A W h => by
        have e37 : A.eval (.tmp 37) = .string ⟨((([112, 114, 111, 99, 32]) ++ (itoa lo)) ++ ([32]) : List UInt8).toArray⟩ := h.vb 5 37
        have e40 : A.eval (.tmp 40) = .string ⟨(itoa hi : List UInt8).toArray⟩ := h.vb 8 40
        have hh := str_add (P := Tryz.prog) 9 ((([112, 114, 111, 99, 32]) ++ (itoa lo)) ++ ([32])) (itoa hi) (by simp only [List.length_append, List.length_cons, List.length_nil]; omega) W
        simp only [execOp, e37, e40]
        simp only [Sem.run_bind, evalK, eqGuard_add, hh, Result.andThen_ok, Sem.run_pure])
      · exact w_vx (v := .string ⟨((((([112, 114, 111, 99, 32]) ++ (itoa lo)) ++ ([32])) ++ (itoa hi)) ++ ([32, 115, 105, 122, 101, 32]) : List UInt8).toArray⟩) rfl (fun A W h => by
        have e41 : A.eval (.tmp 41) = .string ⟨(((([112, 114, 111, 99, 32]) ++ (itoa lo)) ++ ([32])) ++ (itoa hi) : List UInt8).toArray⟩ := h.vb 9 41
        have hh := str_add (P := Tryz.prog) 9 (((([112, 114, 111, 99, 32]) ++ (itoa lo)) ++ ([32])) ++ (itoa hi)) ([32, 115, 105, 122, 101, 32]) (by simp only [List.length_append, List.length_cons, List.length_nil]; omega) W
        simp only [execOp, e41]
        simp only [Sem.run_bind, evalK, eqGuard_add, hh, Result.andThen_ok, Sem.run_pure])
      · exact w_vx (v := .pointer (some ⟨g, 2, none⟩)) rfl (fun A W h => by
        have e6 : A.eval (.tmp 6) = .pointer (some ⟨g, 0, none⟩) := (h.slot 6).trans rfl
        simp only [execOp, e6]
        first | (simp [go_sem]; done) | rfl | kernel_rfl)
      · exact w_vx (v := .slice ia is.length ic) rfl (fun A W h => by
        have e43 : A.eval (.tmp 43) = .pointer (some ⟨g, 2, none⟩) := h.vb 11 43
        have k0 := gk h.grew e2
        simp only [execOp, e43]
        simp [go_sem, k0])
      · exact w_vx (v := .int .i64 is.length) rfl (fun A W h => by
        have e44 : A.eval (.tmp 44) = .slice ia is.length ic := h.vb 12 44
        simp only [execOp, resolve, invoke, builtin, Sem.run_bind, Sem.run_pure, Result.andThen_ok, List.map_toArray, List.map_cons, List.map_nil, e44]
        simp [go_sem])
      · exact w_call (v := .string ⟨(itoa (is.length : Int) : List UInt8).toArray⟩) rfl (fun A W h => by
        have e45 : A.eval (.tmp 45) = .int .i64 is.length := h.vb 13 45
        refine Eq.trans (b := .ok (.enter 29 #[A.eval (.tmp 45)]) W) (by kernel_rfl) ?_
        rw [e45]) (fun W hW => CM.out W)
      · exact w_vx (v := .string ⟨(((((([112, 114, 111, 99, 32]) ++ (itoa lo)) ++ ([32])) ++ (itoa hi)) ++ ([32, 115, 105, 122, 101, 32])) ++ (itoa (is.length : Int)) : List UInt8).toArray⟩) rfl (fun A W h => by
        have e42 : A.eval (.tmp 42) = .string ⟨((((([112, 114, 111, 99, 32]) ++ (itoa lo)) ++ ([32])) ++ (itoa hi)) ++ ([32, 115, 105, 122, 101, 32]) : List UInt8).toArray⟩ := h.vb 10 42
        have e46 : A.eval (.tmp 46) = .string ⟨(itoa (is.length : Int) : List UInt8).toArray⟩ := h.vb 14 46
        have hh := str_add (P := Tryz.prog) 9 ((((([112, 114, 111, 99, 32]) ++ (itoa lo)) ++ ([32])) ++ (itoa hi)) ++ ([32, 115, 105, 122, 101, 32])) (itoa (is.length : Int)) (by simp only [List.length_append, List.length_cons, List.length_nil]; omega) W
        simp only [execOp, e42, e46]
        simp only [Sem.run_bind, evalK, eqGuard_add, hh, Result.andThen_ok, Sem.run_pure])
      · exact w_build _ 1 _ rfl #[(0, .string ⟨(((((([112, 114, 111, 99, 32]) ++ (itoa lo)) ++ ([32])) ++ (itoa hi)) ++ ([32, 115, 105, 122, 101, 32])) ++ (itoa (is.length : Int)) : List UInt8).toArray⟩)] #[.string ⟨(((((([112, 114, 111, 99, 32]) ++ (itoa lo)) ++ ([32])) ++ (itoa hi)) ++ ([32, 115, 105, 122, 101, 32])) ++ (itoa (is.length : Int)) : List UInt8).toArray⟩] 9 (fun A W h => by
        have e47 : A.eval (.tmp 47) = .string ⟨(((((([112, 114, 111, 99, 32]) ++ (itoa lo)) ++ ([32])) ++ (itoa hi)) ++ ([32, 115, 105, 122, 101, 32])) ++ (itoa (is.length : Int)) : List UInt8).toArray⟩ := h.vb 15 47
        simp only [List.map_toArray, List.map_cons, List.map_nil, evalK, e47]) (fun W => by simp [go_sem]) rfl (Nat.le_refl _) rfl
      · intro o ho A W h
        obtain rfl := Option.some.inj ho
        have e32 : A.eval (.tmp 32) = .slice a1 N cp := h.vb 0 32
        obtain ⟨y48, e48, hB48, hlt48, hc48⟩ := h.vb 16 48
        exact app_one rfl rfl e32 e48 h.grew OE.out GE.out.size (hc48 0 _ rfl) (by omega) rfl
      intro vs w9 g9 hR
      have x0 : vs 0 = .slice a1 N cp := hR 0 32 (by kernel_rfl)
      have x1 : vs 1 = .pointer (some ⟨g, 0, none⟩) := hR 1 33 (by kernel_rfl)
      have x2 : vs 2 = .int .i64 lo := hR 2 34 (by kernel_rfl)
      have x3 : vs 3 = .string ⟨(itoa lo : List UInt8).toArray⟩ := hR 3 35 (by kernel_rfl)
      have x4 : vs 4 = .string ⟨(([112, 114, 111, 99, 32]) ++ (itoa lo) : List UInt8).toArray⟩ := hR 4 36 (by kernel_rfl)
      have x5 : vs 5 = .string ⟨((([112, 114, 111, 99, 32]) ++ (itoa lo)) ++ ([32]) : List UInt8).toArray⟩ := hR 5 37 (by kernel_rfl)
      have x6 : vs 6 = .pointer (some ⟨g, 1, none⟩) := hR 6 38 (by kernel_rfl)
      have x7 : vs 7 = .int .i64 hi := hR 7 39 (by kernel_rfl)
      have x8 : vs 8 = .string ⟨(itoa hi : List UInt8).toArray⟩ := hR 8 40 (by kernel_rfl)
      have x9 : vs 9 = .string ⟨(((([112, 114, 111, 99, 32]) ++ (itoa lo)) ++ ([32])) ++ (itoa hi) : List UInt8).toArray⟩ := hR 9 41 (by kernel_rfl)
      have x10 : vs 10 = .string ⟨((((([112, 114, 111, 99, 32]) ++ (itoa lo)) ++ ([32])) ++ (itoa hi)) ++ ([32, 115, 105, 122, 101, 32]) : List UInt8).toArray⟩ := hR 10 42 (by kernel_rfl)
      have x11 : vs 11 = .pointer (some ⟨g, 2, none⟩) := hR 11 43 (by kernel_rfl)
      have x12 : vs 12 = .slice ia is.length ic := hR 12 44 (by kernel_rfl)
      have x13 : vs 13 = .int .i64 is.length := hR 13 45 (by kernel_rfl)
      have x14 : vs 14 = .string ⟨(itoa (is.length : Int) : List UInt8).toArray⟩ := hR 14 46 (by kernel_rfl)
      have x15 : vs 15 = .string ⟨(((((([112, 114, 111, 99, 32]) ++ (itoa lo)) ++ ([32])) ++ (itoa hi)) ++ ([32, 115, 105, 122, 101, 32])) ++ (itoa (is.length : Int)) : List UInt8).toArray⟩ := hR 15 47 (by kernel_rfl)
      obtain ⟨z16, x16, zB16, zl16, zc16⟩ := hR 16 48 (by kernel_rfl)
      have o17 : w9.ownsRow w.heap.size 9 1 (vs 17) (N + 1) (strs (preT ps k ++ [((((([112, 114, 111, 99, 32] : List UInt8) ++ itoa lo) ++ [32]) ++ itoa hi) ++ [32, 115, 105, 122, 101, 32]) ++ itoa (is.length : Int)])) := hR 17 49 (by kernel_rfl)
      have o18 : w9.ownsRow w.heap.size 9 1 (vs 18) (N + 1) (strs (preT ps k ++ [((((([112, 114, 111, 99, 32] : List UInt8) ++ itoa lo) ++ [32]) ++ itoa hi) ++ [32, 115, 105, 122, 101, 32]) ++ itoa (is.length : Int)])) := hR 18 3 (by kernel_rfl)
      simp only [putAll, Act.put, List.setIfInBounds_toArray, List.set_cons_zero, List.set_cons_succ, Nat.zero_add, Nat.reduceAdd, x0, x1, x2, x3, x4, x5, x6, x7, x8, x9, x10, x11, x12, x13, x14, x15, x16]
      clear hR x0 x1 x2 x3 x4 x5 x6 x7 x8 x9 x10 x11 x12 x13 x14 x15 x16
      generalize vs 17 = v17 at *
      generalize vs 18 = v18 at *
      obtain ⟨a17, c17, rfl⟩ := owns_slice o17
      obtain ⟨a18, c18, rfl⟩ := owns_slice o18
      clear o17
      have BX := Lib.hid (BE.out.chg g9 (fun h => blk_row_ne BE.out OE.out (by decide) h))
      have BPX := Lib.hid (BP.out.chg g9 (fun h => blk_row_ne BP.out OE.out (by decide) h))
      have GX := Lib.hid (grew_own GE.out OE.out g9)
      rw [← prcL_eq] at o18
      have OX := Lib.hid o18
      clear o18 g9 BE BP GE OE e0 e1 e2 CL CH CM
      go_wp2_with fail
      go_loopw [3, 7] (fun out j wq => ∃ i : Nat, i ≤ is.length ∧ j = .int .i64 i ∧ Grew w wq ∧ Blk wq g 56 #[.int .i64 lo, .int .i64 hi, .slice ia is.length ic] ∧ Blk wq w.heap.size 25 #[.slice (some ⟨b, off, none⟩) n cap] ∧
        ∃ (M : Nat) (a2 : Option Addr) (cq : Nat), out = .slice a2 M cq ∧ M = N + 1 + i ∧ wq.ownsRow w.heap.size 9 1 (.slice a2 M cq) M (strs (preT ps k ++ [prcL lo hi is.length] ++ (is.take i).map textI))) (fun _ j _ => is.length - (Go.RowKit.intOf j).toNat)
      case atStart => exact ⟨0, Nat.zero_le _, rfl, GX.out, BX.out, BPX.out, N + 1, a18, c18, rfl, rfl, by simpa using OX.out⟩
      case round =>
        obtain ⟨i, hi', rfl, hg, hB, hBP, M, a2, cq, rfl, hM, hO⟩ := hrel
        have HG := Lib.hid hg
        have HB := Lib.hid hB
        have HBP := Lib.hid hBP
        have OE := Lib.hid hO
        have HM := Lib.hid hM
        have hMs : M ≤ 60 := by omega
        have q2 := HB.out.cell 2
        simp only [List.getElem?_toArray, List.getElem?_cons_zero, List.getElem?_cons_succ] at q2
        have ql := HB.out.lt
        clear hg hB hBP hO hM
        by_cases hlt2 : i < is.length
        · obtain ⟨b2, off2, op, d, iA, iB, rel, lo', hi2, tv, rfl, hx2, u0, u1, u2, u3, u4, u5, u6, u7, hb2⟩ := rdI_at HI.out hlt2
          have HX2 := Lib.hid hx2
          have hok2 := HIN.out _ (List.mem_of_getElem? hx2)
          have hto := (numOkB_iff.1 (to_small hok2 (by have := HL.out; omega) (by omega))).2
          have CI := fun w => specInsText ⟨op, d, iA, iB, rel, lo', hi2, tv⟩ (ps.length : Int) (is.length : Int) w (Int.le_trans hto (by decide))
          rw [textB_ok hok2, HL.out] at CI
          have CI := Lib.hid CI
          clear hx2 hok2 hto
          have GE := HG
          have p0 := gk HG.out u0
          have p1 := gk HG.out u1
          have p2 := gk HG.out u2
          have p3 := gk HG.out u3
          have p4 := gk HG.out u4
          have p5 := gk HG.out u5
          have p6 := gk HG.out u6
          have p7 := gk HG.out u7
          clear u0 u1 u2 u3 u4 u5 u6 u7
          go_wp2_with fail
          refine region_wA 71 12 40 [pgV (.slice a2 M cq), pgV (.pointer (some ⟨g, 2, none⟩)), pgV (.slice (some ⟨b2, off2, none⟩) is.length ic), pgV (.int .i64 i), pgV (.pointer (some ⟨b2, off2 + i * 8, none⟩)), pgV (.agg #[.int .i64 op, .int .i64 d, .int .i64 iA, .int .i64 iB, .int .i64 rel, .int .i64 lo', .int .i64 hi2, .int .i64 tv]), pgV (.int .i64 n), pgV (.pointer (some ⟨g, 2, none⟩)), pgV (.slice (some ⟨b2, off2, none⟩) is.length ic), pgV (.int .i64 is.length), pgV (.string ⟨(textI ⟨op, d, iA, iB, rel, lo', hi2, tv⟩ : List UInt8).toArray⟩), pgS (wr.heap.size) (1) (1) ([textI ⟨op, d, iA, iB, rel, lo', hi2, tv⟩]), pgO (w.heap.size) (M + 1) ((preT ps k ++ [prcL lo hi is.length] ++ (is.take i).map textI) ++ [textI ⟨op, d, iA, iB, rel, lo', hi2, tv⟩]), pgO (w.heap.size) (M + 1) ((preT ps k ++ [prcL lo hi is.length] ++ (is.take i).map textI) ++ [textI ⟨op, d, iA, iB, rel, lo', hi2, tv⟩])] (fun W => Chg (fun b => (Value.slice a2 M cq).ownBlock = some b) wr W) (by kernel_rfl) rfl (by kernel_rfl) rfl (by kernel_rfl) (far_get ⟨far_V, far_V, far_V, far_V, far_V, far_V, far_V, far_V, far_V, far_V, far_V, far_S (Nat.le_refl _), trivial⟩) ⟨?_, ?_, ?_, ?_, ?_, ?_, ?_, ?_, ?_, ?_, ?_, ?_, trivial⟩ 69 (by kernel_rfl) rfl (by kernel_rfl) rfl ?_ ?_
          · exact w_vx (v := .slice a2 M cq) rfl (fun A W h => by
            have e3 : A.eval (.tmp 3) = .slice a2 M cq := (h.slot 3).trans rfl
            simp only [execOp, e3]
            first | (simp [go_sem]; done) | rfl | kernel_rfl)
          · exact w_vx (v := .pointer (some ⟨g, 2, none⟩)) rfl (fun A W h => by
            have e6 : A.eval (.tmp 6) = .pointer (some ⟨g, 0, none⟩) := (h.slot 6).trans rfl
            simp only [execOp, e6]
            first | (simp [go_sem]; done) | rfl | kernel_rfl)
          · exact w_vx (v := .slice (some ⟨b2, off2, none⟩) is.length ic) rfl (fun A W h => by
            have e58 : A.eval (.tmp 58) = .pointer (some ⟨g, 2, none⟩) := h.vb 1 58
            have k0 := gk h.grew q2
            simp only [execOp, e58]
            simp [go_sem, k0])
          · exact w_vx (v := .int .i64 i) rfl (fun A W h => by
            have e7 : A.eval (.tmp 7) = .int .i64 i := (h.slot 7).trans rfl
            simp only [execOp, e7]
            first | (simp [go_sem]; done) | rfl | kernel_rfl)
          · exact w_vx (v := .pointer (some ⟨b2, off2 + i * 8, none⟩)) rfl (fun A W h => by
            have e59 : A.eval (.tmp 59) = .slice (some ⟨b2, off2, none⟩) is.length ic := h.vb 2 59
            have e60 : A.eval (.tmp 60) = .int .i64 i := h.vb 3 60
            simp only [execOp, e59, e60]
            simp [go_sem, hlt2])
          · exact w_vx (v := .agg #[.int .i64 op, .int .i64 d, .int .i64 iA, .int .i64 iB, .int .i64 rel, .int .i64 lo', .int .i64 hi2, .int .i64 tv]) rfl (fun A W h => by
            have e61 : A.eval (.tmp 61) = .pointer (some ⟨b2, off2 + i * 8, none⟩) := h.vb 4 61
            have k0 := gk h.grew p0; have k1 := gk h.grew p1; have k2 := gk h.grew p2; have k3 := gk h.grew p3; have k4 := gk h.grew p4; have k5 := gk h.grew p5; have k6 := gk h.grew p6; have k7 := gk h.grew p7
            simp only [execOp, e61]
            simp [go_sem, k0, k1, k2, k3, k4, k5, k6, k7])
          · exact w_vx (v := .int .i64 n) rfl (fun A W h => by
            have e4 : A.eval (.tmp 4) = .int .i64 n := (h.slot 4).trans rfl
            simp only [execOp, e4]
            first | (simp [go_sem]; done) | rfl | kernel_rfl)
          · exact w_vx (v := .pointer (some ⟨g, 2, none⟩)) rfl (fun A W h => by
            have e6 : A.eval (.tmp 6) = .pointer (some ⟨g, 0, none⟩) := (h.slot 6).trans rfl
            simp only [execOp, e6]
            first | (simp [go_sem]; done) | rfl | kernel_rfl)
          · exact w_vx (v := .slice (some ⟨b2, off2, none⟩) is.length ic) rfl (fun A W h => by
            have e64 : A.eval (.tmp 64) = .pointer (some ⟨g, 2, none⟩) := h.vb 7 64
            have k0 := gk h.grew q2
            simp only [execOp, e64]
            simp [go_sem, k0])
          · exact w_vx (v := .int .i64 is.length) rfl (fun A W h => by
            have e65 : A.eval (.tmp 65) = .slice (some ⟨b2, off2, none⟩) is.length ic := h.vb 8 65
            simp only [execOp, resolve, invoke, builtin, Sem.run_bind, Sem.run_pure, Result.andThen_ok, List.map_toArray, List.map_cons, List.map_nil, e65]
            simp [go_sem])
          · exact w_call (v := .string ⟨(textI ⟨op, d, iA, iB, rel, lo', hi2, tv⟩ : List UInt8).toArray⟩) rfl (fun A W h => by
            have e62 : A.eval (.tmp 62) = .agg #[.int .i64 op, .int .i64 d, .int .i64 iA, .int .i64 iB, .int .i64 rel, .int .i64 lo', .int .i64 hi2, .int .i64 tv] := h.vb 5 62
            have e63 : A.eval (.tmp 63) = .int .i64 n := h.vb 6 63
            have e66 : A.eval (.tmp 66) = .int .i64 is.length := h.vb 9 66
            refine Eq.trans (b := .ok (.enter 21 #[A.eval (.tmp 62), A.eval (.tmp 63), A.eval (.tmp 66)]) W) (by kernel_rfl) ?_
            rw [e62, e63, e66]) (fun W hW => CI.out W)
          · exact w_build _ 1 _ rfl #[(0, .string ⟨(textI ⟨op, d, iA, iB, rel, lo', hi2, tv⟩ : List UInt8).toArray⟩)] #[.string ⟨(textI ⟨op, d, iA, iB, rel, lo', hi2, tv⟩ : List UInt8).toArray⟩] 9 (fun A W h => by
            have e67 : A.eval (.tmp 67) = .string ⟨(textI ⟨op, d, iA, iB, rel, lo', hi2, tv⟩ : List UInt8).toArray⟩ := h.vb 10 67
            simp only [List.map_toArray, List.map_cons, List.map_nil, evalK, e67]) (fun W => by simp [go_sem]) rfl (Nat.le_refl _) rfl
          · intro o ho A W h
            obtain rfl := Option.some.inj ho
            have e57 : A.eval (.tmp 57) = .slice a2 M cq := h.vb 0 57
            obtain ⟨y68, e68, hB68, hlt68, hc68⟩ := h.vb 11 68
            exact app_one rfl rfl e57 e68 h.grew OE.out GE.out.size (hc68 0 _ rfl) (by omega) rfl
          intro vs w9 g9 hR
          have x0 : vs 0 = .slice a2 M cq := hR 0 57 (by kernel_rfl)
          have x1 : vs 1 = .pointer (some ⟨g, 2, none⟩) := hR 1 58 (by kernel_rfl)
          have x2 : vs 2 = .slice (some ⟨b2, off2, none⟩) is.length ic := hR 2 59 (by kernel_rfl)
          have x3 : vs 3 = .int .i64 i := hR 3 60 (by kernel_rfl)
          have x4 : vs 4 = .pointer (some ⟨b2, off2 + i * 8, none⟩) := hR 4 61 (by kernel_rfl)
          have x5 : vs 5 = .agg #[.int .i64 op, .int .i64 d, .int .i64 iA, .int .i64 iB, .int .i64 rel, .int .i64 lo', .int .i64 hi2, .int .i64 tv] := hR 5 62 (by kernel_rfl)
          have x6 : vs 6 = .int .i64 n := hR 6 63 (by kernel_rfl)
          have x7 : vs 7 = .pointer (some ⟨g, 2, none⟩) := hR 7 64 (by kernel_rfl)
          have x8 : vs 8 = .slice (some ⟨b2, off2, none⟩) is.length ic := hR 8 65 (by kernel_rfl)
          have x9 : vs 9 = .int .i64 is.length := hR 9 66 (by kernel_rfl)
          have x10 : vs 10 = .string ⟨(textI ⟨op, d, iA, iB, rel, lo', hi2, tv⟩ : List UInt8).toArray⟩ := hR 10 67 (by kernel_rfl)
          obtain ⟨z11, x11, zB11, zl11, zc11⟩ := hR 11 68 (by kernel_rfl)
          have o12 : w9.ownsRow w.heap.size 9 1 (vs 12) (M + 1) (strs ((preT ps k ++ [prcL lo hi is.length] ++ (is.take i).map textI) ++ [textI ⟨op, d, iA, iB, rel, lo', hi2, tv⟩])) := hR 12 69 (by kernel_rfl)
          have o13 : w9.ownsRow w.heap.size 9 1 (vs 13) (M + 1) (strs ((preT ps k ++ [prcL lo hi is.length] ++ (is.take i).map textI) ++ [textI ⟨op, d, iA, iB, rel, lo', hi2, tv⟩])) := hR 13 3 (by kernel_rfl)
          simp only [putAll, Act.put, List.setIfInBounds_toArray, List.set_cons_zero, List.set_cons_succ, Nat.zero_add, Nat.reduceAdd, x0, x1, x2, x3, x4, x5, x6, x7, x8, x9, x10, x11]
          clear hR x0 x1 x2 x3 x4 x5 x6 x7 x8 x9 x10 x11
          generalize vs 12 = v12 at *
          generalize vs 13 = v13 at *
          obtain ⟨a12, c12, rfl⟩ := owns_slice o12
          obtain ⟨a13, c13, rfl⟩ := owns_slice o13
          clear o12
          have BX2 := Lib.hid (HB.out.chg g9 (fun h => blk_row_ne HB.out OE.out (by decide) h))
          have BPX2 := Lib.hid (HBP.out.chg g9 (fun h => blk_row_ne HBP.out OE.out (by decide) h))
          have GX2 := Lib.hid (grew_own HG.out OE.out g9)
          have OX2 := Lib.hid o13
          clear o13 g9 HB HBP HG GE OE q2 ql p0 p1 p2 p3 p4 p5 p6 p7 CI
          go_wp2_with fail
          go_roundw
          case rel => exact ⟨i + 1, by omega, by go_num, GX2.out, BX2.out, BPX2.out, M + 1, a13, c13, rfl, by have := HM.out; omega, by rw [take_get HX2.out, List.map_append, ← List.append_assoc]; exact OX2.out⟩
          case measure => simp [Go.RowKit.intOf]; omega
        · obtain rfl : i = is.length := by omega
          go_wp2_with fail
          go_roundw
          case rel => exact ⟨k + 1, by omega, by go_num, HG.out, HBP.out, M, a2, cq, rfl, by rw [preT_succ HX.out, List.length_append, linesC_length, ← HN.out, HM.out]; simp only; omega, by
            have h := OE.out
            rw [List.take_of_length_le (Nat.le_refl _), List.append_assoc] at h
            rw [preT_succ HX.out]
            exact h⟩
          case measure => simp [Go.RowKit.intOf]; omega
    · obtain rfl : k = n := by omega
      have e : printL ps = preT ps k := (preT_all (by have := HL.out; omega)).symm
      go_wp2
      go_ret
      rw [e]
      have hN := HN.out
      subst hN
      exact ⟨a1, cp, rfl, HO.out, HG.out⟩

set_option maxRecDepth 100000 in
set_option maxHeartbeats 4000000 in
theorem implPrgPrintF (a : Option Addr) (n cap : Nat) (ps : List Prc) (w : World) (hr : RdP w a n ps) (hn : n ≤ 9223372036854775807) (hok : prgOkB ps = false) :
    Calls Tryz.prog 7 #[.agg #[.slice a n cap]] w fun e w' => RetSs [] w e w' := by
  have CO := fun w hr => implPrgOk a n cap ps w hr hn
  rw [hok] at CO
  have HCO := Lib.hid CO
  have HR := Lib.hid hr
  clear CO hok hr hn
  go_enter Tryz.func7, Tryz.ntmps7
  go_wp2_with ((with_reducible refine (HCO.out _ (HR.out.grew (gr))).mono ?_); rintro e w' ⟨rfl, g'⟩; (first | obtain ⟨x, rfl⟩ := ext_cold g' | obtain ⟨x, rfl⟩ := ext_col g' | obtain ⟨x, rfl⟩ := ext_of g'); clear g')
  go_ret
  exact ⟨_, _, rfl, World.ownsRow_nil _ _ _ _, gr⟩

set_option maxRecDepth 100000 in
set_option maxHeartbeats 8000000 in
theorem implPrgPrintT (a : Option Addr) (n cap : Nat) (ps : List Prc) (w : World) (hr : RdP w a n ps) (hn : n ≤ 9223372036854775807) (T : Tab w) (hok : prgOkB ps = true) :
    Calls Tryz.prog 7 #[.agg #[.slice a n cap]] w fun e w' => RetSs (printL ps) w e w' := by
  have CO := fun w hr => implPrgOk a n cap ps w hr hn
  rw [hok] at CO
  have HCO := Lib.hid CO
  have hlen := hr.len
  obtain ⟨⟨hn1, hn4⟩, hpr⟩ := okCode hok
  have HPR := Lib.hid hpr
  have HLe := Lib.hid (fun k hk => preT_le hok k hk)
  have HR := Lib.hid hr
  have hn1' : 1 ≤ n := by omega
  have hn4' : n ≤ 4 := by omega
  have HL := Lib.hid hlen
  have HT := Lib.hid T
  have HD := Lib.hid fun w T => implItoa (n : Int) w (by omega) (by omega) T
  have hli := itoa_len (n := (n : Int)) (by omega) (by omega)
  clear T
  clear CO hok hr hn hlen hpr hn1 hn4
  go_enter Tryz.func7, Tryz.ntmps7
  have HB0 := Lib.hid (Blk.new w 25 #[.slice a n cap])
  go_wp2_with fail
  refine (HCO.out _ (HR.out.grew (gr))).mono ?_
  rintro e w1 ⟨rfl, g1⟩
  have HG1 := Lib.hid (show Grew w w1 from grew_tr (gr) g1)
  have HB1 := Lib.hid (HB0.out.grew g1)
  clear g1 HB0
  have q0 := HB1.out.cell 0
  simp only [List.getElem?_toArray, List.getElem?_cons_zero] at q0
  have ql := HB1.out.lt
  go_wp2_with fail
  refine (HD.out _ (HT.out.grew HG1.out)).mono ?_
  rintro e w2 ⟨rfl, g2⟩
  have HG2 := Lib.hid (grew_tr HG1.out g2)
  have HB2 := Lib.hid (HB1.out.grew g2)
  clear g2 HG1 HB1 q0 ql
  have hhl := Lib.hid (show headL (ps.length : Int) = (112 :: 114 :: 111 :: 99 :: 115 :: 32 :: itoa (n : Int)) by rw [HL.out, headL_eq]; rfl)
  have HPN := Lib.hid (show (printL ps).length = (preT ps ps.length).length by rw [preT_all (Nat.le_refl _)])
  have q0 := HB2.out.cell 0
  simp only [List.getElem?_toArray, List.getElem?_cons_zero] at q0
  have ql := HB2.out.lt
  have ho3 := World.ownsRow_lit (base := w.heap.size) (e := 9) (size := 1) w2 #[.string ⟨(112 :: 114 :: 111 :: 99 :: 115 :: 32 :: itoa (n : Int)).toArray⟩] 1 HG2.out.size (by unfold maxLen; omega) rfl
  have HO3 := Lib.hid (show (w2.alloc (.cells #[.string ⟨(112 :: 114 :: 111 :: 99 :: 115 :: 32 :: itoa (n : Int)).toArray⟩] 9)).ownsRow w.heap.size 9 1 (.slice (some ⟨w2.heap.size, 0, none⟩) 1 1) 1 (strs (preT ps 0)) by
    have e : strs (preT ps 0) = [.string ⟨(112 :: 114 :: 111 :: 99 :: 115 :: 32 :: itoa (n : Int)).toArray⟩] := by simp [preT, strs, hhl.out]
    rw [e]; exact ho3)
  clear ho3
  go_wp2_with fail
  have HG3 := Lib.hid (grew_al HG2.out (.cells #[.string ⟨(112 :: 114 :: 111 :: 99 :: 115 :: 32 :: itoa (n : Int)).toArray⟩] 9))
  have HB3 := Lib.hid (HB2.out.alloc (.cells #[.string ⟨(112 :: 114 :: 111 :: 99 :: 115 :: 32 :: itoa (n : Int)).toArray⟩] 9))
  clear HG2 HB2 q0 ql hhl
  go_loopw [3, 20] (fun out i wr => ∃ k : Nat, k ≤ n ∧ i = .int .i64 k ∧ Grew w wr ∧ Blk wr w.heap.size 25 #[.slice a n cap] ∧ ∃ (N : Nat) (a1 : Option Addr) (cp : Nat), out = .slice a1 N cp ∧ N = (preT ps k).length ∧ wr.ownsRow w.heap.size 9 1 (.slice a1 N cp) N (strs (preT ps k))) (fun _ i _ => n - (Go.RowKit.intOf i).toNat)
  case atStart => exact ⟨0, Nat.zero_le _, rfl, HG3.out, HB3.out, 1, _, 1, rfl, by simp [preT], HO3.out⟩
  case round =>
    obtain ⟨k, hk, rfl, hg, hB, N, a1, cp, rfl, hN, hO⟩ := hrel
    have HG := Lib.hid hg
    have HB := Lib.hid hB
    have HO := Lib.hid hO
    have HN := Lib.hid hN
    have hNs : N ≤ 45 := by have := HLe.out k (by have := HL.out; omega); omega
    have q0 := HB.out.cell 0
    simp only [List.getElem?_toArray, List.getElem?_cons_zero] at q0
    have ql := HB.out.lt
    clear hg hB hO hN HG3 HB3 HO3
    by_cases hlt : k < n
    · obtain ⟨b, off, lo, hi, is, ia, ic, rfl, hx, c0, c1, c2, hb, hi1, hi2, hi3⟩ := rdP_at HR.out hlt
      have HX := Lib.hid hx
      obtain ⟨hiv, hs1, hs10, hins⟩ := HPR.out _ (List.mem_of_getElem? hx)
      simp only at hiv hs1 hs10 hins
      obtain ⟨hnl, hnh⟩ := itvOkB_num hiv
      obtain ⟨hl1, hl2⟩ := numOkB_iff.1 hnl
      obtain ⟨hh1, hh2⟩ := numOkB_iff.1 hnh
      have CL := Lib.hid fun w T => implNumText lo w hnl T
      have CH := Lib.hid fun w T => implNumText hi w hnh T
      have CM := Lib.hid fun w T => implItoa (is.length : Int) w (by omega) (by omega) T
      have ll := itoa_len (n := lo) (by omega) (by omega)
      have lh := itoa_len (n := hi) (by omega) (by omega)
      have lm := itoa_len (n := (is.length : Int)) (by omega) (by omega)
      have HI := Lib.hid hi1
      have HIN := Lib.hid hins
      have d0 := gk HG.out c0
      have d1 := gk HG.out c1
      have d2 := gk HG.out c2
      have hb' : b < wr.heap.size := Nat.lt_of_lt_of_le hb HG.out.size
      clear hx hiv hins hnl hnh hl1 hl2 hh1 hh2 hi1 hi2 hi3 c0 c1 c2 hb
      go_wp2_with fail
      refine let_world ?_
      intro E hE
      have e0 : E.cell? ⟨wr.heap.size, 0, none⟩ = some (.int .i64 lo) := by rw [hE]; simp [go_sem]
      have e1 : E.cell? ⟨wr.heap.size, 1, none⟩ = some (.int .i64 hi) := by rw [hE]; simp [go_sem]
      have e2 : E.cell? ⟨wr.heap.size, 2, none⟩ = some (.slice ia is.length ic) := by rw [hE]; simp [go_sem]
      have BE : Hid (Blk E wr.heap.size 56 #[.int .i64 lo, .int .i64 hi, .slice ia is.length ic]) := Lib.hid (by rw [hE]; exact Blk.new _ _ _)
      have BP : Hid (Blk E w.heap.size 25 #[.slice (some ⟨b, off, none⟩) n cap]) := Lib.hid (by rw [hE]; exact HB.out.alloc _)
      have OE : Hid (E.ownsRow w.heap.size 9 1 (.slice a1 N cp) N (strs (preT ps k))) := Lib.hid (by rw [hE]; exact HO.out.alloc _)
      have GE : Hid (Grew w E) := Lib.hid (by rw [hE]; exact grew_al HG.out _)
      obtain ⟨g, hgg⟩ : ∃ g, g = wr.heap.size := ⟨_, rfl⟩
      rw [← hgg] at e0 e1 e2 BE
      rw [← hgg]
      clear hE HG HB HO q0 ql d0 d1 d2 hb' hgg
      refine region_wA 63 17 40 [pgV (.slice a1 N cp), pgV (.pointer (some ⟨g, 0, none⟩)), pgV (.int .i64 lo), pgV (.string ⟨(itoa lo : List UInt8).toArray⟩), pgV (.string ⟨(([112, 114, 111, 99, 32]) ++ (itoa lo) : List UInt8).toArray⟩), pgV (.string ⟨((([112, 114, 111, 99, 32]) ++ (itoa lo)) ++ ([32]) : List UInt8).toArray⟩), pgV (.pointer (some ⟨g, 1, none⟩)), pgV (.int .i64 hi), pgV (.string ⟨(itoa hi : List UInt8).toArray⟩), pgV (.string ⟨(((([112, 114, 111, 99, 32]) ++ (itoa lo)) ++ ([32])) ++ (itoa hi) : List UInt8).toArray⟩), pgV (.string ⟨((((([112, 114, 111, 99, 32]) ++ (itoa lo)) ++ ([32])) ++ (itoa hi)) ++ ([32, 115, 105, 122, 101, 32]) : List UInt8).toArray⟩), pgV (.pointer (some ⟨g, 2, none⟩)), pgV (.slice ia is.length ic), pgV (.int .i64 is.length), pgV (.string ⟨(itoa (is.length : Int) : List UInt8).toArray⟩), pgV (.string ⟨(((((([112, 114, 111, 99, 32]) ++ (itoa lo)) ++ ([32])) ++ (itoa hi)) ++ ([32, 115, 105, 122, 101, 32])) ++ (itoa (is.length : Int)) : List UInt8).toArray⟩), pgS (E.heap.size) (1) (1) ([((((([112, 114, 111, 99, 32]) ++ (itoa lo)) ++ ([32])) ++ (itoa hi)) ++ ([32, 115, 105, 122, 101, 32])) ++ (itoa (is.length : Int))]), pgO (w.heap.size) (N + 1) (preT ps k ++ [((((([112, 114, 111, 99, 32] : List UInt8) ++ itoa lo) ++ [32]) ++ itoa hi) ++ [32, 115, 105, 122, 101, 32]) ++ itoa (is.length : Int)]), pgO (w.heap.size) (N + 1) (preT ps k ++ [((((([112, 114, 111, 99, 32] : List UInt8) ++ itoa lo) ++ [32]) ++ itoa hi) ++ [32, 115, 105, 122, 101, 32]) ++ itoa (is.length : Int)])] (fun W => Chg (fun b => (Value.slice a1 N cp).ownBlock = some b) E W) (by kernel_rfl) rfl (by kernel_rfl) rfl (by kernel_rfl) (far_get ⟨far_V, far_V, far_V, far_V, far_V, far_V, far_V, far_V, far_V, far_V, far_V, far_V, far_V, far_V, far_V, far_V, far_S (Nat.le_refl _), trivial⟩) ⟨?_, ?_, ?_, ?_, ?_, ?_, ?_, ?_, ?_, ?_, ?_, ?_, ?_, ?_, ?_, ?_, ?_, trivial⟩ 41 (by kernel_rfl) rfl (by kernel_rfl) rfl ?_ ?_
      · exact w_vx (v := .slice a1 N cp) rfl (fun A W h => by
        have e3 : A.eval (.tmp 3) = .slice a1 N cp := (h.slot 3).trans rfl
        simp only [execOp, e3]
        first | (simp [go_sem]; done) | rfl | kernel_rfl)
      · exact w_vx (v := .pointer (some ⟨g, 0, none⟩)) rfl (fun A W h => by
        have e5 : A.eval (.tmp 5) = .pointer (some ⟨g, 0, none⟩) := (h.slot 5).trans rfl
        simp only [execOp, e5]
        first | (simp [go_sem]; done) | rfl | kernel_rfl)
      · exact w_vx (v := .int .i64 lo) rfl (fun A W h => by
        have e25 : A.eval (.tmp 25) = .pointer (some ⟨g, 0, none⟩) := h.vb 1 25
        have k0 := gk h.grew e0
        simp only [execOp, e25]
        simp [go_sem, k0])
      · exact w_call (v := .string ⟨(itoa lo : List UInt8).toArray⟩) rfl (fun A W h => by
        have e26 : A.eval (.tmp 26) = .int .i64 lo := h.vb 2 26
        refine Eq.trans (b := .ok (.enter 28 #[A.eval (.tmp 26)]) W) (by kernel_rfl) ?_
        rw [e26]) (fun W hW => CL.out W (HT.out.grew (grew_tr GE.out hW)))
      · exact w_vx (v := .string ⟨(([112, 114, 111, 99, 32]) ++ (itoa lo) : List UInt8).toArray⟩) rfl (fun A W h => by
        have e27 : A.eval (.tmp 27) = .string ⟨(itoa lo : List UInt8).toArray⟩ := h.vb 3 27
        have hh := str_add (P := Tryz.prog) 9 ([112, 114, 111, 99, 32]) (itoa lo) (by simp only [List.length_append, List.length_cons, List.length_nil]; omega) W
        simp only [execOp, e27]
        simp only [Sem.run_bind, evalK, eqGuard_add, hh, Result.andThen_ok, Sem.run_pure])
      · exact w_vx (v := .string ⟨((([112, 114, 111, 99, 32]) ++ (itoa lo)) ++ ([32]) : List UInt8).toArray⟩) rfl (fun A W h => by
        have e28 : A.eval (.tmp 28) = .string ⟨(([112, 114, 111, 99, 32]) ++ (itoa lo) : List UInt8).toArray⟩ := h.vb 4 28
        have hh := str_add (P := Tryz.prog) 9 (([112, 114, 111, 99, 32]) ++ (itoa lo)) ([32]) (by simp only [List.length_append, List.length_cons, List.length_nil]; omega) W
        simp only [execOp, e28]
        simp only [Sem.run_bind, evalK, eqGuard_add, hh, Result.andThen_ok, Sem.run_pure])
      · exact w_vx (v := .pointer (some ⟨g, 1, none⟩)) rfl (fun A W h => by
        have e5 : A.eval (.tmp 5) = .pointer (some ⟨g, 0, none⟩) := (h.slot 5).trans rfl
        simp only [execOp, e5]
        first | (simp [go_sem]; done) | rfl | kernel_rfl)
      · exact w_vx (v := .int .i64 hi) rfl (fun A W h => by
        have e30 : A.eval (.tmp 30) = .pointer (some ⟨g, 1, none⟩) := h.vb 6 30
        have k0 := gk h.grew e1
        simp only [execOp, e30]
        simp [go_sem, k0])
      · exact w_call (v := .string ⟨(itoa hi : List UInt8).toArray⟩) rfl (fun A W h => by
        have e31 : A.eval (.tmp 31) = .int .i64 hi := h.vb 7 31
        refine Eq.trans (b := .ok (.enter 28 #[A.eval (.tmp 31)]) W) (by kernel_rfl) ?_
        rw [e31]) (fun W hW => CH.out W (HT.out.grew (grew_tr GE.out hW)))
      · exact w_vx (v := .string ⟨(((([112, 114, 111, 99, 32]) ++ (itoa lo)) ++ ([32])) ++ (itoa hi) : List UInt8).toArray⟩) rfl (fun A W h => by
        have e29 : A.eval (.tmp 29) = .string ⟨((([112, 114, 111, 99, 32]) ++ (itoa lo)) ++ ([32]) : List UInt8).toArray⟩ := h.vb 5 29
        have e32 : A.eval (.tmp 32) = .string ⟨(itoa hi : List UInt8).toArray⟩ := h.vb 8 32
        have hh := str_add (P := Tryz.prog) 9 ((([112, 114, 111, 99, 32]) ++ (itoa lo)) ++ ([32])) (itoa hi) (by simp only [List.length_append, List.length_cons, List.length_nil]; omega) W
        simp only [execOp, e29, e32]
        simp only [Sem.run_bind, evalK, eqGuard_add, hh, Result.andThen_ok, Sem.run_pure])
      · exact w_vx (v := .string ⟨((((([112, 114, 111, 99, 32]) ++ (itoa lo)) ++ ([32])) ++ (itoa hi)) ++ ([32, 115, 105, 122, 101, 32]) : List UInt8).toArray⟩) rfl (fun A W h => by
        have e33 : A.eval (.tmp 33) = .string ⟨(((([112, 114, 111, 99, 32]) ++ (itoa lo)) ++ ([32])) ++ (itoa hi) : List UInt8).toArray⟩ := h.vb 9 33
        have hh := str_add (P := Tryz.prog) 9 (((([112, 114, 111, 99, 32]) ++ (itoa lo)) ++ ([32])) ++ (itoa hi)) ([32, 115, 105, 122, 101, 32]) (by simp only [List.length_append, List.length_cons, List.length_nil]; omega) W
        simp only [execOp, e33]
        simp only [Sem.run_bind, evalK, eqGuard_add, hh, Result.andThen_ok, Sem.run_pure])
      · exact w_vx (v := .pointer (some ⟨g, 2, none⟩)) rfl (fun A W h => by
        have e5 : A.eval (.tmp 5) = .pointer (some ⟨g, 0, none⟩) := (h.slot 5).trans rfl
        simp only [execOp, e5]
        first | (simp [go_sem]; done) | rfl | kernel_rfl)
      · exact w_vx (v := .slice ia is.length ic) rfl (fun A W h => by
        have e35 : A.eval (.tmp 35) = .pointer (some ⟨g, 2, none⟩) := h.vb 11 35
        have k0 := gk h.grew e2
        simp only [execOp, e35]
        simp [go_sem, k0])
      · exact w_vx (v := .int .i64 is.length) rfl (fun A W h => by
        have e36 : A.eval (.tmp 36) = .slice ia is.length ic := h.vb 12 36
        simp only [execOp, resolve, invoke, builtin, Sem.run_bind, Sem.run_pure, Result.andThen_ok, List.map_toArray, List.map_cons, List.map_nil, e36]
        simp [go_sem])
      · exact w_call (v := .string ⟨(itoa (is.length : Int) : List UInt8).toArray⟩) rfl (fun A W h => by
        have e37 : A.eval (.tmp 37) = .int .i64 is.length := h.vb 13 37
        refine Eq.trans (b := .ok (.enter 27 #[A.eval (.tmp 37)]) W) (by kernel_rfl) ?_
        rw [e37]) (fun W hW => CM.out W (HT.out.grew (grew_tr GE.out hW)))
      · exact w_vx (v := .string ⟨(((((([112, 114, 111, 99, 32]) ++ (itoa lo)) ++ ([32])) ++ (itoa hi)) ++ ([32, 115, 105, 122, 101, 32])) ++ (itoa (is.length : Int)) : List UInt8).toArray⟩) rfl (fun A W h => by
        have e34 : A.eval (.tmp 34) = .string ⟨((((([112, 114, 111, 99, 32]) ++ (itoa lo)) ++ ([32])) ++ (itoa hi)) ++ ([32, 115, 105, 122, 101, 32]) : List UInt8).toArray⟩ := h.vb 10 34
        have e38 : A.eval (.tmp 38) = .string ⟨(itoa (is.length : Int) : List UInt8).toArray⟩ := h.vb 14 38
        have hh := str_add (P := Tryz.prog) 9 ((((([112, 114, 111, 99, 32]) ++ (itoa lo)) ++ ([32])) ++ (itoa hi)) ++ ([32, 115, 105, 122, 101, 32])) (itoa (is.length : Int)) (by simp only [List.length_append, List.length_cons, List.length_nil]; omega) W
        simp only [execOp, e34, e38]
        simp only [Sem.run_bind, evalK, eqGuard_add, hh, Result.andThen_ok, Sem.run_pure])
      · exact w_build _ 1 _ rfl #[(0, .string ⟨(((((([112, 114, 111, 99, 32]) ++ (itoa lo)) ++ ([32])) ++ (itoa hi)) ++ ([32, 115, 105, 122, 101, 32])) ++ (itoa (is.length : Int)) : List UInt8).toArray⟩)] #[.string ⟨(((((([112, 114, 111, 99, 32]) ++ (itoa lo)) ++ ([32])) ++ (itoa hi)) ++ ([32, 115, 105, 122, 101, 32])) ++ (itoa (is.length : Int)) : List UInt8).toArray⟩] 9 (fun A W h => by
        have e39 : A.eval (.tmp 39) = .string ⟨(((((([112, 114, 111, 99, 32]) ++ (itoa lo)) ++ ([32])) ++ (itoa hi)) ++ ([32, 115, 105, 122, 101, 32])) ++ (itoa (is.length : Int)) : List UInt8).toArray⟩ := h.vb 15 39
        simp only [List.map_toArray, List.map_cons, List.map_nil, evalK, e39]) (fun W => by simp [go_sem]) rfl (Nat.le_refl _) rfl
      · intro o ho A W h
        obtain rfl := Option.some.inj ho
        have e24 : A.eval (.tmp 24) = .slice a1 N cp := h.vb 0 24
        obtain ⟨y40, e40, hB40, hlt40, hc40⟩ := h.vb 16 40
        exact app_one rfl rfl e24 e40 h.grew OE.out GE.out.size (hc40 0 _ rfl) (by omega) rfl
      intro vs w9 g9 hR
      have x0 : vs 0 = .slice a1 N cp := hR 0 24 (by kernel_rfl)
      have x1 : vs 1 = .pointer (some ⟨g, 0, none⟩) := hR 1 25 (by kernel_rfl)
      have x2 : vs 2 = .int .i64 lo := hR 2 26 (by kernel_rfl)
      have x3 : vs 3 = .string ⟨(itoa lo : List UInt8).toArray⟩ := hR 3 27 (by kernel_rfl)
      have x4 : vs 4 = .string ⟨(([112, 114, 111, 99, 32]) ++ (itoa lo) : List UInt8).toArray⟩ := hR 4 28 (by kernel_rfl)
      have x5 : vs 5 = .string ⟨((([112, 114, 111, 99, 32]) ++ (itoa lo)) ++ ([32]) : List UInt8).toArray⟩ := hR 5 29 (by kernel_rfl)
      have x6 : vs 6 = .pointer (some ⟨g, 1, none⟩) := hR 6 30 (by kernel_rfl)
      have x7 : vs 7 = .int .i64 hi := hR 7 31 (by kernel_rfl)
      have x8 : vs 8 = .string ⟨(itoa hi : List UInt8).toArray⟩ := hR 8 32 (by kernel_rfl)
      have x9 : vs 9 = .string ⟨(((([112, 114, 111, 99, 32]) ++ (itoa lo)) ++ ([32])) ++ (itoa hi) : List UInt8).toArray⟩ := hR 9 33 (by kernel_rfl)
      have x10 : vs 10 = .string ⟨((((([112, 114, 111, 99, 32]) ++ (itoa lo)) ++ ([32])) ++ (itoa hi)) ++ ([32, 115, 105, 122, 101, 32]) : List UInt8).toArray⟩ := hR 10 34 (by kernel_rfl)
      have x11 : vs 11 = .pointer (some ⟨g, 2, none⟩) := hR 11 35 (by kernel_rfl)
      have x12 : vs 12 = .slice ia is.length ic := hR 12 36 (by kernel_rfl)
      have x13 : vs 13 = .int .i64 is.length := hR 13 37 (by kernel_rfl)
      have x14 : vs 14 = .string ⟨(itoa (is.length : Int) : List UInt8).toArray⟩ := hR 14 38 (by kernel_rfl)
      have x15 : vs 15 = .string ⟨(((((([112, 114, 111, 99, 32]) ++ (itoa lo)) ++ ([32])) ++ (itoa hi)) ++ ([32, 115, 105, 122, 101, 32])) ++ (itoa (is.length : Int)) : List UInt8).toArray⟩ := hR 15 39 (by kernel_rfl)
      obtain ⟨z16, x16, zB16, zl16, zc16⟩ := hR 16 40 (by kernel_rfl)
      have o17 : w9.ownsRow w.heap.size 9 1 (vs 17) (N + 1) (strs (preT ps k ++ [((((([112, 114, 111, 99, 32] : List UInt8) ++ itoa lo) ++ [32]) ++ itoa hi) ++ [32, 115, 105, 122, 101, 32]) ++ itoa (is.length : Int)])) := hR 17 41 (by kernel_rfl)
      have o18 : w9.ownsRow w.heap.size 9 1 (vs 18) (N + 1) (strs (preT ps k ++ [((((([112, 114, 111, 99, 32] : List UInt8) ++ itoa lo) ++ [32]) ++ itoa hi) ++ [32, 115, 105, 122, 101, 32]) ++ itoa (is.length : Int)])) := hR 18 3 (by kernel_rfl)
      simp only [putAll, Act.put, List.setIfInBounds_toArray, List.set_cons_zero, List.set_cons_succ, Nat.zero_add, Nat.reduceAdd, x0, x1, x2, x3, x4, x5, x6, x7, x8, x9, x10, x11, x12, x13, x14, x15, x16]
      clear hR x0 x1 x2 x3 x4 x5 x6 x7 x8 x9 x10 x11 x12 x13 x14 x15 x16
      generalize vs 17 = v17 at *
      generalize vs 18 = v18 at *
      obtain ⟨a17, c17, rfl⟩ := owns_slice o17
      obtain ⟨a18, c18, rfl⟩ := owns_slice o18
      clear o17
      simp only [List.cons_append, List.nil_append, List.append_assoc]
      have BX := Lib.hid (BE.out.chg g9 (fun h => blk_row_ne BE.out OE.out (by decide) h))
      have BPX := Lib.hid (BP.out.chg g9 (fun h => blk_row_ne BP.out OE.out (by decide) h))
      have GX := Lib.hid (grew_own GE.out OE.out g9)
      rw [← prcL_eq] at o18
      have OX := Lib.hid o18
      have f2 := BX.out.cell 2
      simp only [List.getElem?_toArray, List.getElem?_cons_zero, List.getElem?_cons_succ] at f2
      have fl := BX.out.lt
      clear o18 g9 BE BP GE OE e0 e1 e2 CL CH CM
      go_wp2_with fail
      clear f2 fl
      go_loopw [3, 45] (fun out j wq => ∃ i : Nat, i ≤ is.length ∧ j = .int .i64 i ∧ Grew w wq ∧ Blk wq g 56 #[.int .i64 lo, .int .i64 hi, .slice ia is.length ic] ∧ Blk wq w.heap.size 25 #[.slice (some ⟨b, off, none⟩) n cap] ∧
        ∃ (M : Nat) (a2 : Option Addr) (cq : Nat), out = .slice a2 M cq ∧ M = N + 1 + i ∧ wq.ownsRow w.heap.size 9 1 (.slice a2 M cq) M (strs (preT ps k ++ [prcL lo hi is.length] ++ (is.take i).map textI))) (fun _ j _ => is.length - (Go.RowKit.intOf j).toNat)
      case atStart => exact ⟨0, Nat.zero_le _, rfl, GX.out, BX.out, BPX.out, N + 1, a18, c18, rfl, rfl, by simpa using OX.out⟩
      case round =>
        obtain ⟨i, hi', rfl, hg, hB, hBP, M, a2, cq, rfl, hM, hO⟩ := hrel
        have HG := Lib.hid hg
        have HB := Lib.hid hB
        have HBP := Lib.hid hBP
        have OE := Lib.hid hO
        have HM := Lib.hid hM
        have hMs : M ≤ 60 := by omega
        have q2 := HB.out.cell 2
        simp only [List.getElem?_toArray, List.getElem?_cons_zero, List.getElem?_cons_succ] at q2
        have ql := HB.out.lt
        have q0 := HBP.out.cell 0
        simp only [List.getElem?_toArray, List.getElem?_cons_zero] at q0
        have qm := HBP.out.lt
        clear hg hB hBP hO hM
        by_cases hlt2 : i < is.length
        · obtain ⟨b2, off2, op, d, iA, iB, rel, lo', hi2, tv, rfl, hx2, u0, u1, u2, u3, u4, u5, u6, u7, hb2⟩ := rdI_at HI.out hlt2
          have HX2 := Lib.hid hx2
          have hok2 := HIN.out _ (List.mem_of_getElem? hx2)
          have hto := (numOkB_iff.1 (to_small hok2 (by have := HL.out; omega) (by omega))).2
          have CI := fun w T => implInsText ⟨op, d, iA, iB, rel, lo', hi2, tv⟩ (ps.length : Int) (is.length : Int) w (Int.le_trans hto (by decide)) T
          rw [textB_ok hok2, HL.out] at CI
          have CI := Lib.hid CI
          clear hx2 hok2 hto
          have p0 := gk HG.out u0
          have p1 := gk HG.out u1
          have p2 := gk HG.out u2
          have p3 := gk HG.out u3
          have p4 := gk HG.out u4
          have p5 := gk HG.out u5
          have p6 := gk HG.out u6
          have p7 := gk HG.out u7
          have hb2' : b2 < wr.heap.size := Nat.lt_of_lt_of_le hb2 HG.out.size
          clear u0 u1 u2 u3 u4 u5 u6 u7 hb2
          go_wp2_with fail
          refine Calls.mono (CI.out _ (HT.out.grew (grew_al HG.out _))) ?_
          rintro e w5 ⟨rfl, g5⟩
          have HG5 := Lib.hid (grew_tr (grew_al HG.out _) g5)
          have HB5 := Lib.hid ((HB.out.alloc _).grew g5)
          have HBP5 := Lib.hid ((HBP.out.alloc _).grew g5)
          have HO5 := Lib.hid (owns_grew (OE.out.alloc _) g5)
          obtain ⟨v6, w6, hrun, o6, g6, hv6⟩ := owns_append_lit (P := Tryz.prog) w5 strEl HO5.out 1 [.string ⟨(textI ⟨op, d, iA, iB, rel, lo', hi2, tv⟩).toArray⟩] rfl (by simp [Value.oneCell']) (by omega) (by omega) HG5.out.size
          obtain ⟨a6, c6, rfl⟩ := owns_slice o6
          have hc6 := Chg.of_grownBy g6
          have HB6 := Lib.hid (HB5.out.chg hc6 (fun h => blk_row_ne HB5.out HO5.out (by decide) h))
          have HBP6 := Lib.hid (HBP5.out.chg hc6 (fun h => blk_row_ne HBP5.out HO5.out (by decide) h))
          have HG6 := Lib.hid (grew_own HG5.out HO5.out hc6)
          have HO6 := Lib.hid (show w6.ownsRow w.heap.size 9 1 (.slice a6 (M + 1) c6) (M + 1) (strs (preT ps k ++ [prcL lo hi is.length] ++ (is.take (i + 1)).map textI)) by
            rw [take_get HX2.out, List.map_append, ← List.append_assoc, strs_app]; exact o6)
          have R := Lib.hid hrun
          clear hrun o6 g6 hv6 hc6 g5 HG HB HBP OE HG5 HB5 HBP5 HO5 q2 ql q0 qm p0 p1 p2 p3 p4 p5 p6 p7 hb2' CI
          go_wp2_with (at_builtin; refine wpList_append_run rfl _ _ rfl rfl rfl rfl R.out ?_; clear R)
          go_roundw
          case rel =>
            exact ⟨i + 1, by omega, by go_num, HG6.out, HB6.out, HBP6.out, M + 1, a6, c6, rfl, by have := HM.out; omega, HO6.out⟩
          case measure => simp [Go.RowKit.intOf]; omega
        · obtain rfl : i = is.length := by omega
          clear q0 qm q2 ql
          go_wp2_with fail
          go_roundw
          case rel => exact ⟨k + 1, by omega, by go_num, HG.out, HBP.out, M, a2, cq, rfl, by rw [preT_succ HX.out, List.length_append, linesC_length, ← HN.out, HM.out]; simp only; omega, by
            have h := OE.out
            rw [List.take_of_length_le (Nat.le_refl _), List.append_assoc] at h
            rw [preT_succ HX.out]
            exact h⟩
          case measure => simp [Go.RowKit.intOf]; omega
    · obtain rfl : k = n := by omega
      have e : printL ps = preT ps k := (preT_all (by have := HL.out; omega)).symm
      go_wp2
      go_ret
      rw [e]
      have hN := HN.out
      subst hN
      exact ⟨a1, cp, rfl, HO.out, HG.out⟩

/-- The lines of a program, as the reference prints them. -/
theorem specPrgPrint (a : Option Addr) (n cap : Nat) (ps : List Prc) (w : World) (hr : RdP w a n ps) (hn : n ≤ 9223372036854775807) :
    Calls Tryz.prog 9 #[.agg #[.slice a n cap]] w fun e w' => RetSs (printB ps) w e w' := by
  cases hok : prgOkB ps
  · have e : printB ps = [] := by unfold printB; rw [hok]; rfl
    rw [e]
    exact specPrgPrintF a n cap ps w hr hn hok
  · have e : printB ps = printL ps := by unfold printB; rw [hok]; rfl
    rw [e]
    exact specPrgPrintT a n cap ps w hr hn hok
/-- The lines of a program, as the program prints them. -/
theorem implPrgPrint (a : Option Addr) (n cap : Nat) (ps : List Prc) (w : World) (hr : RdP w a n ps) (hn : n ≤ 9223372036854775807) (T : Tab w) :
    Calls Tryz.prog 7 #[.agg #[.slice a n cap]] w fun e w' => RetSs (printB ps) w e w' := by
  cases hok : prgOkB ps
  · have e : printB ps = [] := by unfold printB; rw [hok]; rfl
    rw [e]
    exact implPrgPrintF a n cap ps w hr hn hok
  · have e : printB ps = printL ps := by unfold printB; rw [hok]; rfl
    rw [e]
    exact implPrgPrintT a n cap ps w hr hn T hok
end Go.Proofs.YtcdfomoglkhboaaGreatDoor
