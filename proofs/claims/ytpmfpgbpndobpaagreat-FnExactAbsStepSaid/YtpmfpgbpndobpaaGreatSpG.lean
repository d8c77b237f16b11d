/- States by value in memory of their own: the reference's l7Cell. No condition. -/
import Derived.Test.YtpmfpgbpndobpaaGreatSpD
import Derived.Test.YtpmfpgbpndobpaaGreatRegO
namespace Go.Proofs.YtpmfpgbpndobpaaGreat
open Go.RowKit
set_option linter.unusedVariables false
set_option linter.unusedSimpArgs false
attribute [local go_sem] ext_cell ext_frozen ext_lt ext_le ext_le1 lt_s2 lt_s3 lt_s4 lt_s5 lt_s6 ext_lt1 ext_lt2 ext_lt3

set_option maxRecDepth 100000 in
set_option maxHeartbeats 8000000 in
theorem specL7Cell6 (ps : List Prc) (ss : List Sum) (xa : Option Addr) (xc : Nat) (xs : List Itv) (lo hi : Int) (d a b rel ilo ihi to : Int) (w : World) (hx : RdL EItv 2 w xa 4 xs) (hs : stOkB true xs lo hi = true) (hd : varB d = true) (ha : varB a = true) (hb : varB b = true) :
    Calls Tryz.prog 117 #[.agg #[.bool true, .slice xa 4 xc, .int .i64 lo, .int .i64 hi], Ins.v ⟨6, d, a, b, rel, ilo, ihi, to⟩] w (RetO (actI ps ss ⟨6, d, a, b, rel, ilo, ihi, to⟩ xs ⟨lo, hi⟩) w) := by
  have HD := Lib.hid hd
  have hnb := nthI_ok hs hb
  have HCUT := Lib.hid (fun B rb c W (h : OwnR W B rb c xs) => specL7Cut B rb c xs lo hi a ⟨0, 3⟩ W h ha (nthI_ok hs ha) (by decide))
  have hcok : itvB ⟨lo, hi⟩ = true := (stOk_parts hs).2.2
  obtain ⟨bj, rfl, hjb, hxb⟩ := nthI_get hx.len hb
  obtain ⟨aj, rfl, hja, hxa⟩ := nthI_get hx.len ha
  obtain ⟨dj, rfl, hjd, hxd⟩ := nthI_get hx.len hd
  have HV0 : Hid (actI ps ss ⟨6, (dj : Int), (aj : Int), (bj : Int), rel, ilo, ihi, to⟩ xs ⟨lo, hi⟩ = (narI xs aj ⟨0, 3⟩).map fun zs => (setI zs dj ⟨lo, hi⟩, (⟨lo, hi⟩ : Itv))) := Lib.hid (by simp [actI])
  rw [HV0.out]
  obtain ⟨⟨bl, bh⟩, hXb⟩ : ∃ x, nthI xs bj = x := ⟨_, rfl⟩
  rw [hXb] at hxb hnb
  obtain ⟨n, hn⟩ : ∃ n, narI xs aj ⟨0, 3⟩ = n := ⟨_, rfl⟩
  rw [hn] at HCUT ⊢
  obtain ⟨xb, xoff, bl', bh', rfl, hy2, bc0, bc1, blt⟩ := rdItv_at hx hjb
  rw [hy2] at hxb
  cases hxb
  have HX := Lib.hid hx
  have HPL := Lib.hid (fun W => specL7Places W)
  clear HV0 hn hxa hxd hx hs hd ha hb hXb hy2 hnb hcok
  have hbq : ¬ (4 : Int) ≤ (bj : Int) := by omega
  have hb1 : xb < w.heap.size + 1 := by omega
  have hb2 : xb < w.heap.size + 1 + 1 := by omega
  cases n with
  | none =>
    go_enter Tryz.func117, Tryz.ntmps117
    go_upto_region 2 with fail
    refine wp_letH ?_
    intro E hE
    have GO := Lib.hid (show Grew w E from by rw [hE]; exact gr)
    have q0 : E.cell? ⟨w.heap.size, 0, none⟩ = some (.bool true) := by rw [hE]; simp [go_sem]
    have q1 : E.cell? ⟨w.heap.size, 1, none⟩ = some (.slice (some ⟨xb, xoff, none⟩) 4 xc) := by rw [hE]; simp [go_sem]
    have q2 : E.cell? ⟨w.heap.size, 2, none⟩ = some (.int .i64 lo) := by rw [hE]; simp [go_sem]
    have q3 : E.cell? ⟨w.heap.size, 3, none⟩ = some (.int .i64 hi) := by rw [hE]; simp [go_sem]
    have q4 : E.cell? ⟨w.heap.size + 1, 0, none⟩ = some (.int .i64 (6 : Int)) := by rw [hE]; simp [go_sem]
    have q5 : E.cell? ⟨w.heap.size + 1, 1, none⟩ = some (.int .i64 (dj : Int)) := by rw [hE]; simp [go_sem]
    have q6 : E.cell? ⟨w.heap.size + 1, 2, none⟩ = some (.int .i64 (aj : Int)) := by rw [hE]; simp [go_sem]
    have q7 : E.cell? ⟨w.heap.size + 1, 3, none⟩ = some (.int .i64 (bj : Int)) := by rw [hE]; simp [go_sem]
    have q8 : E.cell? ⟨w.heap.size + 1, 4, none⟩ = some (.int .i64 rel) := by rw [hE]; simp [go_sem]
    have q9 : E.cell? ⟨w.heap.size + 1, 5, none⟩ = some (.int .i64 ilo) := by rw [hE]; simp [go_sem]
    have q10 : E.cell? ⟨w.heap.size + 1, 6, none⟩ = some (.int .i64 ihi) := by rw [hE]; simp [go_sem]
    have q11 : E.cell? ⟨w.heap.size + 1, 7, none⟩ = some (.int .i64 to) := by rw [hE]; simp [go_sem]
    have HZ4 := Lib.hid (show Blk E (w.heap.size + 1 + 1) 33 #[.bool false, .slice none 0 0, .int .i64 0, .int .i64 0] from by rw [hE]; exact Blk.alloc (Blk.new' (by simp only [World.size_alloc])) _)
    have HB5 := Lib.hid (show Blk E (w.heap.size + 1 + 1 + 1) 31 #[.int .i64 bl, .int .i64 bh] from by rw [hE]; exact Blk.new' (by simp only [World.size_alloc]))
    have hszE : E.heap.size = w.heap.size + 1 + 1 + 1 + 1 := by rw [hE]; simp only [World.size_alloc]
    clear hE
    refine region_row 41 ⟨1, 5, 9, 10, 33, #[.bool false, .slice none 0 0, .int .i64 0, .int .i64 0], (fun rb cc => #[.bool false, .slice none 0 0, .int .i64 0, .int .i64 0]), xs, xs⟩ (fun gm i => ([.agg #[.bool true, .slice (some ⟨xb, xoff, none⟩) 4 xc, .int .i64 lo, .int .i64 hi], .agg #[.bool true, .slice (some ⟨gm 0, 0, none⟩) 4 (gm 1), .int .i64 lo, .int .i64 hi], .pointer (some ⟨w.heap.size + 1, 2, none⟩), .int .i64 ((aj : Int)), .agg #[.int .i64 0, .int .i64 3], .tuple #[.agg #[.bool false, .slice none 0 0, .int .i64 0, .int .i64 0], .bool false], .tuple #[.agg #[.bool false, .slice none 0 0, .int .i64 0, .int .i64 0], .bool false], .agg #[.bool false, .slice none 0 0, .int .i64 0, .int .i64 0], .bool false, .pointer (some ⟨gm 2, 0, none⟩), undef, .bool false] : List Value).getD i undef) (by kernel_rfl) rfl (by kernel_rfl) (by refine ⟨?_, ?_, ?_, ?_⟩ <;> exact Nat.le_of_ble_eq_true (by kernel_rfl)) ⟨?_, ?_, ?_, ?_, ?_, ?_, ?_, ?_, ?_, ?_, ?_, ?_, trivial⟩ ?_
    · exact r_val (by simp) (by simp) (by simp) (by simp) (fun gm a W h => by have e2 : a.eval (.tmp 2) = .pointer (some ⟨w.heap.size, 0, none⟩) := (h.slot 2 (by kernel_rfl)).trans rfl; have kq0 := h.cell q0; have kq1 := h.cell q1; have kq2 := h.cell q2; have kq3 := h.cell q3; have kq6 := h.cell q6; simp only [execOp, e2]; first | (simp [go_sem, kq0, kq1, kq2, kq3, kq6]; done) | (simp [go_sem, kq0, kq1, kq2, kq3, kq6]; rfl) | kernel_rfl)
    · exact r_copy rfl (by simp) (by simp) (by simp) [1, 5, 6, 7, 10] (by simp) (by simp) (fun L hC j hj hl => by
        simp only [List.mem_cons, List.not_mem_nil, or_false] at hj
        rcases hj with rfl | rfl | rfl | rfl | rfl
        · exact hl
        · exact depB_clo (i := 5) (k := 1) (by kernel_rfl) hC (hl)
        · exact depB_clo (i := 5) (k := 1) (by kernel_rfl) hC (depB_clo (i := 6) (k := 5) (by kernel_rfl) hC (hl))
        · exact depB_clo (i := 5) (k := 1) (by kernel_rfl) hC (depB_clo (i := 6) (k := 5) (by kernel_rfl) hC (depB_clo (i := 7) (k := 6) (by kernel_rfl) hC (hl)))
        · exact depB_clo (i := 5) (k := 1) (by kernel_rfl) hC (depB_clo (i := 6) (k := 5) (by kernel_rfl) hC (depB_clo (i := 7) (k := 6) (by kernel_rfl) hC (depB_clo (i := 10) (k := 7) (by kernel_rfl) hC (hl))))) (fun gm rb c j hj => by rcases j with _ | _ | _ | _ | _ | _ | _ | _ | _ | _ | _ | _ | j <;> first | (left; rfl) | (right; rfl) | (simp at hj)) (fun gm a W h => by
        have e15 : a.eval (.tmp 15) = .agg #[.bool true, .slice (some ⟨xb, xoff, none⟩) 4 xc, .int .i64 lo, .int .i64 hi] := (h.val (k := 0) (d := 15) ⟨⟨⟨0, .data⟩, by simp, rfl, by kernel_rfl⟩, by kernel_rfl⟩).trans rfl
        refine Eq.trans (b := .ok (.enter 116 #[a.eval (.tmp 15)]) W) (by kernel_rfl) ?_
        rw [e15]) (fun gm W g => (specL7Copy _ xc xs lo hi W (HX.out.grew staysItv (grew_tr GO.out g))).mono (by rintro e w' ⟨rb, c, rfl, h1, h2⟩; exact ⟨rb, c, rfl, h1, h2⟩))
    · exact r_val (by simp) (by simp) (by simp) (by simp) (fun gm a W h => by have e3 : a.eval (.tmp 3) = .pointer (some ⟨w.heap.size + 1, 0, none⟩) := (h.slot 3 (by kernel_rfl)).trans rfl; simp only [execOp, e3]; first | (simp [go_sem]; done) | (simp [go_sem]; rfl) | kernel_rfl)
    · exact r_val (by simp) (by simp) (by simp) (by simp) (fun gm a W h => by have e17 : a.eval (.tmp 17) = .pointer (some ⟨w.heap.size + 1, 2, none⟩) := (h.val (k := 2) (d := 17) ⟨⟨⟨2, .data⟩, by simp, rfl, by kernel_rfl⟩, by kernel_rfl⟩).trans rfl; have kq0 := h.cell q0; have kq1 := h.cell q1; have kq2 := h.cell q2; have kq3 := h.cell q3; have kq6 := h.cell q6; simp only [execOp, e17]; first | (simp [go_sem, kq0, kq1, kq2, kq3, kq6]; done) | (simp [go_sem, kq0, kq1, kq2, kq3, kq6]; rfl) | kernel_rfl)
    · exact r_call (by simp) (by simp) (by simp) (by simp) (fun gm a W h => by
        skip
        refine Eq.trans (b := .ok (.enter 140 #[]) W) (by kernel_rfl) ?_
        rfl) (fun gm W _ => HPL.out W)
    · exact r_cut rfl (by simp) (by simp) (by simp) ⟨⟨1, .data⟩, by simp, rfl, by kernel_rfl⟩ (vals := fun gm => #[.agg #[.bool true, .slice (some ⟨gm 0, 0, none⟩) 4 (gm 1), .int .i64 lo, .int .i64 hi], .int .i64 ((aj : Int)), .agg #[.int .i64 0, .int .i64 3]]) (fun gm a W h => by
        have e16 : a.eval (.tmp 16) = .agg #[.bool true, .slice (some ⟨gm 0, 0, none⟩) 4 (gm 1), .int .i64 lo, .int .i64 hi] := (h.val (k := 1) (d := 16) ⟨⟨⟨1, .data⟩, by simp, rfl, by kernel_rfl⟩, by kernel_rfl⟩).trans rfl
        have e18 : a.eval (.tmp 18) = .int .i64 ((aj : Int)) := (h.val (k := 3) (d := 18) ⟨⟨⟨3, .data⟩, by simp, rfl, by kernel_rfl⟩, by kernel_rfl⟩).trans rfl
        have e19 : a.eval (.tmp 19) = .agg #[.int .i64 0, .int .i64 3] := (h.val (k := 4) (d := 19) ⟨⟨⟨4, .data⟩, by simp, rfl, by kernel_rfl⟩, by kernel_rfl⟩).trans rfl
        refine Eq.trans (b := .ok (.enter 139 #[a.eval (.tmp 16), a.eval (.tmp 18), a.eval (.tmp 19)]) W) (by kernel_rfl) ?_
        rw [e16, e18, e19]) (fun gm W hw => (HCUT.out _ _ _ W hw).mono (by rintro e w' ⟨rfl, h1, h2⟩; exact ⟨rfl, h1, h2⟩))
    · exact r_val (by simp) (by simp) (by simp) (by simp) (fun gm a W h => by have e20 : a.eval (.tmp 20) = .tuple #[.agg #[.bool false, .slice none 0 0, .int .i64 0, .int .i64 0], .bool false] := (h.val (k := 5) (d := 20) ⟨⟨⟨5, .data⟩, by simp, rfl, by kernel_rfl⟩, by kernel_rfl⟩).trans rfl; simp only [execOp, e20]; first | (simp [go_sem]; done) | (simp [go_sem]; rfl) | kernel_rfl)
    · exact r_val (by simp) (by simp) (by simp) (by simp) (fun gm a W h => by have e14 : a.eval (.tmp 14) = .tuple #[.agg #[.bool false, .slice none 0 0, .int .i64 0, .int .i64 0], .bool false] := (h.val (k := 6) (d := 14) ⟨⟨⟨6, .data⟩, by simp, rfl, by kernel_rfl⟩, by kernel_rfl⟩).trans rfl; simp only [execOp, e14]; first | (simp [go_sem]; done) | (simp [go_sem]; rfl) | kernel_rfl)
    · exact r_val (by simp) (by simp) (by simp) (by simp) (fun gm a W h => by have e14 : a.eval (.tmp 14) = .tuple #[.agg #[.bool false, .slice none 0 0, .int .i64 0, .int .i64 0], .bool false] := (h.val (k := 6) (d := 14) ⟨⟨⟨6, .data⟩, by simp, rfl, by kernel_rfl⟩, by kernel_rfl⟩).trans rfl; simp only [execOp, e14]; first | (simp [go_sem]; done) | (simp [go_sem]; rfl) | kernel_rfl)
    · exact r_alloc rfl (by simp) (by simp) (by simp) (fun L hC hl => depB_clo (i := 10) (k := 9) (by kernel_rfl) hC hl) (fun gm g j hj => by rcases j with _ | _ | _ | _ | _ | _ | _ | _ | _ | _ | _ | _ | j <;> first | rfl | (simp at hj)) (fun gm => rfl) (fun gm a W h => by kernel_rfl)
    · refine r_store rfl (by simp) (by simp) (by simp) ⟨⟨9, .data⟩, by simp, rfl, by kernel_rfl⟩ (fun gm => rfl) (fun gm a W h hb => ?_)
      have e6 : a.eval (.tmp 6) = .pointer (some ⟨gm 2, 0, none⟩) := (h.val (k := 9) (d := 6) ⟨⟨⟨9, .data⟩, by simp, rfl, by kernel_rfl⟩, by kernel_rfl⟩).trans rfl
      have e21 : a.eval (.tmp 21) = .agg #[.bool false, .slice none 0 0, .int .i64 0, .int .i64 0] := (h.val (k := 7) (d := 21) ⟨⟨⟨7, .data⟩, by simp, rfl, by kernel_rfl⟩, by kernel_rfl⟩).trans rfl
      simp only at hb
      have hf := fun j => hb.frozen j
      have c0 := hb.cell 0
      have c1 := hb.cell 1
      have c2 := hb.cell 2
      have c3 := hb.cell 3
      refine ⟨_, by (simp only [execOp, e6, e21]; simp [go_sem, hf, c0, c1, c2, c3]; try rfl), ((((hb).set_ 0 _).set_ 1 _).set_ 2 _).set_ 3 _, Chg.alw (F := fun t => t = gm 2) (Chg.alw (F := fun t => t = gm 2) (Chg.alw (F := fun t => t = gm 2) (Chg.alw (F := fun t => t = gm 2) (Chg.refl _ W) rfl _) rfl _) rfl _) rfl _⟩
    · exact r_val (by simp) (by simp) (by simp) (by simp) (fun gm a W h => by have e22 : a.eval (.tmp 22) = .bool false := (h.val (k := 8) (d := 22) ⟨⟨⟨8, .data⟩, by simp, rfl, by kernel_rfl⟩, by kernel_rfl⟩).trans rfl; simp only [execOp, e22]; first | (simp [go_sem]; done) | (simp [go_sem]; rfl) | kernel_rfl)
    intro gm vs w9 hG9 hor9 hge9 hb9 hne9 hv9
    have x0 : vs 0 = .agg #[.bool true, .slice (some ⟨xb, xoff, none⟩) 4 xc, .int .i64 lo, .int .i64 hi] := (hv9 0 15 (by kernel_rfl)).trans rfl
    have x1 : vs 1 = .agg #[.bool true, .slice (some ⟨gm 0, 0, none⟩) 4 (gm 1), .int .i64 lo, .int .i64 hi] := (hv9 1 16 (by kernel_rfl)).trans rfl
    have x2 : vs 2 = .pointer (some ⟨w.heap.size + 1, 2, none⟩) := (hv9 2 17 (by kernel_rfl)).trans rfl
    have x3 : vs 3 = .int .i64 ((aj : Int)) := (hv9 3 18 (by kernel_rfl)).trans rfl
    have x4 : vs 4 = .agg #[.int .i64 0, .int .i64 3] := (hv9 4 19 (by kernel_rfl)).trans rfl
    have x5 : vs 5 = .tuple #[.agg #[.bool false, .slice none 0 0, .int .i64 0, .int .i64 0], .bool false] := (hv9 5 20 (by kernel_rfl)).trans rfl
    have x6 : vs 6 = .tuple #[.agg #[.bool false, .slice none 0 0, .int .i64 0, .int .i64 0], .bool false] := (hv9 6 14 (by kernel_rfl)).trans rfl
    have x7 : vs 7 = .agg #[.bool false, .slice none 0 0, .int .i64 0, .int .i64 0] := (hv9 7 21 (by kernel_rfl)).trans rfl
    have x8 : vs 8 = .bool false := (hv9 8 22 (by kernel_rfl)).trans rfl
    have x9 : vs 9 = .pointer (some ⟨gm 2, 0, none⟩) := (hv9 9 6 (by kernel_rfl)).trans rfl
    have x11 : vs 11 = .bool false := (hv9 11 7 (by kernel_rfl)).trans rfl
    simp only at hor9 hb9
    simp only [putAll, Act.put, List.setIfInBounds_toArray, List.set_cons_zero, List.set_cons_succ, Nat.zero_add, Nat.reduceAdd, x0, x1, x2, x3, x4, x5, x6, x7, x8, x9, x11]
    clear hv9 x0 x1 x2 x3 x4 x5 x6 x7 x8 x9 x11
    obtain ⟨rb, hrbe⟩ : ∃ r, gm 0 = r := ⟨_, rfl⟩
    obtain ⟨cc, hcce⟩ : ∃ r, gm 1 = r := ⟨_, rfl⟩
    obtain ⟨g6, hg6⟩ : ∃ r, gm 2 = r := ⟨_, rfl⟩
    rw [hrbe] at hor9 hne9
    rw [hcce] at hor9
    rw [hg6] at hge9 hb9 hne9
    simp only [hrbe, hcce, hg6] at hb9 ⊢
    have HOY := Lib.hid hor9
    have hrlt := hor9.lt
    have hrge := hor9.2.1
    have HG2 := Lib.hid (grew_tr GO.out hG9)
    have HZ2 := Lib.hid (HZ4.out.grew hG9)
    have HB2 := Lib.hid (HB5.out.grew hG9)
    have HK6 := Lib.hid hb9
    have hsz9 := hG9.size
    have hl9 := hb9.lt
    have n4 : w.heap.size + 1 + 1 ≠ rb := by omega
    have n2r : g6 ≠ rb := fun e => hne9 e.symm
    have n24 : w.heap.size + 1 + 1 ≠ g6 := by omega
    have n42 : g6 ≠ w.heap.size + 1 + 1 := by omega
    have q0 := (hG9.cell (p := ⟨w.heap.size, 0, none⟩) (World.block_lt_of_cell? _ _ q0)).trans q0
    have q1 := (hG9.cell (p := ⟨w.heap.size, 1, none⟩) (World.block_lt_of_cell? _ _ q1)).trans q1
    have q2 := (hG9.cell (p := ⟨w.heap.size, 2, none⟩) (World.block_lt_of_cell? _ _ q2)).trans q2
    have q3 := (hG9.cell (p := ⟨w.heap.size, 3, none⟩) (World.block_lt_of_cell? _ _ q3)).trans q3
    have q4 := (hG9.cell (p := ⟨w.heap.size + 1, 0, none⟩) (World.block_lt_of_cell? _ _ q4)).trans q4
    have q5 := (hG9.cell (p := ⟨w.heap.size + 1, 1, none⟩) (World.block_lt_of_cell? _ _ q5)).trans q5
    have q6 := (hG9.cell (p := ⟨w.heap.size + 1, 2, none⟩) (World.block_lt_of_cell? _ _ q6)).trans q6
    have q7 := (hG9.cell (p := ⟨w.heap.size + 1, 3, none⟩) (World.block_lt_of_cell? _ _ q7)).trans q7
    have q8 := (hG9.cell (p := ⟨w.heap.size + 1, 4, none⟩) (World.block_lt_of_cell? _ _ q8)).trans q8
    have q9 := (hG9.cell (p := ⟨w.heap.size + 1, 5, none⟩) (World.block_lt_of_cell? _ _ q9)).trans q9
    have q10 := (hG9.cell (p := ⟨w.heap.size + 1, 6, none⟩) (World.block_lt_of_cell? _ _ q10)).trans q10
    have q11 := (hG9.cell (p := ⟨w.heap.size + 1, 7, none⟩) (World.block_lt_of_cell? _ _ q11)).trans q11
    have k0 := hb9.cell 0
    have k1 := hb9.cell 1
    have k2 := hb9.cell 2
    have k3 := hb9.cell 3
    have kf := fun j => hb9.frozen j
    have ql := World.block_lt_of_cell? _ _ q4
    simp only at ql
    simp only [List.getElem?_toArray, List.getElem?_cons_zero, List.getElem?_cons_succ] at k0 k1 k2 k3
    clear hrbe hcce hg6 hor9 hne9 hb9 hG9 gm vs
    have ZZ := HZ2.out
    have z0 := ZZ.cell 0
    have z1 := ZZ.cell 1
    have z2 := ZZ.cell 2
    have z3 := ZZ.cell 3
    have zl := ZZ.lt
    have zf := fun j => ZZ.frozen j
    simp only [List.getElem?_toArray, List.getElem?_cons_zero, List.getElem?_cons_succ] at z0 z1 z2 z3
    clear ZZ
    go_wp2
    refine bodyPost_ret (by simp [results, Tryz.results117, go_sem, z0, z1, z2, z3, zl]; try rfl) rfl ?_
    refine ⟨?_, 0, 0, rfl, fun z hz => by cases hz⟩
    repeat (first | with_reducible exact HG2.out | with_reducible refine grew_set ?_ (by first | omega | (simp only; omega)) _)
  | some zs =>
    go_enter Tryz.func117, Tryz.ntmps117
    go_upto_region 2 with fail
    refine wp_letH ?_
    intro E hE
    have GO := Lib.hid (show Grew w E from by rw [hE]; exact gr)
    have q0 : E.cell? ⟨w.heap.size, 0, none⟩ = some (.bool true) := by rw [hE]; simp [go_sem]
    have q1 : E.cell? ⟨w.heap.size, 1, none⟩ = some (.slice (some ⟨xb, xoff, none⟩) 4 xc) := by rw [hE]; simp [go_sem]
    have q2 : E.cell? ⟨w.heap.size, 2, none⟩ = some (.int .i64 lo) := by rw [hE]; simp [go_sem]
    have q3 : E.cell? ⟨w.heap.size, 3, none⟩ = some (.int .i64 hi) := by rw [hE]; simp [go_sem]
    have q4 : E.cell? ⟨w.heap.size + 1, 0, none⟩ = some (.int .i64 (6 : Int)) := by rw [hE]; simp [go_sem]
    have q5 : E.cell? ⟨w.heap.size + 1, 1, none⟩ = some (.int .i64 (dj : Int)) := by rw [hE]; simp [go_sem]
    have q6 : E.cell? ⟨w.heap.size + 1, 2, none⟩ = some (.int .i64 (aj : Int)) := by rw [hE]; simp [go_sem]
    have q7 : E.cell? ⟨w.heap.size + 1, 3, none⟩ = some (.int .i64 (bj : Int)) := by rw [hE]; simp [go_sem]
    have q8 : E.cell? ⟨w.heap.size + 1, 4, none⟩ = some (.int .i64 rel) := by rw [hE]; simp [go_sem]
    have q9 : E.cell? ⟨w.heap.size + 1, 5, none⟩ = some (.int .i64 ilo) := by rw [hE]; simp [go_sem]
    have q10 : E.cell? ⟨w.heap.size + 1, 6, none⟩ = some (.int .i64 ihi) := by rw [hE]; simp [go_sem]
    have q11 : E.cell? ⟨w.heap.size + 1, 7, none⟩ = some (.int .i64 to) := by rw [hE]; simp [go_sem]
    have HZ4 := Lib.hid (show Blk E (w.heap.size + 1 + 1) 33 #[.bool false, .slice none 0 0, .int .i64 0, .int .i64 0] from by rw [hE]; exact Blk.alloc (Blk.new' (by simp only [World.size_alloc])) _)
    have HB5 := Lib.hid (show Blk E (w.heap.size + 1 + 1 + 1) 31 #[.int .i64 bl, .int .i64 bh] from by rw [hE]; exact Blk.new' (by simp only [World.size_alloc]))
    have hszE : E.heap.size = w.heap.size + 1 + 1 + 1 + 1 := by rw [hE]; simp only [World.size_alloc]
    clear hE
    refine region_row 41 ⟨1, 5, 9, 10, 33, #[.bool false, .slice none 0 0, .int .i64 0, .int .i64 0], (fun rb cc => #[.bool true, .slice (some ⟨rb, 0, none⟩) 4 cc, .int .i64 lo, .int .i64 hi]), xs, zs⟩ (fun gm i => ([.agg #[.bool true, .slice (some ⟨xb, xoff, none⟩) 4 xc, .int .i64 lo, .int .i64 hi], .agg #[.bool true, .slice (some ⟨gm 0, 0, none⟩) 4 (gm 1), .int .i64 lo, .int .i64 hi], .pointer (some ⟨w.heap.size + 1, 2, none⟩), .int .i64 ((aj : Int)), .agg #[.int .i64 0, .int .i64 3], .tuple #[.agg #[.bool true, .slice (some ⟨gm 0, 0, none⟩) 4 (gm 1), .int .i64 lo, .int .i64 hi], .bool true], .tuple #[.agg #[.bool true, .slice (some ⟨gm 0, 0, none⟩) 4 (gm 1), .int .i64 lo, .int .i64 hi], .bool true], .agg #[.bool true, .slice (some ⟨gm 0, 0, none⟩) 4 (gm 1), .int .i64 lo, .int .i64 hi], .bool true, .pointer (some ⟨gm 2, 0, none⟩), undef, .bool true] : List Value).getD i undef) (by kernel_rfl) rfl (by kernel_rfl) (by refine ⟨?_, ?_, ?_, ?_⟩ <;> exact Nat.le_of_ble_eq_true (by kernel_rfl)) ⟨?_, ?_, ?_, ?_, ?_, ?_, ?_, ?_, ?_, ?_, ?_, ?_, trivial⟩ ?_
    · exact r_val (by simp) (by simp) (by simp) (by simp) (fun gm a W h => by have e2 : a.eval (.tmp 2) = .pointer (some ⟨w.heap.size, 0, none⟩) := (h.slot 2 (by kernel_rfl)).trans rfl; have kq0 := h.cell q0; have kq1 := h.cell q1; have kq2 := h.cell q2; have kq3 := h.cell q3; have kq6 := h.cell q6; simp only [execOp, e2]; first | (simp [go_sem, kq0, kq1, kq2, kq3, kq6]; done) | (simp [go_sem, kq0, kq1, kq2, kq3, kq6]; rfl) | kernel_rfl)
    · exact r_copy rfl (by simp) (by simp) (by simp) [1, 5, 6, 7, 10] (by simp) (by simp) (fun L hC j hj hl => by
        simp only [List.mem_cons, List.not_mem_nil, or_false] at hj
        rcases hj with rfl | rfl | rfl | rfl | rfl
        · exact hl
        · exact depB_clo (i := 5) (k := 1) (by kernel_rfl) hC (hl)
        · exact depB_clo (i := 5) (k := 1) (by kernel_rfl) hC (depB_clo (i := 6) (k := 5) (by kernel_rfl) hC (hl))
        · exact depB_clo (i := 5) (k := 1) (by kernel_rfl) hC (depB_clo (i := 6) (k := 5) (by kernel_rfl) hC (depB_clo (i := 7) (k := 6) (by kernel_rfl) hC (hl)))
        · exact depB_clo (i := 5) (k := 1) (by kernel_rfl) hC (depB_clo (i := 6) (k := 5) (by kernel_rfl) hC (depB_clo (i := 7) (k := 6) (by kernel_rfl) hC (depB_clo (i := 10) (k := 7) (by kernel_rfl) hC (hl))))) (fun gm rb c j hj => by rcases j with _ | _ | _ | _ | _ | _ | _ | _ | _ | _ | _ | _ | j <;> first | (left; rfl) | (right; rfl) | (simp at hj)) (fun gm a W h => by
        have e15 : a.eval (.tmp 15) = .agg #[.bool true, .slice (some ⟨xb, xoff, none⟩) 4 xc, .int .i64 lo, .int .i64 hi] := (h.val (k := 0) (d := 15) ⟨⟨⟨0, .data⟩, by simp, rfl, by kernel_rfl⟩, by kernel_rfl⟩).trans rfl
        refine Eq.trans (b := .ok (.enter 116 #[a.eval (.tmp 15)]) W) (by kernel_rfl) ?_
        rw [e15]) (fun gm W g => (specL7Copy _ xc xs lo hi W (HX.out.grew staysItv (grew_tr GO.out g))).mono (by rintro e w' ⟨rb, c, rfl, h1, h2⟩; exact ⟨rb, c, rfl, h1, h2⟩))
    · exact r_val (by simp) (by simp) (by simp) (by simp) (fun gm a W h => by have e3 : a.eval (.tmp 3) = .pointer (some ⟨w.heap.size + 1, 0, none⟩) := (h.slot 3 (by kernel_rfl)).trans rfl; simp only [execOp, e3]; first | (simp [go_sem]; done) | (simp [go_sem]; rfl) | kernel_rfl)
    · exact r_val (by simp) (by simp) (by simp) (by simp) (fun gm a W h => by have e17 : a.eval (.tmp 17) = .pointer (some ⟨w.heap.size + 1, 2, none⟩) := (h.val (k := 2) (d := 17) ⟨⟨⟨2, .data⟩, by simp, rfl, by kernel_rfl⟩, by kernel_rfl⟩).trans rfl; have kq0 := h.cell q0; have kq1 := h.cell q1; have kq2 := h.cell q2; have kq3 := h.cell q3; have kq6 := h.cell q6; simp only [execOp, e17]; first | (simp [go_sem, kq0, kq1, kq2, kq3, kq6]; done) | (simp [go_sem, kq0, kq1, kq2, kq3, kq6]; rfl) | kernel_rfl)
    · exact r_call (by simp) (by simp) (by simp) (by simp) (fun gm a W h => by
        skip
        refine Eq.trans (b := .ok (.enter 140 #[]) W) (by kernel_rfl) ?_
        rfl) (fun gm W _ => HPL.out W)
    · exact r_cut rfl (by simp) (by simp) (by simp) ⟨⟨1, .data⟩, by simp, rfl, by kernel_rfl⟩ (vals := fun gm => #[.agg #[.bool true, .slice (some ⟨gm 0, 0, none⟩) 4 (gm 1), .int .i64 lo, .int .i64 hi], .int .i64 ((aj : Int)), .agg #[.int .i64 0, .int .i64 3]]) (fun gm a W h => by
        have e16 : a.eval (.tmp 16) = .agg #[.bool true, .slice (some ⟨gm 0, 0, none⟩) 4 (gm 1), .int .i64 lo, .int .i64 hi] := (h.val (k := 1) (d := 16) ⟨⟨⟨1, .data⟩, by simp, rfl, by kernel_rfl⟩, by kernel_rfl⟩).trans rfl
        have e18 : a.eval (.tmp 18) = .int .i64 ((aj : Int)) := (h.val (k := 3) (d := 18) ⟨⟨⟨3, .data⟩, by simp, rfl, by kernel_rfl⟩, by kernel_rfl⟩).trans rfl
        have e19 : a.eval (.tmp 19) = .agg #[.int .i64 0, .int .i64 3] := (h.val (k := 4) (d := 19) ⟨⟨⟨4, .data⟩, by simp, rfl, by kernel_rfl⟩, by kernel_rfl⟩).trans rfl
        refine Eq.trans (b := .ok (.enter 139 #[a.eval (.tmp 16), a.eval (.tmp 18), a.eval (.tmp 19)]) W) (by kernel_rfl) ?_
        rw [e16, e18, e19]) (fun gm W hw => (HCUT.out _ _ _ W hw).mono (by rintro e w' ⟨rfl, h1, h2⟩; exact ⟨rfl, h1, h2⟩))
    · exact r_val (by simp) (by simp) (by simp) (by simp) (fun gm a W h => by have e20 : a.eval (.tmp 20) = .tuple #[.agg #[.bool true, .slice (some ⟨gm 0, 0, none⟩) 4 (gm 1), .int .i64 lo, .int .i64 hi], .bool true] := (h.val (k := 5) (d := 20) ⟨⟨⟨5, .data⟩, by simp, rfl, by kernel_rfl⟩, by kernel_rfl⟩).trans rfl; simp only [execOp, e20]; first | (simp [go_sem]; done) | (simp [go_sem]; rfl) | kernel_rfl)
    · exact r_val (by simp) (by simp) (by simp) (by simp) (fun gm a W h => by have e14 : a.eval (.tmp 14) = .tuple #[.agg #[.bool true, .slice (some ⟨gm 0, 0, none⟩) 4 (gm 1), .int .i64 lo, .int .i64 hi], .bool true] := (h.val (k := 6) (d := 14) ⟨⟨⟨6, .data⟩, by simp, rfl, by kernel_rfl⟩, by kernel_rfl⟩).trans rfl; simp only [execOp, e14]; first | (simp [go_sem]; done) | (simp [go_sem]; rfl) | kernel_rfl)
    · exact r_val (by simp) (by simp) (by simp) (by simp) (fun gm a W h => by have e14 : a.eval (.tmp 14) = .tuple #[.agg #[.bool true, .slice (some ⟨gm 0, 0, none⟩) 4 (gm 1), .int .i64 lo, .int .i64 hi], .bool true] := (h.val (k := 6) (d := 14) ⟨⟨⟨6, .data⟩, by simp, rfl, by kernel_rfl⟩, by kernel_rfl⟩).trans rfl; simp only [execOp, e14]; first | (simp [go_sem]; done) | (simp [go_sem]; rfl) | kernel_rfl)
    · exact r_alloc rfl (by simp) (by simp) (by simp) (fun L hC hl => depB_clo (i := 10) (k := 9) (by kernel_rfl) hC hl) (fun gm g j hj => by rcases j with _ | _ | _ | _ | _ | _ | _ | _ | _ | _ | _ | _ | j <;> first | rfl | (simp at hj)) (fun gm => rfl) (fun gm a W h => by kernel_rfl)
    · refine r_store rfl (by simp) (by simp) (by simp) ⟨⟨9, .data⟩, by simp, rfl, by kernel_rfl⟩ (fun gm => rfl) (fun gm a W h hb => ?_)
      have e6 : a.eval (.tmp 6) = .pointer (some ⟨gm 2, 0, none⟩) := (h.val (k := 9) (d := 6) ⟨⟨⟨9, .data⟩, by simp, rfl, by kernel_rfl⟩, by kernel_rfl⟩).trans rfl
      have e21 : a.eval (.tmp 21) = .agg #[.bool true, .slice (some ⟨gm 0, 0, none⟩) 4 (gm 1), .int .i64 lo, .int .i64 hi] := (h.val (k := 7) (d := 21) ⟨⟨⟨7, .data⟩, by simp, rfl, by kernel_rfl⟩, by kernel_rfl⟩).trans rfl
      simp only at hb
      have hf := fun j => hb.frozen j
      have c0 := hb.cell 0
      have c1 := hb.cell 1
      have c2 := hb.cell 2
      have c3 := hb.cell 3
      refine ⟨_, by (simp only [execOp, e6, e21]; simp [go_sem, hf, c0, c1, c2, c3]; try rfl), ((((hb).set_ 0 _).set_ 1 _).set_ 2 _).set_ 3 _, Chg.alw (F := fun t => t = gm 2) (Chg.alw (F := fun t => t = gm 2) (Chg.alw (F := fun t => t = gm 2) (Chg.alw (F := fun t => t = gm 2) (Chg.refl _ W) rfl _) rfl _) rfl _) rfl _⟩
    · exact r_val (by simp) (by simp) (by simp) (by simp) (fun gm a W h => by have e22 : a.eval (.tmp 22) = .bool true := (h.val (k := 8) (d := 22) ⟨⟨⟨8, .data⟩, by simp, rfl, by kernel_rfl⟩, by kernel_rfl⟩).trans rfl; simp only [execOp, e22]; first | (simp [go_sem]; done) | (simp [go_sem]; rfl) | kernel_rfl)
    intro gm vs w9 hG9 hor9 hge9 hb9 hne9 hv9
    have x0 : vs 0 = .agg #[.bool true, .slice (some ⟨xb, xoff, none⟩) 4 xc, .int .i64 lo, .int .i64 hi] := (hv9 0 15 (by kernel_rfl)).trans rfl
    have x1 : vs 1 = .agg #[.bool true, .slice (some ⟨gm 0, 0, none⟩) 4 (gm 1), .int .i64 lo, .int .i64 hi] := (hv9 1 16 (by kernel_rfl)).trans rfl
    have x2 : vs 2 = .pointer (some ⟨w.heap.size + 1, 2, none⟩) := (hv9 2 17 (by kernel_rfl)).trans rfl
    have x3 : vs 3 = .int .i64 ((aj : Int)) := (hv9 3 18 (by kernel_rfl)).trans rfl
    have x4 : vs 4 = .agg #[.int .i64 0, .int .i64 3] := (hv9 4 19 (by kernel_rfl)).trans rfl
    have x5 : vs 5 = .tuple #[.agg #[.bool true, .slice (some ⟨gm 0, 0, none⟩) 4 (gm 1), .int .i64 lo, .int .i64 hi], .bool true] := (hv9 5 20 (by kernel_rfl)).trans rfl
    have x6 : vs 6 = .tuple #[.agg #[.bool true, .slice (some ⟨gm 0, 0, none⟩) 4 (gm 1), .int .i64 lo, .int .i64 hi], .bool true] := (hv9 6 14 (by kernel_rfl)).trans rfl
    have x7 : vs 7 = .agg #[.bool true, .slice (some ⟨gm 0, 0, none⟩) 4 (gm 1), .int .i64 lo, .int .i64 hi] := (hv9 7 21 (by kernel_rfl)).trans rfl
    have x8 : vs 8 = .bool true := (hv9 8 22 (by kernel_rfl)).trans rfl
    have x9 : vs 9 = .pointer (some ⟨gm 2, 0, none⟩) := (hv9 9 6 (by kernel_rfl)).trans rfl
    have x11 : vs 11 = .bool true := (hv9 11 7 (by kernel_rfl)).trans rfl
    simp only at hor9 hb9
    simp only [putAll, Act.put, List.setIfInBounds_toArray, List.set_cons_zero, List.set_cons_succ, Nat.zero_add, Nat.reduceAdd, x0, x1, x2, x3, x4, x5, x6, x7, x8, x9, x11]
    clear hv9 x0 x1 x2 x3 x4 x5 x6 x7 x8 x9 x11
    obtain ⟨rb, hrbe⟩ : ∃ r, gm 0 = r := ⟨_, rfl⟩
    obtain ⟨cc, hcce⟩ : ∃ r, gm 1 = r := ⟨_, rfl⟩
    obtain ⟨g6, hg6⟩ : ∃ r, gm 2 = r := ⟨_, rfl⟩
    rw [hrbe] at hor9 hne9
    rw [hcce] at hor9
    rw [hg6] at hge9 hb9 hne9
    simp only [hrbe, hcce, hg6] at hb9 ⊢
    have HOY := Lib.hid hor9
    have hrlt := hor9.lt
    have hrge := hor9.2.1
    have HG2 := Lib.hid (grew_tr GO.out hG9)
    have HZ2 := Lib.hid (HZ4.out.grew hG9)
    have HB2 := Lib.hid (HB5.out.grew hG9)
    have HK6 := Lib.hid hb9
    have hsz9 := hG9.size
    have hl9 := hb9.lt
    have n4 : w.heap.size + 1 + 1 ≠ rb := by omega
    have n2r : g6 ≠ rb := fun e => hne9 e.symm
    have n24 : w.heap.size + 1 + 1 ≠ g6 := by omega
    have n42 : g6 ≠ w.heap.size + 1 + 1 := by omega
    have q0 := (hG9.cell (p := ⟨w.heap.size, 0, none⟩) (World.block_lt_of_cell? _ _ q0)).trans q0
    have q1 := (hG9.cell (p := ⟨w.heap.size, 1, none⟩) (World.block_lt_of_cell? _ _ q1)).trans q1
    have q2 := (hG9.cell (p := ⟨w.heap.size, 2, none⟩) (World.block_lt_of_cell? _ _ q2)).trans q2
    have q3 := (hG9.cell (p := ⟨w.heap.size, 3, none⟩) (World.block_lt_of_cell? _ _ q3)).trans q3
    have q4 := (hG9.cell (p := ⟨w.heap.size + 1, 0, none⟩) (World.block_lt_of_cell? _ _ q4)).trans q4
    have q5 := (hG9.cell (p := ⟨w.heap.size + 1, 1, none⟩) (World.block_lt_of_cell? _ _ q5)).trans q5
    have q6 := (hG9.cell (p := ⟨w.heap.size + 1, 2, none⟩) (World.block_lt_of_cell? _ _ q6)).trans q6
    have q7 := (hG9.cell (p := ⟨w.heap.size + 1, 3, none⟩) (World.block_lt_of_cell? _ _ q7)).trans q7
    have q8 := (hG9.cell (p := ⟨w.heap.size + 1, 4, none⟩) (World.block_lt_of_cell? _ _ q8)).trans q8
    have q9 := (hG9.cell (p := ⟨w.heap.size + 1, 5, none⟩) (World.block_lt_of_cell? _ _ q9)).trans q9
    have q10 := (hG9.cell (p := ⟨w.heap.size + 1, 6, none⟩) (World.block_lt_of_cell? _ _ q10)).trans q10
    have q11 := (hG9.cell (p := ⟨w.heap.size + 1, 7, none⟩) (World.block_lt_of_cell? _ _ q11)).trans q11
    have k0 := hb9.cell 0
    have k1 := hb9.cell 1
    have k2 := hb9.cell 2
    have k3 := hb9.cell 3
    have kf := fun j => hb9.frozen j
    have ql := World.block_lt_of_cell? _ _ q4
    simp only at ql
    simp only [List.getElem?_toArray, List.getElem?_cons_zero, List.getElem?_cons_succ] at k0 k1 k2 k3
    clear hrbe hcce hg6 hor9 hne9 hb9 hG9 gm vs
    have HSE := Lib.hid (fun B W (h : OwnR W B rb cc zs) => specL7Set B rb cc zs lo hi (dj : Int) ⟨lo, hi⟩ W h HD.out)
    go_wp2_with fail
    refine (HSE.out _ _ HOY.out).mono ?_
    rintro e w5 ⟨rfl, ho5, hc5⟩
    have ZZ := HZ2.out.chg hc5 n4
    have HO5 := Lib.hid ho5
    have HG5 := Lib.hid (show Grew w w5 from Below.trans HG2.out (hc5.belowB HG2.out.size (fun k hk => by subst hk; omega)))
    have z0 := ZZ.cell 0
    have z1 := ZZ.cell 1
    have z2 := ZZ.cell 2
    have z3 := ZZ.cell 3
    have zl := ZZ.lt
    have zf := fun j => ZZ.frozen j
    simp only [List.getElem?_toArray, List.getElem?_cons_zero, List.getElem?_cons_succ] at z0 z1 z2 z3
    clear ZZ ho5 hc5
    go_wp2
    refine bodyPost_ret (by simp [results, Tryz.results117, go_sem, z0, z1, z2, z3, zl]; try rfl) rfl ?_
    refine ⟨?_, rb, cc, rfl, fun z hz => ?_⟩
    · repeat (first | with_reducible exact HG5.out | with_reducible refine grew_set ?_ (by first | omega | (simp only; omega)) _)
    · cases hz
      refine (OwnR.chg (F := fun b => b = w.heap.size + 1 + 1) HO5.out ?_ (fun e => n4 e.symm)).mono (by omega)
      repeat (first | with_reducible exact Chg.refl _ _ | with_reducible refine Chg.alw (F := fun b => b = w.heap.size + 1 + 1) ?_ rfl _)
set_option maxRecDepth 100000 in
set_option maxHeartbeats 8000000 in
theorem specL7Cell7 (ps : List Prc) (ss : List Sum) (xa : Option Addr) (xc : Nat) (xs : List Itv) (lo hi : Int) (d a b rel ilo ihi to : Int) (w : World) (hx : RdL EItv 2 w xa 4 xs) (hs : stOkB true xs lo hi = true) (hd : varB d = true) (ha : varB a = true) (hb : varB b = true) :
    Calls Tryz.prog 117 #[.agg #[.bool true, .slice xa 4 xc, .int .i64 lo, .int .i64 hi], Ins.v ⟨7, d, a, b, rel, ilo, ihi, to⟩] w (RetO (actI ps ss ⟨7, d, a, b, rel, ilo, ihi, to⟩ xs ⟨lo, hi⟩) w) := by
  have HD := Lib.hid hd
  have hnb := nthI_ok hs hb
  have HCUT := Lib.hid (fun B rb c W (h : OwnR W B rb c xs) => specL7Cut B rb c xs lo hi a ⟨0, 3⟩ W h ha (nthI_ok hs ha) (by decide))
  have hcok : itvB ⟨lo, hi⟩ = true := (stOk_parts hs).2.2
  obtain ⟨bj, rfl, hjb, hxb⟩ := nthI_get hx.len hb
  obtain ⟨aj, rfl, hja, hxa⟩ := nthI_get hx.len ha
  obtain ⟨dj, rfl, hjd, hxd⟩ := nthI_get hx.len hd
  have HV0 : Hid (actI ps ss ⟨7, (dj : Int), (aj : Int), (bj : Int), rel, ilo, ihi, to⟩ xs ⟨lo, hi⟩ = (narI xs aj ⟨0, 3⟩).map fun zs => (zs, joinI ⟨lo, hi⟩ (nthI xs bj))) := Lib.hid (by simp [actI])
  rw [HV0.out]
  obtain ⟨⟨bl, bh⟩, hXb⟩ : ∃ x, nthI xs bj = x := ⟨_, rfl⟩
  rw [hXb] at hxb hnb
  rw [hXb]
  obtain ⟨n, hn⟩ : ∃ n, narI xs aj ⟨0, 3⟩ = n := ⟨_, rfl⟩
  rw [hn] at HCUT ⊢
  obtain ⟨xb, xoff, bl', bh', rfl, hy2, bc0, bc1, blt⟩ := rdItv_at hx hjb
  rw [hy2] at hxb
  cases hxb
  have HX := Lib.hid hx
  have HPL := Lib.hid (fun W => specL7Places W)
  have HJ := Lib.hid (fun W => specItvJoin ⟨lo, hi⟩ ⟨bl, bh⟩ W hcok hnb)
  have HJV : Hid (joinI ⟨lo, hi⟩ ⟨bl, bh⟩ = ⟨min lo bl, max hi bh⟩) := Lib.hid rfl
  rw [HJV.out]
  simp only at HJ
  obtain ⟨jl, hjl⟩ : ∃ j, min lo bl = j := ⟨_, rfl⟩
  obtain ⟨jh, hjh⟩ : ∃ j, max hi bh = j := ⟨_, rfl⟩
  rw [hjl, hjh] at HJ ⊢
  clear hjl hjh HJV
  clear HV0 hn hxa hxd hx hs hd ha hb hXb hy2 hnb hcok
  have hbq : ¬ (4 : Int) ≤ (bj : Int) := by omega
  have hb1 : xb < w.heap.size + 1 := by omega
  have hb2 : xb < w.heap.size + 1 + 1 := by omega
  cases n with
  | none =>
    go_enter Tryz.func117, Tryz.ntmps117
    go_upto_region 2 with fail
    refine wp_letH ?_
    intro E hE
    have GO := Lib.hid (show Grew w E from by rw [hE]; exact gr)
    have q0 : E.cell? ⟨w.heap.size, 0, none⟩ = some (.bool true) := by rw [hE]; simp [go_sem]
    have q1 : E.cell? ⟨w.heap.size, 1, none⟩ = some (.slice (some ⟨xb, xoff, none⟩) 4 xc) := by rw [hE]; simp [go_sem]
    have q2 : E.cell? ⟨w.heap.size, 2, none⟩ = some (.int .i64 lo) := by rw [hE]; simp [go_sem]
    have q3 : E.cell? ⟨w.heap.size, 3, none⟩ = some (.int .i64 hi) := by rw [hE]; simp [go_sem]
    have q4 : E.cell? ⟨w.heap.size + 1, 0, none⟩ = some (.int .i64 (7 : Int)) := by rw [hE]; simp [go_sem]
    have q5 : E.cell? ⟨w.heap.size + 1, 1, none⟩ = some (.int .i64 (dj : Int)) := by rw [hE]; simp [go_sem]
    have q6 : E.cell? ⟨w.heap.size + 1, 2, none⟩ = some (.int .i64 (aj : Int)) := by rw [hE]; simp [go_sem]
    have q7 : E.cell? ⟨w.heap.size + 1, 3, none⟩ = some (.int .i64 (bj : Int)) := by rw [hE]; simp [go_sem]
    have q8 : E.cell? ⟨w.heap.size + 1, 4, none⟩ = some (.int .i64 rel) := by rw [hE]; simp [go_sem]
    have q9 : E.cell? ⟨w.heap.size + 1, 5, none⟩ = some (.int .i64 ilo) := by rw [hE]; simp [go_sem]
    have q10 : E.cell? ⟨w.heap.size + 1, 6, none⟩ = some (.int .i64 ihi) := by rw [hE]; simp [go_sem]
    have q11 : E.cell? ⟨w.heap.size + 1, 7, none⟩ = some (.int .i64 to) := by rw [hE]; simp [go_sem]
    have HZ4 := Lib.hid (show Blk E (w.heap.size + 1 + 1) 33 #[.bool false, .slice none 0 0, .int .i64 0, .int .i64 0] from by rw [hE]; exact Blk.alloc (Blk.new' (by simp only [World.size_alloc])) _)
    have HB5 := Lib.hid (show Blk E (w.heap.size + 1 + 1 + 1) 31 #[.int .i64 bl, .int .i64 bh] from by rw [hE]; exact Blk.new' (by simp only [World.size_alloc]))
    have hszE : E.heap.size = w.heap.size + 1 + 1 + 1 + 1 := by rw [hE]; simp only [World.size_alloc]
    clear hE
    refine region_row 41 ⟨1, 5, 9, 10, 33, #[.bool false, .slice none 0 0, .int .i64 0, .int .i64 0], (fun rb cc => #[.bool false, .slice none 0 0, .int .i64 0, .int .i64 0]), xs, xs⟩ (fun gm i => ([.agg #[.bool true, .slice (some ⟨xb, xoff, none⟩) 4 xc, .int .i64 lo, .int .i64 hi], .agg #[.bool true, .slice (some ⟨gm 0, 0, none⟩) 4 (gm 1), .int .i64 lo, .int .i64 hi], .pointer (some ⟨w.heap.size + 1, 2, none⟩), .int .i64 ((aj : Int)), .agg #[.int .i64 0, .int .i64 3], .tuple #[.agg #[.bool false, .slice none 0 0, .int .i64 0, .int .i64 0], .bool false], .tuple #[.agg #[.bool false, .slice none 0 0, .int .i64 0, .int .i64 0], .bool false], .agg #[.bool false, .slice none 0 0, .int .i64 0, .int .i64 0], .bool false, .pointer (some ⟨gm 2, 0, none⟩), undef, .bool false] : List Value).getD i undef) (by kernel_rfl) rfl (by kernel_rfl) (by refine ⟨?_, ?_, ?_, ?_⟩ <;> exact Nat.le_of_ble_eq_true (by kernel_rfl)) ⟨?_, ?_, ?_, ?_, ?_, ?_, ?_, ?_, ?_, ?_, ?_, ?_, trivial⟩ ?_
    · exact r_val (by simp) (by simp) (by simp) (by simp) (fun gm a W h => by have e2 : a.eval (.tmp 2) = .pointer (some ⟨w.heap.size, 0, none⟩) := (h.slot 2 (by kernel_rfl)).trans rfl; have kq0 := h.cell q0; have kq1 := h.cell q1; have kq2 := h.cell q2; have kq3 := h.cell q3; have kq6 := h.cell q6; simp only [execOp, e2]; first | (simp [go_sem, kq0, kq1, kq2, kq3, kq6]; done) | (simp [go_sem, kq0, kq1, kq2, kq3, kq6]; rfl) | kernel_rfl)
    · exact r_copy rfl (by simp) (by simp) (by simp) [1, 5, 6, 7, 10] (by simp) (by simp) (fun L hC j hj hl => by
        simp only [List.mem_cons, List.not_mem_nil, or_false] at hj
        rcases hj with rfl | rfl | rfl | rfl | rfl
        · exact hl
        · exact depB_clo (i := 5) (k := 1) (by kernel_rfl) hC (hl)
        · exact depB_clo (i := 5) (k := 1) (by kernel_rfl) hC (depB_clo (i := 6) (k := 5) (by kernel_rfl) hC (hl))
        · exact depB_clo (i := 5) (k := 1) (by kernel_rfl) hC (depB_clo (i := 6) (k := 5) (by kernel_rfl) hC (depB_clo (i := 7) (k := 6) (by kernel_rfl) hC (hl)))
        · exact depB_clo (i := 5) (k := 1) (by kernel_rfl) hC (depB_clo (i := 6) (k := 5) (by kernel_rfl) hC (depB_clo (i := 7) (k := 6) (by kernel_rfl) hC (depB_clo (i := 10) (k := 7) (by kernel_rfl) hC (hl))))) (fun gm rb c j hj => by rcases j with _ | _ | _ | _ | _ | _ | _ | _ | _ | _ | _ | _ | j <;> first | (left; rfl) | (right; rfl) | (simp at hj)) (fun gm a W h => by
        have e15 : a.eval (.tmp 15) = .agg #[.bool true, .slice (some ⟨xb, xoff, none⟩) 4 xc, .int .i64 lo, .int .i64 hi] := (h.val (k := 0) (d := 15) ⟨⟨⟨0, .data⟩, by simp, rfl, by kernel_rfl⟩, by kernel_rfl⟩).trans rfl
        refine Eq.trans (b := .ok (.enter 116 #[a.eval (.tmp 15)]) W) (by kernel_rfl) ?_
        rw [e15]) (fun gm W g => (specL7Copy _ xc xs lo hi W (HX.out.grew staysItv (grew_tr GO.out g))).mono (by rintro e w' ⟨rb, c, rfl, h1, h2⟩; exact ⟨rb, c, rfl, h1, h2⟩))
    · exact r_val (by simp) (by simp) (by simp) (by simp) (fun gm a W h => by have e3 : a.eval (.tmp 3) = .pointer (some ⟨w.heap.size + 1, 0, none⟩) := (h.slot 3 (by kernel_rfl)).trans rfl; simp only [execOp, e3]; first | (simp [go_sem]; done) | (simp [go_sem]; rfl) | kernel_rfl)
    · exact r_val (by simp) (by simp) (by simp) (by simp) (fun gm a W h => by have e17 : a.eval (.tmp 17) = .pointer (some ⟨w.heap.size + 1, 2, none⟩) := (h.val (k := 2) (d := 17) ⟨⟨⟨2, .data⟩, by simp, rfl, by kernel_rfl⟩, by kernel_rfl⟩).trans rfl; have kq0 := h.cell q0; have kq1 := h.cell q1; have kq2 := h.cell q2; have kq3 := h.cell q3; have kq6 := h.cell q6; simp only [execOp, e17]; first | (simp [go_sem, kq0, kq1, kq2, kq3, kq6]; done) | (simp [go_sem, kq0, kq1, kq2, kq3, kq6]; rfl) | kernel_rfl)
    · exact r_call (by simp) (by simp) (by simp) (by simp) (fun gm a W h => by
        skip
        refine Eq.trans (b := .ok (.enter 140 #[]) W) (by kernel_rfl) ?_
        rfl) (fun gm W _ => HPL.out W)
    · exact r_cut rfl (by simp) (by simp) (by simp) ⟨⟨1, .data⟩, by simp, rfl, by kernel_rfl⟩ (vals := fun gm => #[.agg #[.bool true, .slice (some ⟨gm 0, 0, none⟩) 4 (gm 1), .int .i64 lo, .int .i64 hi], .int .i64 ((aj : Int)), .agg #[.int .i64 0, .int .i64 3]]) (fun gm a W h => by
        have e16 : a.eval (.tmp 16) = .agg #[.bool true, .slice (some ⟨gm 0, 0, none⟩) 4 (gm 1), .int .i64 lo, .int .i64 hi] := (h.val (k := 1) (d := 16) ⟨⟨⟨1, .data⟩, by simp, rfl, by kernel_rfl⟩, by kernel_rfl⟩).trans rfl
        have e18 : a.eval (.tmp 18) = .int .i64 ((aj : Int)) := (h.val (k := 3) (d := 18) ⟨⟨⟨3, .data⟩, by simp, rfl, by kernel_rfl⟩, by kernel_rfl⟩).trans rfl
        have e19 : a.eval (.tmp 19) = .agg #[.int .i64 0, .int .i64 3] := (h.val (k := 4) (d := 19) ⟨⟨⟨4, .data⟩, by simp, rfl, by kernel_rfl⟩, by kernel_rfl⟩).trans rfl
        refine Eq.trans (b := .ok (.enter 139 #[a.eval (.tmp 16), a.eval (.tmp 18), a.eval (.tmp 19)]) W) (by kernel_rfl) ?_
        rw [e16, e18, e19]) (fun gm W hw => (HCUT.out _ _ _ W hw).mono (by rintro e w' ⟨rfl, h1, h2⟩; exact ⟨rfl, h1, h2⟩))
    · exact r_val (by simp) (by simp) (by simp) (by simp) (fun gm a W h => by have e20 : a.eval (.tmp 20) = .tuple #[.agg #[.bool false, .slice none 0 0, .int .i64 0, .int .i64 0], .bool false] := (h.val (k := 5) (d := 20) ⟨⟨⟨5, .data⟩, by simp, rfl, by kernel_rfl⟩, by kernel_rfl⟩).trans rfl; simp only [execOp, e20]; first | (simp [go_sem]; done) | (simp [go_sem]; rfl) | kernel_rfl)
    · exact r_val (by simp) (by simp) (by simp) (by simp) (fun gm a W h => by have e14 : a.eval (.tmp 14) = .tuple #[.agg #[.bool false, .slice none 0 0, .int .i64 0, .int .i64 0], .bool false] := (h.val (k := 6) (d := 14) ⟨⟨⟨6, .data⟩, by simp, rfl, by kernel_rfl⟩, by kernel_rfl⟩).trans rfl; simp only [execOp, e14]; first | (simp [go_sem]; done) | (simp [go_sem]; rfl) | kernel_rfl)
    · exact r_val (by simp) (by simp) (by simp) (by simp) (fun gm a W h => by have e14 : a.eval (.tmp 14) = .tuple #[.agg #[.bool false, .slice none 0 0, .int .i64 0, .int .i64 0], .bool false] := (h.val (k := 6) (d := 14) ⟨⟨⟨6, .data⟩, by simp, rfl, by kernel_rfl⟩, by kernel_rfl⟩).trans rfl; simp only [execOp, e14]; first | (simp [go_sem]; done) | (simp [go_sem]; rfl) | kernel_rfl)
    · exact r_alloc rfl (by simp) (by simp) (by simp) (fun L hC hl => depB_clo (i := 10) (k := 9) (by kernel_rfl) hC hl) (fun gm g j hj => by rcases j with _ | _ | _ | _ | _ | _ | _ | _ | _ | _ | _ | _ | j <;> first | rfl | (simp at hj)) (fun gm => rfl) (fun gm a W h => by kernel_rfl)
    · refine r_store rfl (by simp) (by simp) (by simp) ⟨⟨9, .data⟩, by simp, rfl, by kernel_rfl⟩ (fun gm => rfl) (fun gm a W h hb => ?_)
      have e6 : a.eval (.tmp 6) = .pointer (some ⟨gm 2, 0, none⟩) := (h.val (k := 9) (d := 6) ⟨⟨⟨9, .data⟩, by simp, rfl, by kernel_rfl⟩, by kernel_rfl⟩).trans rfl
      have e21 : a.eval (.tmp 21) = .agg #[.bool false, .slice none 0 0, .int .i64 0, .int .i64 0] := (h.val (k := 7) (d := 21) ⟨⟨⟨7, .data⟩, by simp, rfl, by kernel_rfl⟩, by kernel_rfl⟩).trans rfl
      simp only at hb
      have hf := fun j => hb.frozen j
      have c0 := hb.cell 0
      have c1 := hb.cell 1
      have c2 := hb.cell 2
      have c3 := hb.cell 3
      refine ⟨_, by (simp only [execOp, e6, e21]; simp [go_sem, hf, c0, c1, c2, c3]; try rfl), ((((hb).set_ 0 _).set_ 1 _).set_ 2 _).set_ 3 _, Chg.alw (F := fun t => t = gm 2) (Chg.alw (F := fun t => t = gm 2) (Chg.alw (F := fun t => t = gm 2) (Chg.alw (F := fun t => t = gm 2) (Chg.refl _ W) rfl _) rfl _) rfl _) rfl _⟩
    · exact r_val (by simp) (by simp) (by simp) (by simp) (fun gm a W h => by have e22 : a.eval (.tmp 22) = .bool false := (h.val (k := 8) (d := 22) ⟨⟨⟨8, .data⟩, by simp, rfl, by kernel_rfl⟩, by kernel_rfl⟩).trans rfl; simp only [execOp, e22]; first | (simp [go_sem]; done) | (simp [go_sem]; rfl) | kernel_rfl)
    intro gm vs w9 hG9 hor9 hge9 hb9 hne9 hv9
    have x0 : vs 0 = .agg #[.bool true, .slice (some ⟨xb, xoff, none⟩) 4 xc, .int .i64 lo, .int .i64 hi] := (hv9 0 15 (by kernel_rfl)).trans rfl
    have x1 : vs 1 = .agg #[.bool true, .slice (some ⟨gm 0, 0, none⟩) 4 (gm 1), .int .i64 lo, .int .i64 hi] := (hv9 1 16 (by kernel_rfl)).trans rfl
    have x2 : vs 2 = .pointer (some ⟨w.heap.size + 1, 2, none⟩) := (hv9 2 17 (by kernel_rfl)).trans rfl
    have x3 : vs 3 = .int .i64 ((aj : Int)) := (hv9 3 18 (by kernel_rfl)).trans rfl
    have x4 : vs 4 = .agg #[.int .i64 0, .int .i64 3] := (hv9 4 19 (by kernel_rfl)).trans rfl
    have x5 : vs 5 = .tuple #[.agg #[.bool false, .slice none 0 0, .int .i64 0, .int .i64 0], .bool false] := (hv9 5 20 (by kernel_rfl)).trans rfl
    have x6 : vs 6 = .tuple #[.agg #[.bool false, .slice none 0 0, .int .i64 0, .int .i64 0], .bool false] := (hv9 6 14 (by kernel_rfl)).trans rfl
    have x7 : vs 7 = .agg #[.bool false, .slice none 0 0, .int .i64 0, .int .i64 0] := (hv9 7 21 (by kernel_rfl)).trans rfl
    have x8 : vs 8 = .bool false := (hv9 8 22 (by kernel_rfl)).trans rfl
    have x9 : vs 9 = .pointer (some ⟨gm 2, 0, none⟩) := (hv9 9 6 (by kernel_rfl)).trans rfl
    have x11 : vs 11 = .bool false := (hv9 11 7 (by kernel_rfl)).trans rfl
    simp only at hor9 hb9
    simp only [putAll, Act.put, List.setIfInBounds_toArray, List.set_cons_zero, List.set_cons_succ, Nat.zero_add, Nat.reduceAdd, x0, x1, x2, x3, x4, x5, x6, x7, x8, x9, x11]
    clear hv9 x0 x1 x2 x3 x4 x5 x6 x7 x8 x9 x11
    obtain ⟨rb, hrbe⟩ : ∃ r, gm 0 = r := ⟨_, rfl⟩
    obtain ⟨cc, hcce⟩ : ∃ r, gm 1 = r := ⟨_, rfl⟩
    obtain ⟨g6, hg6⟩ : ∃ r, gm 2 = r := ⟨_, rfl⟩
    rw [hrbe] at hor9 hne9
    rw [hcce] at hor9
    rw [hg6] at hge9 hb9 hne9
    simp only [hrbe, hcce, hg6] at hb9 ⊢
    have HOY := Lib.hid hor9
    have hrlt := hor9.lt
    have hrge := hor9.2.1
    have HG2 := Lib.hid (grew_tr GO.out hG9)
    have HZ2 := Lib.hid (HZ4.out.grew hG9)
    have HB2 := Lib.hid (HB5.out.grew hG9)
    have HK6 := Lib.hid hb9
    have hsz9 := hG9.size
    have hl9 := hb9.lt
    have n4 : w.heap.size + 1 + 1 ≠ rb := by omega
    have n2r : g6 ≠ rb := fun e => hne9 e.symm
    have n24 : w.heap.size + 1 + 1 ≠ g6 := by omega
    have n42 : g6 ≠ w.heap.size + 1 + 1 := by omega
    have q0 := (hG9.cell (p := ⟨w.heap.size, 0, none⟩) (World.block_lt_of_cell? _ _ q0)).trans q0
    have q1 := (hG9.cell (p := ⟨w.heap.size, 1, none⟩) (World.block_lt_of_cell? _ _ q1)).trans q1
    have q2 := (hG9.cell (p := ⟨w.heap.size, 2, none⟩) (World.block_lt_of_cell? _ _ q2)).trans q2
    have q3 := (hG9.cell (p := ⟨w.heap.size, 3, none⟩) (World.block_lt_of_cell? _ _ q3)).trans q3
    have q4 := (hG9.cell (p := ⟨w.heap.size + 1, 0, none⟩) (World.block_lt_of_cell? _ _ q4)).trans q4
    have q5 := (hG9.cell (p := ⟨w.heap.size + 1, 1, none⟩) (World.block_lt_of_cell? _ _ q5)).trans q5
    have q6 := (hG9.cell (p := ⟨w.heap.size + 1, 2, none⟩) (World.block_lt_of_cell? _ _ q6)).trans q6
    have q7 := (hG9.cell (p := ⟨w.heap.size + 1, 3, none⟩) (World.block_lt_of_cell? _ _ q7)).trans q7
    have q8 := (hG9.cell (p := ⟨w.heap.size + 1, 4, none⟩) (World.block_lt_of_cell? _ _ q8)).trans q8
    have q9 := (hG9.cell (p := ⟨w.heap.size + 1, 5, none⟩) (World.block_lt_of_cell? _ _ q9)).trans q9
    have q10 := (hG9.cell (p := ⟨w.heap.size + 1, 6, none⟩) (World.block_lt_of_cell? _ _ q10)).trans q10
    have q11 := (hG9.cell (p := ⟨w.heap.size + 1, 7, none⟩) (World.block_lt_of_cell? _ _ q11)).trans q11
    have k0 := hb9.cell 0
    have k1 := hb9.cell 1
    have k2 := hb9.cell 2
    have k3 := hb9.cell 3
    have kf := fun j => hb9.frozen j
    have ql := World.block_lt_of_cell? _ _ q4
    simp only at ql
    simp only [List.getElem?_toArray, List.getElem?_cons_zero, List.getElem?_cons_succ] at k0 k1 k2 k3
    clear hrbe hcce hg6 hor9 hne9 hb9 hG9 gm vs
    have ZZ := HZ2.out
    have z0 := ZZ.cell 0
    have z1 := ZZ.cell 1
    have z2 := ZZ.cell 2
    have z3 := ZZ.cell 3
    have zl := ZZ.lt
    have zf := fun j => ZZ.frozen j
    simp only [List.getElem?_toArray, List.getElem?_cons_zero, List.getElem?_cons_succ] at z0 z1 z2 z3
    clear ZZ
    go_wp2
    refine bodyPost_ret (by simp [results, Tryz.results117, go_sem, z0, z1, z2, z3, zl]; try rfl) rfl ?_
    refine ⟨?_, 0, 0, rfl, fun z hz => by cases hz⟩
    repeat (first | with_reducible exact HG2.out | with_reducible refine grew_set ?_ (by first | omega | (simp only; omega)) _)
  | some zs =>
    go_enter Tryz.func117, Tryz.ntmps117
    go_upto_region 2 with fail
    refine wp_letH ?_
    intro E hE
    have GO := Lib.hid (show Grew w E from by rw [hE]; exact gr)
    have q0 : E.cell? ⟨w.heap.size, 0, none⟩ = some (.bool true) := by rw [hE]; simp [go_sem]
    have q1 : E.cell? ⟨w.heap.size, 1, none⟩ = some (.slice (some ⟨xb, xoff, none⟩) 4 xc) := by rw [hE]; simp [go_sem]
    have q2 : E.cell? ⟨w.heap.size, 2, none⟩ = some (.int .i64 lo) := by rw [hE]; simp [go_sem]
    have q3 : E.cell? ⟨w.heap.size, 3, none⟩ = some (.int .i64 hi) := by rw [hE]; simp [go_sem]
    have q4 : E.cell? ⟨w.heap.size + 1, 0, none⟩ = some (.int .i64 (7 : Int)) := by rw [hE]; simp [go_sem]
    have q5 : E.cell? ⟨w.heap.size + 1, 1, none⟩ = some (.int .i64 (dj : Int)) := by rw [hE]; simp [go_sem]
    have q6 : E.cell? ⟨w.heap.size + 1, 2, none⟩ = some (.int .i64 (aj : Int)) := by rw [hE]; simp [go_sem]
    have q7 : E.cell? ⟨w.heap.size + 1, 3, none⟩ = some (.int .i64 (bj : Int)) := by rw [hE]; simp [go_sem]
    have q8 : E.cell? ⟨w.heap.size + 1, 4, none⟩ = some (.int .i64 rel) := by rw [hE]; simp [go_sem]
    have q9 : E.cell? ⟨w.heap.size + 1, 5, none⟩ = some (.int .i64 ilo) := by rw [hE]; simp [go_sem]
    have q10 : E.cell? ⟨w.heap.size + 1, 6, none⟩ = some (.int .i64 ihi) := by rw [hE]; simp [go_sem]
    have q11 : E.cell? ⟨w.heap.size + 1, 7, none⟩ = some (.int .i64 to) := by rw [hE]; simp [go_sem]
    have HZ4 := Lib.hid (show Blk E (w.heap.size + 1 + 1) 33 #[.bool false, .slice none 0 0, .int .i64 0, .int .i64 0] from by rw [hE]; exact Blk.alloc (Blk.new' (by simp only [World.size_alloc])) _)
    have HB5 := Lib.hid (show Blk E (w.heap.size + 1 + 1 + 1) 31 #[.int .i64 bl, .int .i64 bh] from by rw [hE]; exact Blk.new' (by simp only [World.size_alloc]))
    have hszE : E.heap.size = w.heap.size + 1 + 1 + 1 + 1 := by rw [hE]; simp only [World.size_alloc]
    clear hE
    refine region_row 41 ⟨1, 5, 9, 10, 33, #[.bool false, .slice none 0 0, .int .i64 0, .int .i64 0], (fun rb cc => #[.bool true, .slice (some ⟨rb, 0, none⟩) 4 cc, .int .i64 lo, .int .i64 hi]), xs, zs⟩ (fun gm i => ([.agg #[.bool true, .slice (some ⟨xb, xoff, none⟩) 4 xc, .int .i64 lo, .int .i64 hi], .agg #[.bool true, .slice (some ⟨gm 0, 0, none⟩) 4 (gm 1), .int .i64 lo, .int .i64 hi], .pointer (some ⟨w.heap.size + 1, 2, none⟩), .int .i64 ((aj : Int)), .agg #[.int .i64 0, .int .i64 3], .tuple #[.agg #[.bool true, .slice (some ⟨gm 0, 0, none⟩) 4 (gm 1), .int .i64 lo, .int .i64 hi], .bool true], .tuple #[.agg #[.bool true, .slice (some ⟨gm 0, 0, none⟩) 4 (gm 1), .int .i64 lo, .int .i64 hi], .bool true], .agg #[.bool true, .slice (some ⟨gm 0, 0, none⟩) 4 (gm 1), .int .i64 lo, .int .i64 hi], .bool true, .pointer (some ⟨gm 2, 0, none⟩), undef, .bool true] : List Value).getD i undef) (by kernel_rfl) rfl (by kernel_rfl) (by refine ⟨?_, ?_, ?_, ?_⟩ <;> exact Nat.le_of_ble_eq_true (by kernel_rfl)) ⟨?_, ?_, ?_, ?_, ?_, ?_, ?_, ?_, ?_, ?_, ?_, ?_, trivial⟩ ?_
    · exact r_val (by simp) (by simp) (by simp) (by simp) (fun gm a W h => by have e2 : a.eval (.tmp 2) = .pointer (some ⟨w.heap.size, 0, none⟩) := (h.slot 2 (by kernel_rfl)).trans rfl; have kq0 := h.cell q0; have kq1 := h.cell q1; have kq2 := h.cell q2; have kq3 := h.cell q3; have kq6 := h.cell q6; simp only [execOp, e2]; first | (simp [go_sem, kq0, kq1, kq2, kq3, kq6]; done) | (simp [go_sem, kq0, kq1, kq2, kq3, kq6]; rfl) | kernel_rfl)
    · exact r_copy rfl (by simp) (by simp) (by simp) [1, 5, 6, 7, 10] (by simp) (by simp) (fun L hC j hj hl => by
        simp only [List.mem_cons, List.not_mem_nil, or_false] at hj
        rcases hj with rfl | rfl | rfl | rfl | rfl
        · exact hl
        · exact depB_clo (i := 5) (k := 1) (by kernel_rfl) hC (hl)
        · exact depB_clo (i := 5) (k := 1) (by kernel_rfl) hC (depB_clo (i := 6) (k := 5) (by kernel_rfl) hC (hl))
        · exact depB_clo (i := 5) (k := 1) (by kernel_rfl) hC (depB_clo (i := 6) (k := 5) (by kernel_rfl) hC (depB_clo (i := 7) (k := 6) (by kernel_rfl) hC (hl)))
        · exact depB_clo (i := 5) (k := 1) (by kernel_rfl) hC (depB_clo (i := 6) (k := 5) (by kernel_rfl) hC (depB_clo (i := 7) (k := 6) (by kernel_rfl) hC (depB_clo (i := 10) (k := 7) (by kernel_rfl) hC (hl))))) (fun gm rb c j hj => by rcases j with _ | _ | _ | _ | _ | _ | _ | _ | _ | _ | _ | _ | j <;> first | (left; rfl) | (right; rfl) | (simp at hj)) (fun gm a W h => by
        have e15 : a.eval (.tmp 15) = .agg #[.bool true, .slice (some ⟨xb, xoff, none⟩) 4 xc, .int .i64 lo, .int .i64 hi] := (h.val (k := 0) (d := 15) ⟨⟨⟨0, .data⟩, by simp, rfl, by kernel_rfl⟩, by kernel_rfl⟩).trans rfl
        refine Eq.trans (b := .ok (.enter 116 #[a.eval (.tmp 15)]) W) (by kernel_rfl) ?_
        rw [e15]) (fun gm W g => (specL7Copy _ xc xs lo hi W (HX.out.grew staysItv (grew_tr GO.out g))).mono (by rintro e w' ⟨rb, c, rfl, h1, h2⟩; exact ⟨rb, c, rfl, h1, h2⟩))
    · exact r_val (by simp) (by simp) (by simp) (by simp) (fun gm a W h => by have e3 : a.eval (.tmp 3) = .pointer (some ⟨w.heap.size + 1, 0, none⟩) := (h.slot 3 (by kernel_rfl)).trans rfl; simp only [execOp, e3]; first | (simp [go_sem]; done) | (simp [go_sem]; rfl) | kernel_rfl)
    · exact r_val (by simp) (by simp) (by simp) (by simp) (fun gm a W h => by have e17 : a.eval (.tmp 17) = .pointer (some ⟨w.heap.size + 1, 2, none⟩) := (h.val (k := 2) (d := 17) ⟨⟨⟨2, .data⟩, by simp, rfl, by kernel_rfl⟩, by kernel_rfl⟩).trans rfl; have kq0 := h.cell q0; have kq1 := h.cell q1; have kq2 := h.cell q2; have kq3 := h.cell q3; have kq6 := h.cell q6; simp only [execOp, e17]; first | (simp [go_sem, kq0, kq1, kq2, kq3, kq6]; done) | (simp [go_sem, kq0, kq1, kq2, kq3, kq6]; rfl) | kernel_rfl)
    · exact r_call (by simp) (by simp) (by simp) (by simp) (fun gm a W h => by
        skip
        refine Eq.trans (b := .ok (.enter 140 #[]) W) (by kernel_rfl) ?_
        rfl) (fun gm W _ => HPL.out W)
    · exact r_cut rfl (by simp) (by simp) (by simp) ⟨⟨1, .data⟩, by simp, rfl, by kernel_rfl⟩ (vals := fun gm => #[.agg #[.bool true, .slice (some ⟨gm 0, 0, none⟩) 4 (gm 1), .int .i64 lo, .int .i64 hi], .int .i64 ((aj : Int)), .agg #[.int .i64 0, .int .i64 3]]) (fun gm a W h => by
        have e16 : a.eval (.tmp 16) = .agg #[.bool true, .slice (some ⟨gm 0, 0, none⟩) 4 (gm 1), .int .i64 lo, .int .i64 hi] := (h.val (k := 1) (d := 16) ⟨⟨⟨1, .data⟩, by simp, rfl, by kernel_rfl⟩, by kernel_rfl⟩).trans rfl
        have e18 : a.eval (.tmp 18) = .int .i64 ((aj : Int)) := (h.val (k := 3) (d := 18) ⟨⟨⟨3, .data⟩, by simp, rfl, by kernel_rfl⟩, by kernel_rfl⟩).trans rfl
        have e19 : a.eval (.tmp 19) = .agg #[.int .i64 0, .int .i64 3] := (h.val (k := 4) (d := 19) ⟨⟨⟨4, .data⟩, by simp, rfl, by kernel_rfl⟩, by kernel_rfl⟩).trans rfl
        refine Eq.trans (b := .ok (.enter 139 #[a.eval (.tmp 16), a.eval (.tmp 18), a.eval (.tmp 19)]) W) (by kernel_rfl) ?_
        rw [e16, e18, e19]) (fun gm W hw => (HCUT.out _ _ _ W hw).mono (by rintro e w' ⟨rfl, h1, h2⟩; exact ⟨rfl, h1, h2⟩))
    · exact r_val (by simp) (by simp) (by simp) (by simp) (fun gm a W h => by have e20 : a.eval (.tmp 20) = .tuple #[.agg #[.bool true, .slice (some ⟨gm 0, 0, none⟩) 4 (gm 1), .int .i64 lo, .int .i64 hi], .bool true] := (h.val (k := 5) (d := 20) ⟨⟨⟨5, .data⟩, by simp, rfl, by kernel_rfl⟩, by kernel_rfl⟩).trans rfl; simp only [execOp, e20]; first | (simp [go_sem]; done) | (simp [go_sem]; rfl) | kernel_rfl)
    · exact r_val (by simp) (by simp) (by simp) (by simp) (fun gm a W h => by have e14 : a.eval (.tmp 14) = .tuple #[.agg #[.bool true, .slice (some ⟨gm 0, 0, none⟩) 4 (gm 1), .int .i64 lo, .int .i64 hi], .bool true] := (h.val (k := 6) (d := 14) ⟨⟨⟨6, .data⟩, by simp, rfl, by kernel_rfl⟩, by kernel_rfl⟩).trans rfl; simp only [execOp, e14]; first | (simp [go_sem]; done) | (simp [go_sem]; rfl) | kernel_rfl)
    · exact r_val (by simp) (by simp) (by simp) (by simp) (fun gm a W h => by have e14 : a.eval (.tmp 14) = .tuple #[.agg #[.bool true, .slice (some ⟨gm 0, 0, none⟩) 4 (gm 1), .int .i64 lo, .int .i64 hi], .bool true] := (h.val (k := 6) (d := 14) ⟨⟨⟨6, .data⟩, by simp, rfl, by kernel_rfl⟩, by kernel_rfl⟩).trans rfl; simp only [execOp, e14]; first | (simp [go_sem]; done) | (simp [go_sem]; rfl) | kernel_rfl)
    · exact r_alloc rfl (by simp) (by simp) (by simp) (fun L hC hl => depB_clo (i := 10) (k := 9) (by kernel_rfl) hC hl) (fun gm g j hj => by rcases j with _ | _ | _ | _ | _ | _ | _ | _ | _ | _ | _ | _ | j <;> first | rfl | (simp at hj)) (fun gm => rfl) (fun gm a W h => by kernel_rfl)
    · refine r_store rfl (by simp) (by simp) (by simp) ⟨⟨9, .data⟩, by simp, rfl, by kernel_rfl⟩ (fun gm => rfl) (fun gm a W h hb => ?_)
      have e6 : a.eval (.tmp 6) = .pointer (some ⟨gm 2, 0, none⟩) := (h.val (k := 9) (d := 6) ⟨⟨⟨9, .data⟩, by simp, rfl, by kernel_rfl⟩, by kernel_rfl⟩).trans rfl
      have e21 : a.eval (.tmp 21) = .agg #[.bool true, .slice (some ⟨gm 0, 0, none⟩) 4 (gm 1), .int .i64 lo, .int .i64 hi] := (h.val (k := 7) (d := 21) ⟨⟨⟨7, .data⟩, by simp, rfl, by kernel_rfl⟩, by kernel_rfl⟩).trans rfl
      simp only at hb
      have hf := fun j => hb.frozen j
      have c0 := hb.cell 0
      have c1 := hb.cell 1
      have c2 := hb.cell 2
      have c3 := hb.cell 3
      refine ⟨_, by (simp only [execOp, e6, e21]; simp [go_sem, hf, c0, c1, c2, c3]; try rfl), ((((hb).set_ 0 _).set_ 1 _).set_ 2 _).set_ 3 _, Chg.alw (F := fun t => t = gm 2) (Chg.alw (F := fun t => t = gm 2) (Chg.alw (F := fun t => t = gm 2) (Chg.alw (F := fun t => t = gm 2) (Chg.refl _ W) rfl _) rfl _) rfl _) rfl _⟩
    · exact r_val (by simp) (by simp) (by simp) (by simp) (fun gm a W h => by have e22 : a.eval (.tmp 22) = .bool true := (h.val (k := 8) (d := 22) ⟨⟨⟨8, .data⟩, by simp, rfl, by kernel_rfl⟩, by kernel_rfl⟩).trans rfl; simp only [execOp, e22]; first | (simp [go_sem]; done) | (simp [go_sem]; rfl) | kernel_rfl)
    intro gm vs w9 hG9 hor9 hge9 hb9 hne9 hv9
    have x0 : vs 0 = .agg #[.bool true, .slice (some ⟨xb, xoff, none⟩) 4 xc, .int .i64 lo, .int .i64 hi] := (hv9 0 15 (by kernel_rfl)).trans rfl
    have x1 : vs 1 = .agg #[.bool true, .slice (some ⟨gm 0, 0, none⟩) 4 (gm 1), .int .i64 lo, .int .i64 hi] := (hv9 1 16 (by kernel_rfl)).trans rfl
    have x2 : vs 2 = .pointer (some ⟨w.heap.size + 1, 2, none⟩) := (hv9 2 17 (by kernel_rfl)).trans rfl
    have x3 : vs 3 = .int .i64 ((aj : Int)) := (hv9 3 18 (by kernel_rfl)).trans rfl
    have x4 : vs 4 = .agg #[.int .i64 0, .int .i64 3] := (hv9 4 19 (by kernel_rfl)).trans rfl
    have x5 : vs 5 = .tuple #[.agg #[.bool true, .slice (some ⟨gm 0, 0, none⟩) 4 (gm 1), .int .i64 lo, .int .i64 hi], .bool true] := (hv9 5 20 (by kernel_rfl)).trans rfl
    have x6 : vs 6 = .tuple #[.agg #[.bool true, .slice (some ⟨gm 0, 0, none⟩) 4 (gm 1), .int .i64 lo, .int .i64 hi], .bool true] := (hv9 6 14 (by kernel_rfl)).trans rfl
    have x7 : vs 7 = .agg #[.bool true, .slice (some ⟨gm 0, 0, none⟩) 4 (gm 1), .int .i64 lo, .int .i64 hi] := (hv9 7 21 (by kernel_rfl)).trans rfl
    have x8 : vs 8 = .bool true := (hv9 8 22 (by kernel_rfl)).trans rfl
    have x9 : vs 9 = .pointer (some ⟨gm 2, 0, none⟩) := (hv9 9 6 (by kernel_rfl)).trans rfl
    have x11 : vs 11 = .bool true := (hv9 11 7 (by kernel_rfl)).trans rfl
    simp only at hor9 hb9
    simp only [putAll, Act.put, List.setIfInBounds_toArray, List.set_cons_zero, List.set_cons_succ, Nat.zero_add, Nat.reduceAdd, x0, x1, x2, x3, x4, x5, x6, x7, x8, x9, x11]
    clear hv9 x0 x1 x2 x3 x4 x5 x6 x7 x8 x9 x11
    obtain ⟨rb, hrbe⟩ : ∃ r, gm 0 = r := ⟨_, rfl⟩
    obtain ⟨cc, hcce⟩ : ∃ r, gm 1 = r := ⟨_, rfl⟩
    obtain ⟨g6, hg6⟩ : ∃ r, gm 2 = r := ⟨_, rfl⟩
    rw [hrbe] at hor9 hne9
    rw [hcce] at hor9
    rw [hg6] at hge9 hb9 hne9
    simp only [hrbe, hcce, hg6] at hb9 ⊢
    have HOY := Lib.hid hor9
    have hrlt := hor9.lt
    have hrge := hor9.2.1
    have HG2 := Lib.hid (grew_tr GO.out hG9)
    have HZ2 := Lib.hid (HZ4.out.grew hG9)
    have HB2 := Lib.hid (HB5.out.grew hG9)
    have HK6 := Lib.hid hb9
    have hsz9 := hG9.size
    have hl9 := hb9.lt
    have n4 : w.heap.size + 1 + 1 ≠ rb := by omega
    have n2r : g6 ≠ rb := fun e => hne9 e.symm
    have n24 : w.heap.size + 1 + 1 ≠ g6 := by omega
    have n42 : g6 ≠ w.heap.size + 1 + 1 := by omega
    have q0 := (hG9.cell (p := ⟨w.heap.size, 0, none⟩) (World.block_lt_of_cell? _ _ q0)).trans q0
    have q1 := (hG9.cell (p := ⟨w.heap.size, 1, none⟩) (World.block_lt_of_cell? _ _ q1)).trans q1
    have q2 := (hG9.cell (p := ⟨w.heap.size, 2, none⟩) (World.block_lt_of_cell? _ _ q2)).trans q2
    have q3 := (hG9.cell (p := ⟨w.heap.size, 3, none⟩) (World.block_lt_of_cell? _ _ q3)).trans q3
    have q4 := (hG9.cell (p := ⟨w.heap.size + 1, 0, none⟩) (World.block_lt_of_cell? _ _ q4)).trans q4
    have q5 := (hG9.cell (p := ⟨w.heap.size + 1, 1, none⟩) (World.block_lt_of_cell? _ _ q5)).trans q5
    have q6 := (hG9.cell (p := ⟨w.heap.size + 1, 2, none⟩) (World.block_lt_of_cell? _ _ q6)).trans q6
    have q7 := (hG9.cell (p := ⟨w.heap.size + 1, 3, none⟩) (World.block_lt_of_cell? _ _ q7)).trans q7
    have q8 := (hG9.cell (p := ⟨w.heap.size + 1, 4, none⟩) (World.block_lt_of_cell? _ _ q8)).trans q8
    have q9 := (hG9.cell (p := ⟨w.heap.size + 1, 5, none⟩) (World.block_lt_of_cell? _ _ q9)).trans q9
    have q10 := (hG9.cell (p := ⟨w.heap.size + 1, 6, none⟩) (World.block_lt_of_cell? _ _ q10)).trans q10
    have q11 := (hG9.cell (p := ⟨w.heap.size + 1, 7, none⟩) (World.block_lt_of_cell? _ _ q11)).trans q11
    have k0 := hb9.cell 0
    have k1 := hb9.cell 1
    have k2 := hb9.cell 2
    have k3 := hb9.cell 3
    have kf := fun j => hb9.frozen j
    have ql := World.block_lt_of_cell? _ _ q4
    simp only at ql
    simp only [List.getElem?_toArray, List.getElem?_cons_zero, List.getElem?_cons_succ] at k0 k1 k2 k3
    clear hrbe hcce hg6 hor9 hne9 hb9 hG9 gm vs
    have B0 := HB2.out.cell 0
    have B1 := HB2.out.cell 1
    have Bl := HB2.out.lt
    simp only [List.getElem?_toArray, List.getElem?_cons_zero, List.getElem?_cons_succ] at B0 B1
    go_wp2_with fail
    refine (HJ.out _).mono ?_
    rintro e w5 ⟨rfl, g5⟩
    have hBK := HK6.out.grew g5
    have ZZ := HZ2.out.grew g5
    have HO5 := Lib.hid (HOY.out.grew g5)
    have HG5 := Lib.hid (show Grew w w5 from grew_tr HG2.out g5)
    have k0 := hBK.cell 0
    have k1 := hBK.cell 1
    have k2 := hBK.cell 2
    have k3 := hBK.cell 3
    have kl := hBK.lt
    clear kf
    have kf := fun j => hBK.frozen j
    simp only [List.getElem?_toArray, List.getElem?_cons_zero, List.getElem?_cons_succ] at k0 k1 k2 k3
    have z0 := ZZ.cell 0
    have z1 := ZZ.cell 1
    have z2 := ZZ.cell 2
    have z3 := ZZ.cell 3
    have zl := ZZ.lt
    have zf := fun j => ZZ.frozen j
    simp only [List.getElem?_toArray, List.getElem?_cons_zero, List.getElem?_cons_succ] at z0 z1 z2 z3
    clear ZZ hBK g5
    go_wp2
    refine bodyPost_ret (by simp [results, Tryz.results117, go_sem, z0, z1, z2, z3, zl, n24, n42, k0, k1, kl]; try rfl) rfl ?_
    refine ⟨?_, rb, cc, rfl, fun z hz => ?_⟩
    · repeat (first | with_reducible exact HG5.out | with_reducible refine grew_set ?_ (by first | omega | (simp only; omega)) _)
    · cases hz
      refine (OwnR.chg (F := fun b => b = w.heap.size + 1 + 1 ∨ b = g6) HO5.out ?_ (fun e => e.elim (fun e => n4 e.symm) (fun e => n2r e.symm))).mono (by omega)
      repeat (first | with_reducible exact Chg.refl _ _ | with_reducible refine Chg.alw (F := fun b => b = w.heap.size + 1 + 1 ∨ b = g6) ?_ (Or.inl rfl) _ | with_reducible refine Chg.alw (F := fun b => b = w.heap.size + 1 + 1 ∨ b = g6) ?_ (Or.inr rfl) _)
end Go.Proofs.YtpmfpgbpndobpaaGreat
