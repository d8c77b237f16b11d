/- States by value in memory of their own: the reference's l7Call. No condition. -/
import Derived.Test.YtpmfpgbpndobpaaGreatSpD
import Derived.Test.YtpmfpgbpndobpaaGreatRegO
namespace Go.Proofs.YtpmfpgbpndobpaaGreat
open Go.RowKit
set_option linter.unusedVariables false
set_option linter.unusedSimpArgs false
attribute [local go_sem] ext_cell ext_frozen ext_lt ext_le ext_le1 lt_s2 lt_s3 lt_s4 lt_s5 lt_s6 ext_lt1 ext_lt2 ext_lt3

set_option maxRecDepth 100000 in
set_option maxHeartbeats 8000000 in
theorem specL7Call (pa : Option Addr) (pn pc : Nat) (ps : List Prc) (sa : Option Addr) (sn sc : Nat) (ss : List Sum) (xa : Option Addr) (xc : Nat) (xs : List Itv) (lo hi : Int) (d a b rel ilo ihi to : Int) (w : World) (hr : RdP w pa pn ps) (hpn : pn ≤ 9223372036854775807) (hp : prgOkB ps = true) (hto : 0 ≤ to ∧ to < pn) (hss : RdL ESum 3 w sa sn ss) (hsn : sn = pn) (hx : RdL EItv 2 w xa 4 xs) (hs : stOkB true xs lo hi = true) (hd : varB d = true) (ha : varB a = true) :
    Calls Tryz.prog 120 #[.agg #[.slice pa pn pc], .slice sa sn sc, .agg #[.bool true, .slice xa 4 xc, .int .i64 lo, .int .i64 hi], Ins.v ⟨10, d, a, b, rel, ilo, ihi, to⟩] w (RetO (actI ps ss ⟨10, d, a, b, rel, ilo, ihi, to⟩ xs ⟨lo, hi⟩) w) := by
  have HD := Lib.hid hd
  obtain ⟨k, p, rfl, hk, hpk, he⟩ := prcI_get hto.1 (by rw [hr.len]; exact hto.2)
  have hpo := prgOk_prc hp (List.mem_of_getElem? hpk)
  have hk' : k < pn := by omega
  have hks : k < sn := by omega
  obtain ⟨pb, off, plo, phi, is, ia, ic, rfl, hpx, c0, c1, c2, hbb, hi1, hi2, hi3⟩ := rdP_at hr hk'
  rw [hpx] at hpk
  cases hpk
  obtain ⟨qb, qoff, on, ol, oh, rfl, hsx, e0, e1, e2, hqb⟩ := rdSum_at hss hks
  have HSI : Hid (sumI ss (k : Int) = ⟨on, ol, oh⟩) := Lib.hid (by simp [sumI, List.getD_eq_getElem?_getD, hsx])
  obtain ⟨aj, rfl, hja, hxa⟩ := nthI_get hx.len ha
  obtain ⟨dj, rfl, hjd, hxd⟩ := nthI_get hx.len hd
  have HCUT := Lib.hid (fun B rb c W (h : OwnR W B rb c xs) => specL7Cut B rb c xs lo hi (aj : Int) ⟨plo, phi⟩ W h ha (nthI_ok hs ha) hpo)
  have HGV := Lib.hid (fun W (g : Grew w W) => (specL7Given (some ⟨pb, off, none⟩) pn pc ps ⟨10, (dj : Int), (aj : Int), b, rel, ilo, ihi, (k : Int)⟩ W (hr.grew g) hpn hto.1 hto.2))
  simp only [he] at HGV
  have HV0 : Hid (actI ps ss ⟨10, (dj : Int), (aj : Int), b, rel, ilo, ihi, (k : Int)⟩ xs ⟨lo, hi⟩ = (narI xs aj ⟨plo, phi⟩).bind fun zs => if on = true then some (setI zs dj ⟨ol, oh⟩, (⟨lo, hi⟩ : Itv)) else none) := Lib.hid (by simp [actI, he, HSI.out])
  rw [HV0.out]
  obtain ⟨n, hn⟩ : ∃ n, narI xs aj ⟨plo, phi⟩ = n := ⟨_, rfl⟩
  rw [hn] at HCUT ⊢
  have HX := Lib.hid hx
  have HE := Lib.hid (fun W (g : Grew w W) => (⟨(g.cell (p := ⟨qb, qoff + k * 3, none⟩) hqb).trans e0, (g.cell (p := ⟨qb, qoff + k * 3 + 1, none⟩) hqb).trans e1, (g.cell (p := ⟨qb, qoff + k * 3 + 2, none⟩) hqb).trans e2⟩ : W.cell? ⟨qb, qoff + k * 3, none⟩ = some (.bool on) ∧ W.cell? ⟨qb, qoff + k * 3 + 1, none⟩ = some (.int .i64 ol) ∧ W.cell? ⟨qb, qoff + k * 3 + 2, none⟩ = some (.int .i64 oh)))
  clear HV0 hn hxa hxd hx hs hd ha hr hp hpo hpx c0 c1 c2 hi1 hi2 hi3 hss hsx e0 e1 e2 he hk HSI hbb
  have hkn : ¬ (sn : Int) ≤ (k : Int) := by omega
  have hkn1 : (k : Int) < (sn : Int) := by omega
  clear hsn hto
  cases n with
  | none =>
    go_enter Tryz.func120, Tryz.ntmps120
    go_upto_region 1 with fail
    refine wp_letH ?_
    intro E hE
    have GO := Lib.hid (show Grew w E from by rw [hE]; exact gr)
    have q0 : E.cell? ⟨w.heap.size, 0, none⟩ = some (.slice (some ⟨pb, off, none⟩) pn pc) := by rw [hE]; simp [go_sem]
    have q1 : E.cell? ⟨w.heap.size + 1, 0, none⟩ = some (.bool true) := by rw [hE]; simp [go_sem]
    have q2 : E.cell? ⟨w.heap.size + 1, 1, none⟩ = some (.slice xa 4 xc) := by rw [hE]; simp [go_sem]
    have q3 : E.cell? ⟨w.heap.size + 1, 2, none⟩ = some (.int .i64 lo) := by rw [hE]; simp [go_sem]
    have q4 : E.cell? ⟨w.heap.size + 1, 3, none⟩ = some (.int .i64 hi) := by rw [hE]; simp [go_sem]
    have q5 : E.cell? ⟨w.heap.size + 1 + 1, 0, none⟩ = some (.int .i64 (10 : Int)) := by rw [hE]; simp [go_sem]
    have q6 : E.cell? ⟨w.heap.size + 1 + 1, 1, none⟩ = some (.int .i64 (dj : Int)) := by rw [hE]; simp [go_sem]
    have q7 : E.cell? ⟨w.heap.size + 1 + 1, 2, none⟩ = some (.int .i64 (aj : Int)) := by rw [hE]; simp [go_sem]
    have q8 : E.cell? ⟨w.heap.size + 1 + 1, 3, none⟩ = some (.int .i64 b) := by rw [hE]; simp [go_sem]
    have q9 : E.cell? ⟨w.heap.size + 1 + 1, 4, none⟩ = some (.int .i64 rel) := by rw [hE]; simp [go_sem]
    have q10 : E.cell? ⟨w.heap.size + 1 + 1, 5, none⟩ = some (.int .i64 ilo) := by rw [hE]; simp [go_sem]
    have q11 : E.cell? ⟨w.heap.size + 1 + 1, 6, none⟩ = some (.int .i64 ihi) := by rw [hE]; simp [go_sem]
    have q12 : E.cell? ⟨w.heap.size + 1 + 1, 7, none⟩ = some (.int .i64 (k : Int)) := by rw [hE]; simp [go_sem]
    have HZ4 := Lib.hid (show Blk E (w.heap.size + 1 + 1 + 1) 33 #[.bool false, .slice none 0 0, .int .i64 0, .int .i64 0] from by rw [hE]; exact Blk.new' (by simp only [World.size_alloc]))
    have hszE : E.heap.size = w.heap.size + 1 + 1 + 1 + 1 := by rw [hE]; simp only [World.size_alloc]
    clear hE
    refine region_row 44 ⟨1, 7, 11, 12, 33, #[.bool false, .slice none 0 0, .int .i64 0, .int .i64 0], (fun rb cc => #[.bool false, .slice none 0 0, .int .i64 0, .int .i64 0]), xs, xs⟩ (fun gm i => ([.agg #[.bool true, .slice xa 4 xc, .int .i64 lo, .int .i64 hi], .agg #[.bool true, .slice (some ⟨gm 0, 0, none⟩) 4 (gm 1), .int .i64 lo, .int .i64 hi], .pointer (some ⟨w.heap.size + 1 + 1, 2, none⟩), .int .i64 ((aj : Int)), .agg #[.slice (some ⟨pb, off, none⟩) pn pc], .agg #[.int .i64 (10 : Int), .int .i64 (dj : Int), .int .i64 (aj : Int), .int .i64 b, .int .i64 rel, .int .i64 ilo, .int .i64 ihi, .int .i64 (k : Int)], .agg #[.int .i64 plo, .int .i64 phi], .tuple #[.agg #[.bool false, .slice none 0 0, .int .i64 0, .int .i64 0], .bool false], .tuple #[.agg #[.bool false, .slice none 0 0, .int .i64 0, .int .i64 0], .bool false], .agg #[.bool false, .slice none 0 0, .int .i64 0, .int .i64 0], .bool false, .pointer (some ⟨gm 2, 0, none⟩), undef, .bool false] : List Value).getD i undef) (by kernel_rfl) rfl (by kernel_rfl) (by refine ⟨?_, ?_, ?_, ?_⟩ <;> exact Nat.le_of_ble_eq_true (by kernel_rfl)) ⟨?_, ?_, ?_, ?_, ?_, ?_, ?_, ?_, ?_, ?_, ?_, ?_, ?_, ?_, trivial⟩ ?_
    · exact r_val (by simp) (by simp) (by simp) (by simp) (fun gm a W h => by have e6 : a.eval (.tmp 6) = .pointer (some ⟨w.heap.size + 1, 0, none⟩) := (h.slot 6 (by kernel_rfl)).trans rfl; have kq0 := h.cell q0; have kq1 := h.cell q1; have kq2 := h.cell q2; have kq3 := h.cell q3; have kq4 := h.cell q4; have kq5 := h.cell q5; have kq6 := h.cell q6; have kq7 := h.cell q7; have kq8 := h.cell q8; have kq9 := h.cell q9; have kq10 := h.cell q10; have kq11 := h.cell q11; have kq12 := h.cell q12; simp only [execOp, e6]; first | (simp [go_sem, kq0, kq1, kq2, kq3, kq4, kq5, kq6, kq7, kq8, kq9, kq10, kq11, kq12]; done) | (simp [go_sem, kq0, kq1, kq2, kq3, kq4, kq5, kq6, kq7, kq8, kq9, kq10, kq11, kq12]; rfl) | kernel_rfl)
    · exact r_copy rfl (by simp) (by simp) (by simp) [1, 7, 8, 9, 12] (by simp) (by simp) (fun L hC j hj hl => by
        simp only [List.mem_cons, List.not_mem_nil, or_false] at hj
        rcases hj with rfl | rfl | rfl | rfl | rfl
        · exact hl
        · exact depB_clo (i := 7) (k := 1) (by kernel_rfl) hC (hl)
        · exact depB_clo (i := 7) (k := 1) (by kernel_rfl) hC (depB_clo (i := 8) (k := 7) (by kernel_rfl) hC (hl))
        · exact depB_clo (i := 7) (k := 1) (by kernel_rfl) hC (depB_clo (i := 8) (k := 7) (by kernel_rfl) hC (depB_clo (i := 9) (k := 8) (by kernel_rfl) hC (hl)))
        · exact depB_clo (i := 7) (k := 1) (by kernel_rfl) hC (depB_clo (i := 8) (k := 7) (by kernel_rfl) hC (depB_clo (i := 9) (k := 8) (by kernel_rfl) hC (depB_clo (i := 12) (k := 9) (by kernel_rfl) hC (hl))))) (fun gm rb c j hj => by rcases j with _ | _ | _ | _ | _ | _ | _ | _ | _ | _ | _ | _ | _ | _ | j <;> first | (left; rfl) | (right; rfl) | (simp at hj)) (fun gm a W h => by
        have e12 : a.eval (.tmp 12) = .agg #[.bool true, .slice xa 4 xc, .int .i64 lo, .int .i64 hi] := (h.val (k := 0) (d := 12) ⟨⟨⟨0, .data⟩, by simp, rfl, by kernel_rfl⟩, by kernel_rfl⟩).trans rfl
        refine Eq.trans (b := .ok (.enter 116 #[a.eval (.tmp 12)]) W) (by kernel_rfl) ?_
        rw [e12]) (fun gm W g => (specL7Copy _ xc xs lo hi W (HX.out.grew staysItv (grew_tr GO.out g))).mono (by rintro e w' ⟨rb, c, rfl, h1, h2⟩; exact ⟨rb, c, rfl, h1, h2⟩))
    · exact r_val (by simp) (by simp) (by simp) (by simp) (fun gm a W h => by have e7 : a.eval (.tmp 7) = .pointer (some ⟨w.heap.size + 1 + 1, 0, none⟩) := (h.slot 7 (by kernel_rfl)).trans rfl; simp only [execOp, e7]; first | (simp [go_sem]; done) | (simp [go_sem]; rfl) | kernel_rfl)
    · exact r_val (by simp) (by simp) (by simp) (by simp) (fun gm a W h => by have e14 : a.eval (.tmp 14) = .pointer (some ⟨w.heap.size + 1 + 1, 2, none⟩) := (h.val (k := 2) (d := 14) ⟨⟨⟨2, .data⟩, by simp, rfl, by kernel_rfl⟩, by kernel_rfl⟩).trans rfl; have kq0 := h.cell q0; have kq1 := h.cell q1; have kq2 := h.cell q2; have kq3 := h.cell q3; have kq4 := h.cell q4; have kq5 := h.cell q5; have kq6 := h.cell q6; have kq7 := h.cell q7; have kq8 := h.cell q8; have kq9 := h.cell q9; have kq10 := h.cell q10; have kq11 := h.cell q11; have kq12 := h.cell q12; simp only [execOp, e14]; first | (simp [go_sem, kq0, kq1, kq2, kq3, kq4, kq5, kq6, kq7, kq8, kq9, kq10, kq11, kq12]; done) | (simp [go_sem, kq0, kq1, kq2, kq3, kq4, kq5, kq6, kq7, kq8, kq9, kq10, kq11, kq12]; rfl) | kernel_rfl)
    · exact r_val (by simp) (by simp) (by simp) (by simp) (fun gm a W h => by have e4 : a.eval (.tmp 4) = .pointer (some ⟨w.heap.size, 0, none⟩) := (h.slot 4 (by kernel_rfl)).trans rfl; have kq0 := h.cell q0; have kq1 := h.cell q1; have kq2 := h.cell q2; have kq3 := h.cell q3; have kq4 := h.cell q4; have kq5 := h.cell q5; have kq6 := h.cell q6; have kq7 := h.cell q7; have kq8 := h.cell q8; have kq9 := h.cell q9; have kq10 := h.cell q10; have kq11 := h.cell q11; have kq12 := h.cell q12; simp only [execOp, e4]; first | (simp [go_sem, kq0, kq1, kq2, kq3, kq4, kq5, kq6, kq7, kq8, kq9, kq10, kq11, kq12]; done) | (simp [go_sem, kq0, kq1, kq2, kq3, kq4, kq5, kq6, kq7, kq8, kq9, kq10, kq11, kq12]; rfl) | kernel_rfl)
    · exact r_val (by simp) (by simp) (by simp) (by simp) (fun gm a W h => by have e7 : a.eval (.tmp 7) = .pointer (some ⟨w.heap.size + 1 + 1, 0, none⟩) := (h.slot 7 (by kernel_rfl)).trans rfl; have kq0 := h.cell q0; have kq1 := h.cell q1; have kq2 := h.cell q2; have kq3 := h.cell q3; have kq4 := h.cell q4; have kq5 := h.cell q5; have kq6 := h.cell q6; have kq7 := h.cell q7; have kq8 := h.cell q8; have kq9 := h.cell q9; have kq10 := h.cell q10; have kq11 := h.cell q11; have kq12 := h.cell q12; simp only [execOp, e7]; first | (simp [go_sem, kq0, kq1, kq2, kq3, kq4, kq5, kq6, kq7, kq8, kq9, kq10, kq11, kq12]; done) | (simp [go_sem, kq0, kq1, kq2, kq3, kq4, kq5, kq6, kq7, kq8, kq9, kq10, kq11, kq12]; rfl) | kernel_rfl)
    · exact r_call (by simp) (by simp) (by simp) (by simp) (fun gm a W h => by
        have e16 : a.eval (.tmp 16) = .agg #[.slice (some ⟨pb, off, none⟩) pn pc] := (h.val (k := 4) (d := 16) ⟨⟨⟨4, .data⟩, by simp, rfl, by kernel_rfl⟩, by kernel_rfl⟩).trans rfl
        have e17 : a.eval (.tmp 17) = .agg #[.int .i64 (10 : Int), .int .i64 (dj : Int), .int .i64 (aj : Int), .int .i64 b, .int .i64 rel, .int .i64 ilo, .int .i64 ihi, .int .i64 (k : Int)] := (h.val (k := 5) (d := 17) ⟨⟨⟨5, .data⟩, by simp, rfl, by kernel_rfl⟩, by kernel_rfl⟩).trans rfl
        refine Eq.trans (b := .ok (.enter 145 #[a.eval (.tmp 16), a.eval (.tmp 17)]) W) (by kernel_rfl) ?_
        rw [e16, e17]) (fun gm W g => HGV.out W (grew_tr GO.out g))
    · exact r_cut rfl (by simp) (by simp) (by simp) ⟨⟨1, .data⟩, by simp, rfl, by kernel_rfl⟩ (vals := fun gm => #[.agg #[.bool true, .slice (some ⟨gm 0, 0, none⟩) 4 (gm 1), .int .i64 lo, .int .i64 hi], .int .i64 ((aj : Int)), .agg #[.int .i64 plo, .int .i64 phi]]) (fun gm a W h => by
        have e13 : a.eval (.tmp 13) = .agg #[.bool true, .slice (some ⟨gm 0, 0, none⟩) 4 (gm 1), .int .i64 lo, .int .i64 hi] := (h.val (k := 1) (d := 13) ⟨⟨⟨1, .data⟩, by simp, rfl, by kernel_rfl⟩, by kernel_rfl⟩).trans rfl
        have e15 : a.eval (.tmp 15) = .int .i64 ((aj : Int)) := (h.val (k := 3) (d := 15) ⟨⟨⟨3, .data⟩, by simp, rfl, by kernel_rfl⟩, by kernel_rfl⟩).trans rfl
        have e18 : a.eval (.tmp 18) = .agg #[.int .i64 plo, .int .i64 phi] := (h.val (k := 6) (d := 18) ⟨⟨⟨6, .data⟩, by simp, rfl, by kernel_rfl⟩, by kernel_rfl⟩).trans rfl
        refine Eq.trans (b := .ok (.enter 139 #[a.eval (.tmp 13), a.eval (.tmp 15), a.eval (.tmp 18)]) W) (by kernel_rfl) ?_
        rw [e13, e15, e18]) (fun gm W hw => (HCUT.out _ _ _ W hw).mono (by rintro e w' ⟨rfl, h1, h2⟩; exact ⟨rfl, h1, h2⟩))
    · exact r_val (by simp) (by simp) (by simp) (by simp) (fun gm a W h => by have e19 : a.eval (.tmp 19) = .tuple #[.agg #[.bool false, .slice none 0 0, .int .i64 0, .int .i64 0], .bool false] := (h.val (k := 7) (d := 19) ⟨⟨⟨7, .data⟩, by simp, rfl, by kernel_rfl⟩, by kernel_rfl⟩).trans rfl; simp only [execOp, e19]; first | (simp [go_sem]; done) | (simp [go_sem]; rfl) | kernel_rfl)
    · exact r_val (by simp) (by simp) (by simp) (by simp) (fun gm a W h => by have e11 : a.eval (.tmp 11) = .tuple #[.agg #[.bool false, .slice none 0 0, .int .i64 0, .int .i64 0], .bool false] := (h.val (k := 8) (d := 11) ⟨⟨⟨8, .data⟩, by simp, rfl, by kernel_rfl⟩, by kernel_rfl⟩).trans rfl; simp only [execOp, e11]; first | (simp [go_sem]; done) | (simp [go_sem]; rfl) | kernel_rfl)
    · exact r_val (by simp) (by simp) (by simp) (by simp) (fun gm a W h => by have e11 : a.eval (.tmp 11) = .tuple #[.agg #[.bool false, .slice none 0 0, .int .i64 0, .int .i64 0], .bool false] := (h.val (k := 8) (d := 11) ⟨⟨⟨8, .data⟩, by simp, rfl, by kernel_rfl⟩, by kernel_rfl⟩).trans rfl; simp only [execOp, e11]; first | (simp [go_sem]; done) | (simp [go_sem]; rfl) | kernel_rfl)
    · exact r_alloc rfl (by simp) (by simp) (by simp) (fun L hC hl => depB_clo (i := 12) (k := 11) (by kernel_rfl) hC hl) (fun gm g j hj => by rcases j with _ | _ | _ | _ | _ | _ | _ | _ | _ | _ | _ | _ | _ | _ | j <;> first | rfl | (simp at hj)) (fun gm => rfl) (fun gm a W h => by kernel_rfl)
    · refine r_store rfl (by simp) (by simp) (by simp) ⟨⟨11, .data⟩, by simp, rfl, by kernel_rfl⟩ (fun gm => rfl) (fun gm a W h hb => ?_)
      have e9 : a.eval (.tmp 9) = .pointer (some ⟨gm 2, 0, none⟩) := (h.val (k := 11) (d := 9) ⟨⟨⟨11, .data⟩, by simp, rfl, by kernel_rfl⟩, by kernel_rfl⟩).trans rfl
      have e20 : a.eval (.tmp 20) = .agg #[.bool false, .slice none 0 0, .int .i64 0, .int .i64 0] := (h.val (k := 9) (d := 20) ⟨⟨⟨9, .data⟩, by simp, rfl, by kernel_rfl⟩, by kernel_rfl⟩).trans rfl
      simp only at hb
      have hf := fun j => hb.frozen j
      have c0 := hb.cell 0
      have c1 := hb.cell 1
      have c2 := hb.cell 2
      have c3 := hb.cell 3
      refine ⟨_, by (simp only [execOp, e9, e20]; simp [go_sem, hf, c0, c1, c2, c3]; try rfl), ((((hb).set_ 0 _).set_ 1 _).set_ 2 _).set_ 3 _, Chg.alw (F := fun t => t = gm 2) (Chg.alw (F := fun t => t = gm 2) (Chg.alw (F := fun t => t = gm 2) (Chg.alw (F := fun t => t = gm 2) (Chg.refl _ W) rfl _) rfl _) rfl _) rfl _⟩
    · exact r_val (by simp) (by simp) (by simp) (by simp) (fun gm a W h => by have e21 : a.eval (.tmp 21) = .bool false := (h.val (k := 10) (d := 21) ⟨⟨⟨10, .data⟩, by simp, rfl, by kernel_rfl⟩, by kernel_rfl⟩).trans rfl; simp only [execOp, e21]; first | (simp [go_sem]; done) | (simp [go_sem]; rfl) | kernel_rfl)
    intro gm vs w9 hG9 hor9 hge9 hb9 hne9 hv9
    have x0 : vs 0 = .agg #[.bool true, .slice xa 4 xc, .int .i64 lo, .int .i64 hi] := (hv9 0 12 (by kernel_rfl)).trans rfl
    have x1 : vs 1 = .agg #[.bool true, .slice (some ⟨gm 0, 0, none⟩) 4 (gm 1), .int .i64 lo, .int .i64 hi] := (hv9 1 13 (by kernel_rfl)).trans rfl
    have x2 : vs 2 = .pointer (some ⟨w.heap.size + 1 + 1, 2, none⟩) := (hv9 2 14 (by kernel_rfl)).trans rfl
    have x3 : vs 3 = .int .i64 ((aj : Int)) := (hv9 3 15 (by kernel_rfl)).trans rfl
    have x4 : vs 4 = .agg #[.slice (some ⟨pb, off, none⟩) pn pc] := (hv9 4 16 (by kernel_rfl)).trans rfl
    have x5 : vs 5 = .agg #[.int .i64 (10 : Int), .int .i64 (dj : Int), .int .i64 (aj : Int), .int .i64 b, .int .i64 rel, .int .i64 ilo, .int .i64 ihi, .int .i64 (k : Int)] := (hv9 5 17 (by kernel_rfl)).trans rfl
    have x6 : vs 6 = .agg #[.int .i64 plo, .int .i64 phi] := (hv9 6 18 (by kernel_rfl)).trans rfl
    have x7 : vs 7 = .tuple #[.agg #[.bool false, .slice none 0 0, .int .i64 0, .int .i64 0], .bool false] := (hv9 7 19 (by kernel_rfl)).trans rfl
    have x8 : vs 8 = .tuple #[.agg #[.bool false, .slice none 0 0, .int .i64 0, .int .i64 0], .bool false] := (hv9 8 11 (by kernel_rfl)).trans rfl
    have x9 : vs 9 = .agg #[.bool false, .slice none 0 0, .int .i64 0, .int .i64 0] := (hv9 9 20 (by kernel_rfl)).trans rfl
    have x10 : vs 10 = .bool false := (hv9 10 21 (by kernel_rfl)).trans rfl
    have x11 : vs 11 = .pointer (some ⟨gm 2, 0, none⟩) := (hv9 11 9 (by kernel_rfl)).trans rfl
    have x13 : vs 13 = .bool false := (hv9 13 10 (by kernel_rfl)).trans rfl
    simp only at hor9 hb9
    simp only [putAll, Act.put, List.setIfInBounds_toArray, List.set_cons_zero, List.set_cons_succ, Nat.zero_add, Nat.reduceAdd, x0, x1, x2, x3, x4, x5, x6, x7, x8, x9, x10, x11, x13]
    clear hv9 x0 x1 x2 x3 x4 x5 x6 x7 x8 x9 x10 x11 x13
    obtain ⟨rb, hrbe⟩ : ∃ r, gm 0 = r := ⟨_, rfl⟩
    obtain ⟨cc, hcce⟩ : ∃ r, gm 1 = r := ⟨_, rfl⟩
    obtain ⟨g6, hg6⟩ : ∃ r, gm 2 = r := ⟨_, rfl⟩
    rw [hrbe] at hor9 hne9
    rw [hcce] at hor9
    rw [hg6] at hge9 hb9 hne9
    simp only [hrbe, hcce, hg6] at hb9 ⊢
    have HOY := Lib.hid hor9
    have hrlt := hor9.lt
    have hrge := hor9.2.1
    have HG2 := Lib.hid (grew_tr GO.out hG9)
    have HZ2 := Lib.hid (HZ4.out.grew hG9)
    have HK6 := Lib.hid hb9
    have hsz9 := hG9.size
    have hl9 := hb9.lt
    have n4 : w.heap.size + 1 + 1 + 1 ≠ rb := by omega
    have n3 : w.heap.size + 1 + 1 ≠ rb := by omega
    have n2r : g6 ≠ rb := fun e => hne9 e.symm
    have n24 : w.heap.size + 1 + 1 + 1 ≠ g6 := by omega
    have n42 : g6 ≠ w.heap.size + 1 + 1 + 1 := by omega
    have nq : qb ≠ rb := by omega
    have nq4 : w.heap.size + 1 + 1 + 1 ≠ qb := by omega
    have n43 : w.heap.size + 1 + 1 + 1 ≠ w.heap.size + 1 + 1 := by omega
    have q0 := (hG9.cell (p := ⟨w.heap.size, 0, none⟩) (World.block_lt_of_cell? _ _ q0)).trans q0
    have q1 := (hG9.cell (p := ⟨w.heap.size + 1, 0, none⟩) (World.block_lt_of_cell? _ _ q1)).trans q1
    have q2 := (hG9.cell (p := ⟨w.heap.size + 1, 1, none⟩) (World.block_lt_of_cell? _ _ q2)).trans q2
    have q3 := (hG9.cell (p := ⟨w.heap.size + 1, 2, none⟩) (World.block_lt_of_cell? _ _ q3)).trans q3
    have q4 := (hG9.cell (p := ⟨w.heap.size + 1, 3, none⟩) (World.block_lt_of_cell? _ _ q4)).trans q4
    have q5 := (hG9.cell (p := ⟨w.heap.size + 1 + 1, 0, none⟩) (World.block_lt_of_cell? _ _ q5)).trans q5
    have q6 := (hG9.cell (p := ⟨w.heap.size + 1 + 1, 1, none⟩) (World.block_lt_of_cell? _ _ q6)).trans q6
    have q7 := (hG9.cell (p := ⟨w.heap.size + 1 + 1, 2, none⟩) (World.block_lt_of_cell? _ _ q7)).trans q7
    have q8 := (hG9.cell (p := ⟨w.heap.size + 1 + 1, 3, none⟩) (World.block_lt_of_cell? _ _ q8)).trans q8
    have q9 := (hG9.cell (p := ⟨w.heap.size + 1 + 1, 4, none⟩) (World.block_lt_of_cell? _ _ q9)).trans q9
    have q10 := (hG9.cell (p := ⟨w.heap.size + 1 + 1, 5, none⟩) (World.block_lt_of_cell? _ _ q10)).trans q10
    have q11 := (hG9.cell (p := ⟨w.heap.size + 1 + 1, 6, none⟩) (World.block_lt_of_cell? _ _ q11)).trans q11
    have q12 := (hG9.cell (p := ⟨w.heap.size + 1 + 1, 7, none⟩) (World.block_lt_of_cell? _ _ q12)).trans q12
    have k0 := hb9.cell 0
    have k1 := hb9.cell 1
    have k2 := hb9.cell 2
    have k3 := hb9.cell 3
    have kf := fun j => hb9.frozen j
    have ql := World.block_lt_of_cell? _ _ q5
    simp only at ql
    simp only [List.getElem?_toArray, List.getElem?_cons_zero, List.getElem?_cons_succ] at k0 k1 k2 k3
    obtain ⟨e0, e1, e2⟩ := HE.out _ HG2.out
    clear hrbe hcce hg6 hor9 hne9 hb9 hG9 gm vs
    have ZZ := HZ2.out
    have z0 := ZZ.cell 0
    have z1 := ZZ.cell 1
    have z2 := ZZ.cell 2
    have z3 := ZZ.cell 3
    have zl := ZZ.lt
    have zf := fun j => ZZ.frozen j
    simp only [List.getElem?_toArray, List.getElem?_cons_zero, List.getElem?_cons_succ] at z0 z1 z2 z3
    clear ZZ
    go_wp2
    refine bodyPost_ret (by simp [results, Tryz.results120, go_sem, z0, z1, z2, z3, zl]; try rfl) rfl ?_
    refine ⟨?_, 0, 0, rfl, fun z hz => by cases hz⟩
    repeat (first | with_reducible exact HG2.out | with_reducible refine grew_set ?_ (by first | omega | (simp only; omega)) _)
  | some zs =>
    go_enter Tryz.func120, Tryz.ntmps120
    go_upto_region 1 with fail
    refine wp_letH ?_
    intro E hE
    have GO := Lib.hid (show Grew w E from by rw [hE]; exact gr)
    have q0 : E.cell? ⟨w.heap.size, 0, none⟩ = some (.slice (some ⟨pb, off, none⟩) pn pc) := by rw [hE]; simp [go_sem]
    have q1 : E.cell? ⟨w.heap.size + 1, 0, none⟩ = some (.bool true) := by rw [hE]; simp [go_sem]
    have q2 : E.cell? ⟨w.heap.size + 1, 1, none⟩ = some (.slice xa 4 xc) := by rw [hE]; simp [go_sem]
    have q3 : E.cell? ⟨w.heap.size + 1, 2, none⟩ = some (.int .i64 lo) := by rw [hE]; simp [go_sem]
    have q4 : E.cell? ⟨w.heap.size + 1, 3, none⟩ = some (.int .i64 hi) := by rw [hE]; simp [go_sem]
    have q5 : E.cell? ⟨w.heap.size + 1 + 1, 0, none⟩ = some (.int .i64 (10 : Int)) := by rw [hE]; simp [go_sem]
    have q6 : E.cell? ⟨w.heap.size + 1 + 1, 1, none⟩ = some (.int .i64 (dj : Int)) := by rw [hE]; simp [go_sem]
    have q7 : E.cell? ⟨w.heap.size + 1 + 1, 2, none⟩ = some (.int .i64 (aj : Int)) := by rw [hE]; simp [go_sem]
    have q8 : E.cell? ⟨w.heap.size + 1 + 1, 3, none⟩ = some (.int .i64 b) := by rw [hE]; simp [go_sem]
    have q9 : E.cell? ⟨w.heap.size + 1 + 1, 4, none⟩ = some (.int .i64 rel) := by rw [hE]; simp [go_sem]
    have q10 : E.cell? ⟨w.heap.size + 1 + 1, 5, none⟩ = some (.int .i64 ilo) := by rw [hE]; simp [go_sem]
    have q11 : E.cell? ⟨w.heap.size + 1 + 1, 6, none⟩ = some (.int .i64 ihi) := by rw [hE]; simp [go_sem]
    have q12 : E.cell? ⟨w.heap.size + 1 + 1, 7, none⟩ = some (.int .i64 (k : Int)) := by rw [hE]; simp [go_sem]
    have HZ4 := Lib.hid (show Blk E (w.heap.size + 1 + 1 + 1) 33 #[.bool false, .slice none 0 0, .int .i64 0, .int .i64 0] from by rw [hE]; exact Blk.new' (by simp only [World.size_alloc]))
    have hszE : E.heap.size = w.heap.size + 1 + 1 + 1 + 1 := by rw [hE]; simp only [World.size_alloc]
    clear hE
    refine region_row 44 ⟨1, 7, 11, 12, 33, #[.bool false, .slice none 0 0, .int .i64 0, .int .i64 0], (fun rb cc => #[.bool true, .slice (some ⟨rb, 0, none⟩) 4 cc, .int .i64 lo, .int .i64 hi]), xs, zs⟩ (fun gm i => ([.agg #[.bool true, .slice xa 4 xc, .int .i64 lo, .int .i64 hi], .agg #[.bool true, .slice (some ⟨gm 0, 0, none⟩) 4 (gm 1), .int .i64 lo, .int .i64 hi], .pointer (some ⟨w.heap.size + 1 + 1, 2, none⟩), .int .i64 ((aj : Int)), .agg #[.slice (some ⟨pb, off, none⟩) pn pc], .agg #[.int .i64 (10 : Int), .int .i64 (dj : Int), .int .i64 (aj : Int), .int .i64 b, .int .i64 rel, .int .i64 ilo, .int .i64 ihi, .int .i64 (k : Int)], .agg #[.int .i64 plo, .int .i64 phi], .tuple #[.agg #[.bool true, .slice (some ⟨gm 0, 0, none⟩) 4 (gm 1), .int .i64 lo, .int .i64 hi], .bool true], .tuple #[.agg #[.bool true, .slice (some ⟨gm 0, 0, none⟩) 4 (gm 1), .int .i64 lo, .int .i64 hi], .bool true], .agg #[.bool true, .slice (some ⟨gm 0, 0, none⟩) 4 (gm 1), .int .i64 lo, .int .i64 hi], .bool true, .pointer (some ⟨gm 2, 0, none⟩), undef, .bool true] : List Value).getD i undef) (by kernel_rfl) rfl (by kernel_rfl) (by refine ⟨?_, ?_, ?_, ?_⟩ <;> exact Nat.le_of_ble_eq_true (by kernel_rfl)) ⟨?_, ?_, ?_, ?_, ?_, ?_, ?_, ?_, ?_, ?_, ?_, ?_, ?_, ?_, trivial⟩ ?_
    · exact r_val (by simp) (by simp) (by simp) (by simp) (fun gm a W h => by have e6 : a.eval (.tmp 6) = .pointer (some ⟨w.heap.size + 1, 0, none⟩) := (h.slot 6 (by kernel_rfl)).trans rfl; have kq0 := h.cell q0; have kq1 := h.cell q1; have kq2 := h.cell q2; have kq3 := h.cell q3; have kq4 := h.cell q4; have kq5 := h.cell q5; have kq6 := h.cell q6; have kq7 := h.cell q7; have kq8 := h.cell q8; have kq9 := h.cell q9; have kq10 := h.cell q10; have kq11 := h.cell q11; have kq12 := h.cell q12; simp only [execOp, e6]; first | (simp [go_sem, kq0, kq1, kq2, kq3, kq4, kq5, kq6, kq7, kq8, kq9, kq10, kq11, kq12]; done) | (simp [go_sem, kq0, kq1, kq2, kq3, kq4, kq5, kq6, kq7, kq8, kq9, kq10, kq11, kq12]; rfl) | kernel_rfl)
    · exact r_copy rfl (by simp) (by simp) (by simp) [1, 7, 8, 9, 12] (by simp) (by simp) (fun L hC j hj hl => by
        simp only [List.mem_cons, List.not_mem_nil, or_false] at hj
        rcases hj with rfl | rfl | rfl | rfl | rfl
        · exact hl
        · exact depB_clo (i := 7) (k := 1) (by kernel_rfl) hC (hl)
        · exact depB_clo (i := 7) (k := 1) (by kernel_rfl) hC (depB_clo (i := 8) (k := 7) (by kernel_rfl) hC (hl))
        · exact depB_clo (i := 7) (k := 1) (by kernel_rfl) hC (depB_clo (i := 8) (k := 7) (by kernel_rfl) hC (depB_clo (i := 9) (k := 8) (by kernel_rfl) hC (hl)))
        · exact depB_clo (i := 7) (k := 1) (by kernel_rfl) hC (depB_clo (i := 8) (k := 7) (by kernel_rfl) hC (depB_clo (i := 9) (k := 8) (by kernel_rfl) hC (depB_clo (i := 12) (k := 9) (by kernel_rfl) hC (hl))))) (fun gm rb c j hj => by rcases j with _ | _ | _ | _ | _ | _ | _ | _ | _ | _ | _ | _ | _ | _ | j <;> first | (left; rfl) | (right; rfl) | (simp at hj)) (fun gm a W h => by
        have e12 : a.eval (.tmp 12) = .agg #[.bool true, .slice xa 4 xc, .int .i64 lo, .int .i64 hi] := (h.val (k := 0) (d := 12) ⟨⟨⟨0, .data⟩, by simp, rfl, by kernel_rfl⟩, by kernel_rfl⟩).trans rfl
        refine Eq.trans (b := .ok (.enter 116 #[a.eval (.tmp 12)]) W) (by kernel_rfl) ?_
        rw [e12]) (fun gm W g => (specL7Copy _ xc xs lo hi W (HX.out.grew staysItv (grew_tr GO.out g))).mono (by rintro e w' ⟨rb, c, rfl, h1, h2⟩; exact ⟨rb, c, rfl, h1, h2⟩))
    · exact r_val (by simp) (by simp) (by simp) (by simp) (fun gm a W h => by have e7 : a.eval (.tmp 7) = .pointer (some ⟨w.heap.size + 1 + 1, 0, none⟩) := (h.slot 7 (by kernel_rfl)).trans rfl; simp only [execOp, e7]; first | (simp [go_sem]; done) | (simp [go_sem]; rfl) | kernel_rfl)
    · exact r_val (by simp) (by simp) (by simp) (by simp) (fun gm a W h => by have e14 : a.eval (.tmp 14) = .pointer (some ⟨w.heap.size + 1 + 1, 2, none⟩) := (h.val (k := 2) (d := 14) ⟨⟨⟨2, .data⟩, by simp, rfl, by kernel_rfl⟩, by kernel_rfl⟩).trans rfl; have kq0 := h.cell q0; have kq1 := h.cell q1; have kq2 := h.cell q2; have kq3 := h.cell q3; have kq4 := h.cell q4; have kq5 := h.cell q5; have kq6 := h.cell q6; have kq7 := h.cell q7; have kq8 := h.cell q8; have kq9 := h.cell q9; have kq10 := h.cell q10; have kq11 := h.cell q11; have kq12 := h.cell q12; simp only [execOp, e14]; first | (simp [go_sem, kq0, kq1, kq2, kq3, kq4, kq5, kq6, kq7, kq8, kq9, kq10, kq11, kq12]; done) | (simp [go_sem, kq0, kq1, kq2, kq3, kq4, kq5, kq6, kq7, kq8, kq9, kq10, kq11, kq12]; rfl) | kernel_rfl)
    · exact r_val (by simp) (by simp) (by simp) (by simp) (fun gm a W h => by have e4 : a.eval (.tmp 4) = .pointer (some ⟨w.heap.size, 0, none⟩) := (h.slot 4 (by kernel_rfl)).trans rfl; have kq0 := h.cell q0; have kq1 := h.cell q1; have kq2 := h.cell q2; have kq3 := h.cell q3; have kq4 := h.cell q4; have kq5 := h.cell q5; have kq6 := h.cell q6; have kq7 := h.cell q7; have kq8 := h.cell q8; have kq9 := h.cell q9; have kq10 := h.cell q10; have kq11 := h.cell q11; have kq12 := h.cell q12; simp only [execOp, e4]; first | (simp [go_sem, kq0, kq1, kq2, kq3, kq4, kq5, kq6, kq7, kq8, kq9, kq10, kq11, kq12]; done) | (simp [go_sem, kq0, kq1, kq2, kq3, kq4, kq5, kq6, kq7, kq8, kq9, kq10, kq11, kq12]; rfl) | kernel_rfl)
    · exact r_val (by simp) (by simp) (by simp) (by simp) (fun gm a W h => by have e7 : a.eval (.tmp 7) = .pointer (some ⟨w.heap.size + 1 + 1, 0, none⟩) := (h.slot 7 (by kernel_rfl)).trans rfl; have kq0 := h.cell q0; have kq1 := h.cell q1; have kq2 := h.cell q2; have kq3 := h.cell q3; have kq4 := h.cell q4; have kq5 := h.cell q5; have kq6 := h.cell q6; have kq7 := h.cell q7; have kq8 := h.cell q8; have kq9 := h.cell q9; have kq10 := h.cell q10; have kq11 := h.cell q11; have kq12 := h.cell q12; simp only [execOp, e7]; first | (simp [go_sem, kq0, kq1, kq2, kq3, kq4, kq5, kq6, kq7, kq8, kq9, kq10, kq11, kq12]; done) | (simp [go_sem, kq0, kq1, kq2, kq3, kq4, kq5, kq6, kq7, kq8, kq9, kq10, kq11, kq12]; rfl) | kernel_rfl)
    · exact r_call (by simp) (by simp) (by simp) (by simp) (fun gm a W h => by
        have e16 : a.eval (.tmp 16) = .agg #[.slice (some ⟨pb, off, none⟩) pn pc] := (h.val (k := 4) (d := 16) ⟨⟨⟨4, .data⟩, by simp, rfl, by kernel_rfl⟩, by kernel_rfl⟩).trans rfl
        have e17 : a.eval (.tmp 17) = .agg #[.int .i64 (10 : Int), .int .i64 (dj : Int), .int .i64 (aj : Int), .int .i64 b, .int .i64 rel, .int .i64 ilo, .int .i64 ihi, .int .i64 (k : Int)] := (h.val (k := 5) (d := 17) ⟨⟨⟨5, .data⟩, by simp, rfl, by kernel_rfl⟩, by kernel_rfl⟩).trans rfl
        refine Eq.trans (b := .ok (.enter 145 #[a.eval (.tmp 16), a.eval (.tmp 17)]) W) (by kernel_rfl) ?_
        rw [e16, e17]) (fun gm W g => HGV.out W (grew_tr GO.out g))
    · exact r_cut rfl (by simp) (by simp) (by simp) ⟨⟨1, .data⟩, by simp, rfl, by kernel_rfl⟩ (vals := fun gm => #[.agg #[.bool true, .slice (some ⟨gm 0, 0, none⟩) 4 (gm 1), .int .i64 lo, .int .i64 hi], .int .i64 ((aj : Int)), .agg #[.int .i64 plo, .int .i64 phi]]) (fun gm a W h => by
        have e13 : a.eval (.tmp 13) = .agg #[.bool true, .slice (some ⟨gm 0, 0, none⟩) 4 (gm 1), .int .i64 lo, .int .i64 hi] := (h.val (k := 1) (d := 13) ⟨⟨⟨1, .data⟩, by simp, rfl, by kernel_rfl⟩, by kernel_rfl⟩).trans rfl
        have e15 : a.eval (.tmp 15) = .int .i64 ((aj : Int)) := (h.val (k := 3) (d := 15) ⟨⟨⟨3, .data⟩, by simp, rfl, by kernel_rfl⟩, by kernel_rfl⟩).trans rfl
        have e18 : a.eval (.tmp 18) = .agg #[.int .i64 plo, .int .i64 phi] := (h.val (k := 6) (d := 18) ⟨⟨⟨6, .data⟩, by simp, rfl, by kernel_rfl⟩, by kernel_rfl⟩).trans rfl
        refine Eq.trans (b := .ok (.enter 139 #[a.eval (.tmp 13), a.eval (.tmp 15), a.eval (.tmp 18)]) W) (by kernel_rfl) ?_
        rw [e13, e15, e18]) (fun gm W hw => (HCUT.out _ _ _ W hw).mono (by rintro e w' ⟨rfl, h1, h2⟩; exact ⟨rfl, h1, h2⟩))
    · exact r_val (by simp) (by simp) (by simp) (by simp) (fun gm a W h => by have e19 : a.eval (.tmp 19) = .tuple #[.agg #[.bool true, .slice (some ⟨gm 0, 0, none⟩) 4 (gm 1), .int .i64 lo, .int .i64 hi], .bool true] := (h.val (k := 7) (d := 19) ⟨⟨⟨7, .data⟩, by simp, rfl, by kernel_rfl⟩, by kernel_rfl⟩).trans rfl; simp only [execOp, e19]; first | (simp [go_sem]; done) | (simp [go_sem]; rfl) | kernel_rfl)
    · exact r_val (by simp) (by simp) (by simp) (by simp) (fun gm a W h => by have e11 : a.eval (.tmp 11) = .tuple #[.agg #[.bool true, .slice (some ⟨gm 0, 0, none⟩) 4 (gm 1), .int .i64 lo, .int .i64 hi], .bool true] := (h.val (k := 8) (d := 11) ⟨⟨⟨8, .data⟩, by simp, rfl, by kernel_rfl⟩, by kernel_rfl⟩).trans rfl; simp only [execOp, e11]; first | (simp [go_sem]; done) | (simp [go_sem]; rfl) | kernel_rfl)
    · exact r_val (by simp) (by simp) (by simp) (by simp) (fun gm a W h => by have e11 : a.eval (.tmp 11) = .tuple #[.agg #[.bool true, .slice (some ⟨gm 0, 0, none⟩) 4 (gm 1), .int .i64 lo, .int .i64 hi], .bool true] := (h.val (k := 8) (d := 11) ⟨⟨⟨8, .data⟩, by simp, rfl, by kernel_rfl⟩, by kernel_rfl⟩).trans rfl; simp only [execOp, e11]; first | (simp [go_sem]; done) | (simp [go_sem]; rfl) | kernel_rfl)
    · exact r_alloc rfl (by simp) (by simp) (by simp) (fun L hC hl => depB_clo (i := 12) (k := 11) (by kernel_rfl) hC hl) (fun gm g j hj => by rcases j with _ | _ | _ | _ | _ | _ | _ | _ | _ | _ | _ | _ | _ | _ | j <;> first | rfl | (simp at hj)) (fun gm => rfl) (fun gm a W h => by kernel_rfl)
    · refine r_store rfl (by simp) (by simp) (by simp) ⟨⟨11, .data⟩, by simp, rfl, by kernel_rfl⟩ (fun gm => rfl) (fun gm a W h hb => ?_)
      have e9 : a.eval (.tmp 9) = .pointer (some ⟨gm 2, 0, none⟩) := (h.val (k := 11) (d := 9) ⟨⟨⟨11, .data⟩, by simp, rfl, by kernel_rfl⟩, by kernel_rfl⟩).trans rfl
      have e20 : a.eval (.tmp 20) = .agg #[.bool true, .slice (some ⟨gm 0, 0, none⟩) 4 (gm 1), .int .i64 lo, .int .i64 hi] := (h.val (k := 9) (d := 20) ⟨⟨⟨9, .data⟩, by simp, rfl, by kernel_rfl⟩, by kernel_rfl⟩).trans rfl
      simp only at hb
      have hf := fun j => hb.frozen j
      have c0 := hb.cell 0
      have c1 := hb.cell 1
      have c2 := hb.cell 2
      have c3 := hb.cell 3
      refine ⟨_, by (simp only [execOp, e9, e20]; simp [go_sem, hf, c0, c1, c2, c3]; try rfl), ((((hb).set_ 0 _).set_ 1 _).set_ 2 _).set_ 3 _, Chg.alw (F := fun t => t = gm 2) (Chg.alw (F := fun t => t = gm 2) (Chg.alw (F := fun t => t = gm 2) (Chg.alw (F := fun t => t = gm 2) (Chg.refl _ W) rfl _) rfl _) rfl _) rfl _⟩
    · exact r_val (by simp) (by simp) (by simp) (by simp) (fun gm a W h => by have e21 : a.eval (.tmp 21) = .bool true := (h.val (k := 10) (d := 21) ⟨⟨⟨10, .data⟩, by simp, rfl, by kernel_rfl⟩, by kernel_rfl⟩).trans rfl; simp only [execOp, e21]; first | (simp [go_sem]; done) | (simp [go_sem]; rfl) | kernel_rfl)
    intro gm vs w9 hG9 hor9 hge9 hb9 hne9 hv9
    have x0 : vs 0 = .agg #[.bool true, .slice xa 4 xc, .int .i64 lo, .int .i64 hi] := (hv9 0 12 (by kernel_rfl)).trans rfl
    have x1 : vs 1 = .agg #[.bool true, .slice (some ⟨gm 0, 0, none⟩) 4 (gm 1), .int .i64 lo, .int .i64 hi] := (hv9 1 13 (by kernel_rfl)).trans rfl
    have x2 : vs 2 = .pointer (some ⟨w.heap.size + 1 + 1, 2, none⟩) := (hv9 2 14 (by kernel_rfl)).trans rfl
    have x3 : vs 3 = .int .i64 ((aj : Int)) := (hv9 3 15 (by kernel_rfl)).trans rfl
    have x4 : vs 4 = .agg #[.slice (some ⟨pb, off, none⟩) pn pc] := (hv9 4 16 (by kernel_rfl)).trans rfl
    have x5 : vs 5 = .agg #[.int .i64 (10 : Int), .int .i64 (dj : Int), .int .i64 (aj : Int), .int .i64 b, .int .i64 rel, .int .i64 ilo, .int .i64 ihi, .int .i64 (k : Int)] := (hv9 5 17 (by kernel_rfl)).trans rfl
    have x6 : vs 6 = .agg #[.int .i64 plo, .int .i64 phi] := (hv9 6 18 (by kernel_rfl)).trans rfl
    have x7 : vs 7 = .tuple #[.agg #[.bool true, .slice (some ⟨gm 0, 0, none⟩) 4 (gm 1), .int .i64 lo, .int .i64 hi], .bool true] := (hv9 7 19 (by kernel_rfl)).trans rfl
    have x8 : vs 8 = .tuple #[.agg #[.bool true, .slice (some ⟨gm 0, 0, none⟩) 4 (gm 1), .int .i64 lo, .int .i64 hi], .bool true] := (hv9 8 11 (by kernel_rfl)).trans rfl
    have x9 : vs 9 = .agg #[.bool true, .slice (some ⟨gm 0, 0, none⟩) 4 (gm 1), .int .i64 lo, .int .i64 hi] := (hv9 9 20 (by kernel_rfl)).trans rfl
    have x10 : vs 10 = .bool true := (hv9 10 21 (by kernel_rfl)).trans rfl
    have x11 : vs 11 = .pointer (some ⟨gm 2, 0, none⟩) := (hv9 11 9 (by kernel_rfl)).trans rfl
    have x13 : vs 13 = .bool true := (hv9 13 10 (by kernel_rfl)).trans rfl
    simp only at hor9 hb9
    simp only [putAll, Act.put, List.setIfInBounds_toArray, List.set_cons_zero, List.set_cons_succ, Nat.zero_add, Nat.reduceAdd, x0, x1, x2, x3, x4, x5, x6, x7, x8, x9, x10, x11, x13]
    clear hv9 x0 x1 x2 x3 x4 x5 x6 x7 x8 x9 x10 x11 x13
    obtain ⟨rb, hrbe⟩ : ∃ r, gm 0 = r := ⟨_, rfl⟩
    obtain ⟨cc, hcce⟩ : ∃ r, gm 1 = r := ⟨_, rfl⟩
    obtain ⟨g6, hg6⟩ : ∃ r, gm 2 = r := ⟨_, rfl⟩
    rw [hrbe] at hor9 hne9
    rw [hcce] at hor9
    rw [hg6] at hge9 hb9 hne9
    simp only [hrbe, hcce, hg6] at hb9 ⊢
    have HOY := Lib.hid hor9
    have hrlt := hor9.lt
    have hrge := hor9.2.1
    have HG2 := Lib.hid (grew_tr GO.out hG9)
    have HZ2 := Lib.hid (HZ4.out.grew hG9)
    have HK6 := Lib.hid hb9
    have hsz9 := hG9.size
    have hl9 := hb9.lt
    have n4 : w.heap.size + 1 + 1 + 1 ≠ rb := by omega
    have n3 : w.heap.size + 1 + 1 ≠ rb := by omega
    have n2r : g6 ≠ rb := fun e => hne9 e.symm
    have n24 : w.heap.size + 1 + 1 + 1 ≠ g6 := by omega
    have n42 : g6 ≠ w.heap.size + 1 + 1 + 1 := by omega
    have nq : qb ≠ rb := by omega
    have nq4 : w.heap.size + 1 + 1 + 1 ≠ qb := by omega
    have n43 : w.heap.size + 1 + 1 + 1 ≠ w.heap.size + 1 + 1 := by omega
    have q0 := (hG9.cell (p := ⟨w.heap.size, 0, none⟩) (World.block_lt_of_cell? _ _ q0)).trans q0
    have q1 := (hG9.cell (p := ⟨w.heap.size + 1, 0, none⟩) (World.block_lt_of_cell? _ _ q1)).trans q1
    have q2 := (hG9.cell (p := ⟨w.heap.size + 1, 1, none⟩) (World.block_lt_of_cell? _ _ q2)).trans q2
    have q3 := (hG9.cell (p := ⟨w.heap.size + 1, 2, none⟩) (World.block_lt_of_cell? _ _ q3)).trans q3
    have q4 := (hG9.cell (p := ⟨w.heap.size + 1, 3, none⟩) (World.block_lt_of_cell? _ _ q4)).trans q4
    have q5 := (hG9.cell (p := ⟨w.heap.size + 1 + 1, 0, none⟩) (World.block_lt_of_cell? _ _ q5)).trans q5
    have q6 := (hG9.cell (p := ⟨w.heap.size + 1 + 1, 1, none⟩) (World.block_lt_of_cell? _ _ q6)).trans q6
    have q7 := (hG9.cell (p := ⟨w.heap.size + 1 + 1, 2, none⟩) (World.block_lt_of_cell? _ _ q7)).trans q7
    have q8 := (hG9.cell (p := ⟨w.heap.size + 1 + 1, 3, none⟩) (World.block_lt_of_cell? _ _ q8)).trans q8
    have q9 := (hG9.cell (p := ⟨w.heap.size + 1 + 1, 4, none⟩) (World.block_lt_of_cell? _ _ q9)).trans q9
    have q10 := (hG9.cell (p := ⟨w.heap.size + 1 + 1, 5, none⟩) (World.block_lt_of_cell? _ _ q10)).trans q10
    have q11 := (hG9.cell (p := ⟨w.heap.size + 1 + 1, 6, none⟩) (World.block_lt_of_cell? _ _ q11)).trans q11
    have q12 := (hG9.cell (p := ⟨w.heap.size + 1 + 1, 7, none⟩) (World.block_lt_of_cell? _ _ q12)).trans q12
    have k0 := hb9.cell 0
    have k1 := hb9.cell 1
    have k2 := hb9.cell 2
    have k3 := hb9.cell 3
    have kf := fun j => hb9.frozen j
    have ql := World.block_lt_of_cell? _ _ q5
    simp only at ql
    simp only [List.getElem?_toArray, List.getElem?_cons_zero, List.getElem?_cons_succ] at k0 k1 k2 k3
    obtain ⟨e0, e1, e2⟩ := HE.out _ HG2.out
    clear hrbe hcce hg6 hor9 hne9 hb9 hG9 gm vs
    cases on
    · have ZZ := HZ2.out
      have z0 := ZZ.cell 0
      have z1 := ZZ.cell 1
      have z2 := ZZ.cell 2
      have z3 := ZZ.cell 3
      have zl := ZZ.lt
      have zf := fun j => ZZ.frozen j
      simp only [List.getElem?_toArray, List.getElem?_cons_zero, List.getElem?_cons_succ] at z0 z1 z2 z3
      clear ZZ
      go_wp2
      refine bodyPost_ret (by simp [results, Tryz.results120, go_sem, z0, z1, z2, z3, zl]; try rfl) rfl ?_
      refine ⟨?_, 0, 0, rfl, fun z hz => by cases hz⟩
      repeat (first | with_reducible exact HG2.out | with_reducible refine grew_set ?_ (by first | omega | (simp only; omega)) _)
    · have HSE := Lib.hid (fun B W (h : OwnR W B rb cc zs) => specL7Set B rb cc zs lo hi (dj : Int) ⟨ol, oh⟩ W h HD.out)
      go_upto_region 4 with fail
      have HSG := Lib.hid (fun W (g : Grew w9 W) => (⟨(g.cell (p := ⟨w.heap.size + 1 + 1, 0, none⟩) (World.block_lt_of_cell? _ _ q5)).trans q5, (g.cell (p := ⟨w.heap.size + 1 + 1, 1, none⟩) (World.block_lt_of_cell? _ _ q6)).trans q6, (g.cell (p := ⟨w.heap.size + 1 + 1, 2, none⟩) (World.block_lt_of_cell? _ _ q7)).trans q7, (g.cell (p := ⟨w.heap.size + 1 + 1, 3, none⟩) (World.block_lt_of_cell? _ _ q8)).trans q8, (g.cell (p := ⟨w.heap.size + 1 + 1, 4, none⟩) (World.block_lt_of_cell? _ _ q9)).trans q9, (g.cell (p := ⟨w.heap.size + 1 + 1, 5, none⟩) (World.block_lt_of_cell? _ _ q10)).trans q10, (g.cell (p := ⟨w.heap.size + 1 + 1, 6, none⟩) (World.block_lt_of_cell? _ _ q11)).trans q11, (g.cell (p := ⟨w.heap.size + 1 + 1, 7, none⟩) (World.block_lt_of_cell? _ _ q12)).trans q12, (g.cell (p := ⟨g6, 0, none⟩) (World.block_lt_of_cell? _ _ k0)).trans k0, (g.cell (p := ⟨g6, 1, none⟩) (World.block_lt_of_cell? _ _ k1)).trans k1, (g.cell (p := ⟨g6, 2, none⟩) (World.block_lt_of_cell? _ _ k2)).trans k2, (g.cell (p := ⟨g6, 3, none⟩) (World.block_lt_of_cell? _ _ k3)).trans k3, (g.cell (p := ⟨qb, qoff + k * 3, none⟩) (World.block_lt_of_cell? _ _ e0)).trans e0, (g.cell (p := ⟨qb, qoff + k * 3 + 1, none⟩) (World.block_lt_of_cell? _ _ e1)).trans e1, (g.cell (p := ⟨qb, qoff + k * 3 + 2, none⟩) (World.block_lt_of_cell? _ _ e2)).trans e2⟩ : W.cell? ⟨w.heap.size + 1 + 1, 0, none⟩ = some (.int .i64 (10 : Int)) ∧ W.cell? ⟨w.heap.size + 1 + 1, 1, none⟩ = some (.int .i64 (dj : Int)) ∧ W.cell? ⟨w.heap.size + 1 + 1, 2, none⟩ = some (.int .i64 (aj : Int)) ∧ W.cell? ⟨w.heap.size + 1 + 1, 3, none⟩ = some (.int .i64 b) ∧ W.cell? ⟨w.heap.size + 1 + 1, 4, none⟩ = some (.int .i64 rel) ∧ W.cell? ⟨w.heap.size + 1 + 1, 5, none⟩ = some (.int .i64 ilo) ∧ W.cell? ⟨w.heap.size + 1 + 1, 6, none⟩ = some (.int .i64 ihi) ∧ W.cell? ⟨w.heap.size + 1 + 1, 7, none⟩ = some (.int .i64 (k : Int)) ∧ W.cell? ⟨g6, 0, none⟩ = some (.bool true) ∧ W.cell? ⟨g6, 1, none⟩ = some (.slice (some ⟨rb, 0, none⟩) 4 cc) ∧ W.cell? ⟨g6, 2, none⟩ = some (.int .i64 lo) ∧ W.cell? ⟨g6, 3, none⟩ = some (.int .i64 hi) ∧ W.cell? ⟨qb, qoff + k * 3, none⟩ = some (.bool true) ∧ W.cell? ⟨qb, qoff + k * 3 + 1, none⟩ = some (.int .i64 ol) ∧ W.cell? ⟨qb, qoff + k * 3 + 2, none⟩ = some (.int .i64 oh)))
      clear q5 q6 q7 q8 q9 q10 q11 q12 k0 k1 k2 k3 e0 e1 e2
      refine wp_region_held_drew (S := (fun W => W.cell? ⟨w.heap.size + 1 + 1, 0, none⟩ = some (.int .i64 (10 : Int)) ∧ W.cell? ⟨w.heap.size + 1 + 1, 1, none⟩ = some (.int .i64 (dj : Int)) ∧ W.cell? ⟨w.heap.size + 1 + 1, 2, none⟩ = some (.int .i64 (aj : Int)) ∧ W.cell? ⟨w.heap.size + 1 + 1, 3, none⟩ = some (.int .i64 b) ∧ W.cell? ⟨w.heap.size + 1 + 1, 4, none⟩ = some (.int .i64 rel) ∧ W.cell? ⟨w.heap.size + 1 + 1, 5, none⟩ = some (.int .i64 ilo) ∧ W.cell? ⟨w.heap.size + 1 + 1, 6, none⟩ = some (.int .i64 ihi) ∧ W.cell? ⟨w.heap.size + 1 + 1, 7, none⟩ = some (.int .i64 (k : Int)) ∧ W.cell? ⟨g6, 0, none⟩ = some (.bool true) ∧ W.cell? ⟨g6, 1, none⟩ = some (.slice (some ⟨rb, 0, none⟩) 4 cc) ∧ W.cell? ⟨g6, 2, none⟩ = some (.int .i64 lo) ∧ W.cell? ⟨g6, 3, none⟩ = some (.int .i64 hi) ∧ W.cell? ⟨qb, qoff + k * 3, none⟩ = some (.bool true) ∧ W.cell? ⟨qb, qoff + k * 3 + 1, none⟩ = some (.int .i64 ol) ∧ W.cell? ⟨qb, qoff + k * 3 + 2, none⟩ = some (.int .i64 oh))) (by kernel_rfl) ?_ (fun hHeld => ?_)
      · (try dsimp only); (first | assumption | with_reducible exact hsF _ _ _ _ | with_reducible exact HSG.out _ (grew_d (Below.refl _ _)))
      refine wpAnyH_take (i := 0) (v := ?_) rfl (by kernel_rfl) (by kernel_rfl) (by kernel_rfl) (fun _ _ _ h => h) (Or.inl ⟨by rfl, ?_⟩) (by assumption) ?_
      rotate_left
      · (intro w hSw; (try dsimp only at hSw); go_simp; try with_reducible rfl)
      try simp only [List.getElem_toArray, List.getElem_cons_succ, List.getElem_cons_zero, Act.put, List.setIfInBounds_toArray, List.set_cons_zero, List.set_cons_succ]
      refine wpAnyH_take (i := 1) (v := ?_) rfl (by kernel_rfl) (by kernel_rfl) (by kernel_rfl) (fun _ _ _ h => h) (Or.inl ⟨by rfl, ?_⟩) (by assumption) ?_
      rotate_left
      · (intro w hSw; (try dsimp only at hSw); go_simp; try with_reducible rfl)
      try simp only [List.getElem_toArray, List.getElem_cons_succ, List.getElem_cons_zero, Act.put, List.setIfInBounds_toArray, List.set_cons_zero, List.set_cons_succ]
      refine wpAnyH_take (i := 2) (v := ?_) rfl (by kernel_rfl) (by kernel_rfl) (by kernel_rfl) (fun _ _ _ h => h) (Or.inl ⟨by rfl, ?_⟩) (by assumption) ?_
      rotate_left
      · (intro w hSw; (try dsimp only at hSw); go_simp; try with_reducible rfl)
      try simp only [List.getElem_toArray, List.getElem_cons_succ, List.getElem_cons_zero, Act.put, List.setIfInBounds_toArray, List.set_cons_zero, List.set_cons_succ]
      refine wpAnyH_take (i := 3) (v := ?_) rfl (by kernel_rfl) (by kernel_rfl) (by kernel_rfl) (fun _ _ _ h => h) (Or.inl ⟨by rfl, ?_⟩) (by assumption) ?_
      rotate_left
      · (intro w hSw; (try dsimp only at hSw); go_simp; try with_reducible rfl)
      try simp only [List.getElem_toArray, List.getElem_cons_succ, List.getElem_cons_zero, Act.put, List.setIfInBounds_toArray, List.set_cons_zero, List.set_cons_succ]
      refine wpAnyH_take (i := 4) (v := ?_) rfl (by kernel_rfl) (by kernel_rfl) (by kernel_rfl) (fun _ _ _ h => h) (Or.inl ⟨by rfl, ?_⟩) (by assumption) ?_
      rotate_left
      · (intro w hSw; (try dsimp only at hSw); go_simp; try with_reducible rfl)
      try simp only [List.getElem_toArray, List.getElem_cons_succ, List.getElem_cons_zero, Act.put, List.setIfInBounds_toArray, List.set_cons_zero, List.set_cons_succ]
      refine wpAnyH_take (i := 5) (v := ?_) rfl (by kernel_rfl) (by kernel_rfl) (by kernel_rfl) (fun _ _ _ h => h) (Or.inl ⟨by rfl, ?_⟩) (by assumption) ?_
      rotate_left
      · (intro w hSw; (try dsimp only at hSw); go_simp; try with_reducible rfl)
      try simp only [List.getElem_toArray, List.getElem_cons_succ, List.getElem_cons_zero, Act.put, List.setIfInBounds_toArray, List.set_cons_zero, List.set_cons_succ]
      refine wpAnyH_take (i := 6) (v := ?_) rfl (by kernel_rfl) (by kernel_rfl) (by kernel_rfl) (fun _ _ _ h => h) (Or.inl ⟨by rfl, ?_⟩) (by assumption) ?_
      rotate_left
      · (intro w hSw; (try dsimp only at hSw); go_simp; try with_reducible rfl)
      try simp only [List.getElem_toArray, List.getElem_cons_succ, List.getElem_cons_zero, Act.put, List.setIfInBounds_toArray, List.set_cons_zero, List.set_cons_succ]
      refine wpAnyH_take (i := 7) (v := ?_) rfl (by kernel_rfl) (by kernel_rfl) (by kernel_rfl) (fun _ _ _ h => h) (Or.inl ⟨by rfl, ?_⟩) (by assumption) ?_
      rotate_left
      · (intro w hSw; (try dsimp only at hSw); go_simp; try with_reducible rfl)
      try simp only [List.getElem_toArray, List.getElem_cons_succ, List.getElem_cons_zero, Act.put, List.setIfInBounds_toArray, List.set_cons_zero, List.set_cons_succ]
      refine wpAnyH_take (i := 8) (v := ?_) rfl (by kernel_rfl) (by kernel_rfl) (by kernel_rfl) (fun _ _ _ h => h) (Or.inl ⟨by rfl, ?_⟩) (by assumption) ?_
      rotate_left
      · (intro w hSw; (try dsimp only at hSw); go_simp; try with_reducible rfl)
      try simp only [List.getElem_toArray, List.getElem_cons_succ, List.getElem_cons_zero, Act.put, List.setIfInBounds_toArray, List.set_cons_zero, List.set_cons_succ]
      refine wpAnyH_ready (rs := [9]) (by kernel_rfl) (by simp) ?_
      refine AllReadyH.cons rfl (fun K hK => ?_) AllReadyH.nil
      try simp only [List.getElem_toArray, List.getElem_cons_succ, List.getElem_cons_zero]
      go_simp
      (refine (HSE.out _ _ (HOY.out.grew (grew_d (Below.refl _ _)))).mono ?_; rintro e w2 ⟨rfl, hoy, hc2⟩; have hs8 := HSG.out _ (grew_d (Below.refl _ _)); have hs9 : w2.cell? ⟨w.heap.size + 1 + 1, 0, none⟩ = some (.int .i64 (10 : Int)) ∧ w2.cell? ⟨w.heap.size + 1 + 1, 1, none⟩ = some (.int .i64 (dj : Int)) ∧ w2.cell? ⟨w.heap.size + 1 + 1, 2, none⟩ = some (.int .i64 (aj : Int)) ∧ w2.cell? ⟨w.heap.size + 1 + 1, 3, none⟩ = some (.int .i64 b) ∧ w2.cell? ⟨w.heap.size + 1 + 1, 4, none⟩ = some (.int .i64 rel) ∧ w2.cell? ⟨w.heap.size + 1 + 1, 5, none⟩ = some (.int .i64 ilo) ∧ w2.cell? ⟨w.heap.size + 1 + 1, 6, none⟩ = some (.int .i64 ihi) ∧ w2.cell? ⟨w.heap.size + 1 + 1, 7, none⟩ = some (.int .i64 (k : Int)) ∧ w2.cell? ⟨g6, 0, none⟩ = some (.bool true) ∧ w2.cell? ⟨g6, 1, none⟩ = some (.slice (some ⟨rb, 0, none⟩) 4 cc) ∧ w2.cell? ⟨g6, 2, none⟩ = some (.int .i64 lo) ∧ w2.cell? ⟨g6, 3, none⟩ = some (.int .i64 hi) ∧ w2.cell? ⟨qb, qoff + k * 3, none⟩ = some (.bool true) ∧ w2.cell? ⟨qb, qoff + k * 3 + 1, none⟩ = some (.int .i64 ol) ∧ w2.cell? ⟨qb, qoff + k * 3 + 2, none⟩ = some (.int .i64 oh) := ⟨chg_cell hc2 hs8.1 (by omega), chg_cell hc2 hs8.2.1 (by omega), chg_cell hc2 hs8.2.2.1 (by omega), chg_cell hc2 hs8.2.2.2.1 (by omega), chg_cell hc2 hs8.2.2.2.2.1 (by omega), chg_cell hc2 hs8.2.2.2.2.2.1 (by omega), chg_cell hc2 hs8.2.2.2.2.2.2.1 (by omega), chg_cell hc2 hs8.2.2.2.2.2.2.2.1 (by omega), chg_cell hc2 hs8.2.2.2.2.2.2.2.2.1 (by omega), chg_cell hc2 hs8.2.2.2.2.2.2.2.2.2.1 (by omega), chg_cell hc2 hs8.2.2.2.2.2.2.2.2.2.2.1 (by omega), chg_cell hc2 hs8.2.2.2.2.2.2.2.2.2.2.2.1 (by omega), chg_cell hc2 hs8.2.2.2.2.2.2.2.2.2.2.2.2.1 (by omega), chg_cell hc2 hs8.2.2.2.2.2.2.2.2.2.2.2.2.2.1 (by omega), chg_cell hc2 hs8.2.2.2.2.2.2.2.2.2.2.2.2.2.2 (by omega)⟩; have hsF := (fun (u0 u1 u2 u3 : Value) => (⟨(by rw [World.cell?_setCell_far _ _ _ _ (by simp only [ne_eq]; exact n43), World.cell?_setCell_far _ _ _ _ (by simp only [ne_eq]; exact n43), World.cell?_setCell_far _ _ _ _ (by simp only [ne_eq]; exact n43), World.cell?_setCell_far _ _ _ _ (by simp only [ne_eq]; exact n43)]; exact hs9.1), (by rw [World.cell?_setCell_far _ _ _ _ (by simp only [ne_eq]; exact n43), World.cell?_setCell_far _ _ _ _ (by simp only [ne_eq]; exact n43), World.cell?_setCell_far _ _ _ _ (by simp only [ne_eq]; exact n43), World.cell?_setCell_far _ _ _ _ (by simp only [ne_eq]; exact n43)]; exact hs9.2.1), (by rw [World.cell?_setCell_far _ _ _ _ (by simp only [ne_eq]; exact n43), World.cell?_setCell_far _ _ _ _ (by simp only [ne_eq]; exact n43), World.cell?_setCell_far _ _ _ _ (by simp only [ne_eq]; exact n43), World.cell?_setCell_far _ _ _ _ (by simp only [ne_eq]; exact n43)]; exact hs9.2.2.1), (by rw [World.cell?_setCell_far _ _ _ _ (by simp only [ne_eq]; exact n43), World.cell?_setCell_far _ _ _ _ (by simp only [ne_eq]; exact n43), World.cell?_setCell_far _ _ _ _ (by simp only [ne_eq]; exact n43), World.cell?_setCell_far _ _ _ _ (by simp only [ne_eq]; exact n43)]; exact hs9.2.2.2.1), (by rw [World.cell?_setCell_far _ _ _ _ (by simp only [ne_eq]; exact n43), World.cell?_setCell_far _ _ _ _ (by simp only [ne_eq]; exact n43), World.cell?_setCell_far _ _ _ _ (by simp only [ne_eq]; exact n43), World.cell?_setCell_far _ _ _ _ (by simp only [ne_eq]; exact n43)]; exact hs9.2.2.2.2.1), (by rw [World.cell?_setCell_far _ _ _ _ (by simp only [ne_eq]; exact n43), World.cell?_setCell_far _ _ _ _ (by simp only [ne_eq]; exact n43), World.cell?_setCell_far _ _ _ _ (by simp only [ne_eq]; exact n43), World.cell?_setCell_far _ _ _ _ (by simp only [ne_eq]; exact n43)]; exact hs9.2.2.2.2.2.1), (by rw [World.cell?_setCell_far _ _ _ _ (by simp only [ne_eq]; exact n43), World.cell?_setCell_far _ _ _ _ (by simp only [ne_eq]; exact n43), World.cell?_setCell_far _ _ _ _ (by simp only [ne_eq]; exact n43), World.cell?_setCell_far _ _ _ _ (by simp only [ne_eq]; exact n43)]; exact hs9.2.2.2.2.2.2.1), (by rw [World.cell?_setCell_far _ _ _ _ (by simp only [ne_eq]; exact n43), World.cell?_setCell_far _ _ _ _ (by simp only [ne_eq]; exact n43), World.cell?_setCell_far _ _ _ _ (by simp only [ne_eq]; exact n43), World.cell?_setCell_far _ _ _ _ (by simp only [ne_eq]; exact n43)]; exact hs9.2.2.2.2.2.2.2.1), (by rw [World.cell?_setCell_far _ _ _ _ (by simp only [ne_eq]; exact n24), World.cell?_setCell_far _ _ _ _ (by simp only [ne_eq]; exact n24), World.cell?_setCell_far _ _ _ _ (by simp only [ne_eq]; exact n24), World.cell?_setCell_far _ _ _ _ (by simp only [ne_eq]; exact n24)]; exact hs9.2.2.2.2.2.2.2.2.1), (by rw [World.cell?_setCell_far _ _ _ _ (by simp only [ne_eq]; exact n24), World.cell?_setCell_far _ _ _ _ (by simp only [ne_eq]; exact n24), World.cell?_setCell_far _ _ _ _ (by simp only [ne_eq]; exact n24), World.cell?_setCell_far _ _ _ _ (by simp only [ne_eq]; exact n24)]; exact hs9.2.2.2.2.2.2.2.2.2.1), (by rw [World.cell?_setCell_far _ _ _ _ (by simp only [ne_eq]; exact n24), World.cell?_setCell_far _ _ _ _ (by simp only [ne_eq]; exact n24), World.cell?_setCell_far _ _ _ _ (by simp only [ne_eq]; exact n24), World.cell?_setCell_far _ _ _ _ (by simp only [ne_eq]; exact n24)]; exact hs9.2.2.2.2.2.2.2.2.2.2.1), (by rw [World.cell?_setCell_far _ _ _ _ (by simp only [ne_eq]; exact n24), World.cell?_setCell_far _ _ _ _ (by simp only [ne_eq]; exact n24), World.cell?_setCell_far _ _ _ _ (by simp only [ne_eq]; exact n24), World.cell?_setCell_far _ _ _ _ (by simp only [ne_eq]; exact n24)]; exact hs9.2.2.2.2.2.2.2.2.2.2.2.1), (by rw [World.cell?_setCell_far _ _ _ _ (by simp only [ne_eq]; exact nq4), World.cell?_setCell_far _ _ _ _ (by simp only [ne_eq]; exact nq4), World.cell?_setCell_far _ _ _ _ (by simp only [ne_eq]; exact nq4), World.cell?_setCell_far _ _ _ _ (by simp only [ne_eq]; exact nq4)]; exact hs9.2.2.2.2.2.2.2.2.2.2.2.2.1), (by rw [World.cell?_setCell_far _ _ _ _ (by simp only [ne_eq]; exact nq4), World.cell?_setCell_far _ _ _ _ (by simp only [ne_eq]; exact nq4), World.cell?_setCell_far _ _ _ _ (by simp only [ne_eq]; exact nq4), World.cell?_setCell_far _ _ _ _ (by simp only [ne_eq]; exact nq4)]; exact hs9.2.2.2.2.2.2.2.2.2.2.2.2.2.1), (by rw [World.cell?_setCell_far _ _ _ _ (by simp only [ne_eq]; exact nq4), World.cell?_setCell_far _ _ _ _ (by simp only [ne_eq]; exact nq4), World.cell?_setCell_far _ _ _ _ (by simp only [ne_eq]; exact nq4), World.cell?_setCell_far _ _ _ _ (by simp only [ne_eq]; exact nq4)]; exact hs9.2.2.2.2.2.2.2.2.2.2.2.2.2.2)⟩ : ((((w2.setCell ⟨w.heap.size + 1 + 1 + 1, 0, none⟩ u0).setCell ⟨w.heap.size + 1 + 1 + 1, 1, none⟩ u1).setCell ⟨w.heap.size + 1 + 1 + 1, 2, none⟩ u2).setCell ⟨w.heap.size + 1 + 1 + 1, 3, none⟩ u3).cell? ⟨w.heap.size + 1 + 1, 0, none⟩ = some (.int .i64 (10 : Int)) ∧ ((((w2.setCell ⟨w.heap.size + 1 + 1 + 1, 0, none⟩ u0).setCell ⟨w.heap.size + 1 + 1 + 1, 1, none⟩ u1).setCell ⟨w.heap.size + 1 + 1 + 1, 2, none⟩ u2).setCell ⟨w.heap.size + 1 + 1 + 1, 3, none⟩ u3).cell? ⟨w.heap.size + 1 + 1, 1, none⟩ = some (.int .i64 (dj : Int)) ∧ ((((w2.setCell ⟨w.heap.size + 1 + 1 + 1, 0, none⟩ u0).setCell ⟨w.heap.size + 1 + 1 + 1, 1, none⟩ u1).setCell ⟨w.heap.size + 1 + 1 + 1, 2, none⟩ u2).setCell ⟨w.heap.size + 1 + 1 + 1, 3, none⟩ u3).cell? ⟨w.heap.size + 1 + 1, 2, none⟩ = some (.int .i64 (aj : Int)) ∧ ((((w2.setCell ⟨w.heap.size + 1 + 1 + 1, 0, none⟩ u0).setCell ⟨w.heap.size + 1 + 1 + 1, 1, none⟩ u1).setCell ⟨w.heap.size + 1 + 1 + 1, 2, none⟩ u2).setCell ⟨w.heap.size + 1 + 1 + 1, 3, none⟩ u3).cell? ⟨w.heap.size + 1 + 1, 3, none⟩ = some (.int .i64 b) ∧ ((((w2.setCell ⟨w.heap.size + 1 + 1 + 1, 0, none⟩ u0).setCell ⟨w.heap.size + 1 + 1 + 1, 1, none⟩ u1).setCell ⟨w.heap.size + 1 + 1 + 1, 2, none⟩ u2).setCell ⟨w.heap.size + 1 + 1 + 1, 3, none⟩ u3).cell? ⟨w.heap.size + 1 + 1, 4, none⟩ = some (.int .i64 rel) ∧ ((((w2.setCell ⟨w.heap.size + 1 + 1 + 1, 0, none⟩ u0).setCell ⟨w.heap.size + 1 + 1 + 1, 1, none⟩ u1).setCell ⟨w.heap.size + 1 + 1 + 1, 2, none⟩ u2).setCell ⟨w.heap.size + 1 + 1 + 1, 3, none⟩ u3).cell? ⟨w.heap.size + 1 + 1, 5, none⟩ = some (.int .i64 ilo) ∧ ((((w2.setCell ⟨w.heap.size + 1 + 1 + 1, 0, none⟩ u0).setCell ⟨w.heap.size + 1 + 1 + 1, 1, none⟩ u1).setCell ⟨w.heap.size + 1 + 1 + 1, 2, none⟩ u2).setCell ⟨w.heap.size + 1 + 1 + 1, 3, none⟩ u3).cell? ⟨w.heap.size + 1 + 1, 6, none⟩ = some (.int .i64 ihi) ∧ ((((w2.setCell ⟨w.heap.size + 1 + 1 + 1, 0, none⟩ u0).setCell ⟨w.heap.size + 1 + 1 + 1, 1, none⟩ u1).setCell ⟨w.heap.size + 1 + 1 + 1, 2, none⟩ u2).setCell ⟨w.heap.size + 1 + 1 + 1, 3, none⟩ u3).cell? ⟨w.heap.size + 1 + 1, 7, none⟩ = some (.int .i64 (k : Int)) ∧ ((((w2.setCell ⟨w.heap.size + 1 + 1 + 1, 0, none⟩ u0).setCell ⟨w.heap.size + 1 + 1 + 1, 1, none⟩ u1).setCell ⟨w.heap.size + 1 + 1 + 1, 2, none⟩ u2).setCell ⟨w.heap.size + 1 + 1 + 1, 3, none⟩ u3).cell? ⟨g6, 0, none⟩ = some (.bool true) ∧ ((((w2.setCell ⟨w.heap.size + 1 + 1 + 1, 0, none⟩ u0).setCell ⟨w.heap.size + 1 + 1 + 1, 1, none⟩ u1).setCell ⟨w.heap.size + 1 + 1 + 1, 2, none⟩ u2).setCell ⟨w.heap.size + 1 + 1 + 1, 3, none⟩ u3).cell? ⟨g6, 1, none⟩ = some (.slice (some ⟨rb, 0, none⟩) 4 cc) ∧ ((((w2.setCell ⟨w.heap.size + 1 + 1 + 1, 0, none⟩ u0).setCell ⟨w.heap.size + 1 + 1 + 1, 1, none⟩ u1).setCell ⟨w.heap.size + 1 + 1 + 1, 2, none⟩ u2).setCell ⟨w.heap.size + 1 + 1 + 1, 3, none⟩ u3).cell? ⟨g6, 2, none⟩ = some (.int .i64 lo) ∧ ((((w2.setCell ⟨w.heap.size + 1 + 1 + 1, 0, none⟩ u0).setCell ⟨w.heap.size + 1 + 1 + 1, 1, none⟩ u1).setCell ⟨w.heap.size + 1 + 1 + 1, 2, none⟩ u2).setCell ⟨w.heap.size + 1 + 1 + 1, 3, none⟩ u3).cell? ⟨g6, 3, none⟩ = some (.int .i64 hi) ∧ ((((w2.setCell ⟨w.heap.size + 1 + 1 + 1, 0, none⟩ u0).setCell ⟨w.heap.size + 1 + 1 + 1, 1, none⟩ u1).setCell ⟨w.heap.size + 1 + 1 + 1, 2, none⟩ u2).setCell ⟨w.heap.size + 1 + 1 + 1, 3, none⟩ u3).cell? ⟨qb, qoff + k * 3, none⟩ = some (.bool true) ∧ ((((w2.setCell ⟨w.heap.size + 1 + 1 + 1, 0, none⟩ u0).setCell ⟨w.heap.size + 1 + 1 + 1, 1, none⟩ u1).setCell ⟨w.heap.size + 1 + 1 + 1, 2, none⟩ u2).setCell ⟨w.heap.size + 1 + 1 + 1, 3, none⟩ u3).cell? ⟨qb, qoff + k * 3 + 1, none⟩ = some (.int .i64 ol) ∧ ((((w2.setCell ⟨w.heap.size + 1 + 1 + 1, 0, none⟩ u0).setCell ⟨w.heap.size + 1 + 1 + 1, 1, none⟩ u1).setCell ⟨w.heap.size + 1 + 1 + 1, 2, none⟩ u2).setCell ⟨w.heap.size + 1 + 1 + 1, 3, none⟩ u3).cell? ⟨qb, qoff + k * 3 + 2, none⟩ = some (.int .i64 oh))); have ZZ := (HZ2.out.grew (grew_d (Below.refl _ _))).chg hc2 (by omega); have z0 := ZZ.cell 0; have z1 := ZZ.cell 1; have z2 := ZZ.cell 2; have z3 := ZZ.cell 3; have zl := ZZ.lt; have zf := (fun j => ZZ.frozen j); simp only [List.getElem?_toArray, List.getElem?_cons_zero, List.getElem?_cons_succ] at z0 z1 z2 z3; clear ZZ)
      refine hK.out _ _ ?_ (fun hHeld => ?_)
      · (try dsimp only); (first | assumption | with_reducible exact hsF _ _ _ _ | with_reducible exact HSG.out _ (grew_d (Below.refl _ _)))
      clear hK K
      try simp only [List.getElem_toArray, List.getElem_cons_succ, List.getElem_cons_zero, Act.put, List.setIfInBounds_toArray, List.set_cons_zero, List.set_cons_succ]
      refine wpAnyH_ready (rs := [10]) (by kernel_rfl) (by simp) ?_
      refine AllReadyH.cons rfl (fun K hK => ?_) AllReadyH.nil
      try simp only [List.getElem_toArray, List.getElem_cons_succ, List.getElem_cons_zero]
      go_simp
      refine hK.out _ _ ?_ (fun hHeld => ?_)
      · (try dsimp only); (first | assumption | with_reducible exact hsF _ _ _ _ | with_reducible exact HSG.out _ (grew_d (Below.refl _ _)))
      clear hK K
      try simp only [List.getElem_toArray, List.getElem_cons_succ, List.getElem_cons_zero, Act.put, List.setIfInBounds_toArray, List.set_cons_zero, List.set_cons_succ]
      refine wpAnyH_done (by kernel_rfl) ?_ _
      have HO5 := Lib.hid hoy
      have HG5 := Lib.hid (show Grew w w2 from Below.trans (grew_d HG2.out) (hc2.belowB (grew_d HG2.out).size (fun k hk => by subst hk; omega)))
      clear hs8 hs9 hsF hc2 hoy
      go_wp2
      refine bodyPost_ret (by simp [results, Tryz.results120, go_sem, z0, z1, z2, z3, zl]; try rfl) rfl ?_
      refine ⟨?_, rb, cc, rfl, fun z hz => ?_⟩
      · repeat (first | with_reducible exact HG5.out | with_reducible refine grew_set ?_ (by first | omega | (simp only; omega)) _)
      · cases hz
        refine (OwnR.chg (F := fun b => b = w.heap.size + 1 + 1 + 1) HO5.out ?_ (fun e => n4 e.symm)).mono (by omega)
        repeat (first | with_reducible exact Chg.refl _ _ | with_reducible refine Chg.alw (F := fun b => b = w.heap.size + 1 + 1 + 1) ?_ rfl _)
end Go.Proofs.YtpmfpgbpndobpaaGreat
