/- Lemmas and walks of this proof, some texts one behind the other. No condition. -/
import Derived.Test.YtdddhnepanjmfaaGreatVq
import Derived.Test.YtdddhnepanjmfaaGreatFailS
import Derived.Test.YtdddhnepanjmfaaGreatVj
set_option linter.unusedSimpArgs false
set_option linter.unusedVariables false
/- The reference's check of a certificate. No condition. -/
namespace Go.Proofs.YtdddhnepanjmfaaGreat
open Go.RowKit
set_option linter.unusedVariables false
set_option linter.unusedSimpArgs false
attribute [local go_sem] ext_cell ext_frozen ext_lt ext_le ext_le1 lt_s2 lt_s3 lt_s4 lt_s5 lt_s6 ext_lt1 ext_lt2 ext_lt3

set_option maxRecDepth 100000 in
set_option maxHeartbeats 4000000 in
theorem l8PartS (a : Option Addr) (n cap : Nat) (ps : List Prc) (ta : Option Addr) (tn tc : Nat) (part : List Int) (w : World) (hr : RdP w a n ps) (hn : n ≤ 9223372036854775807) (hok : prgOkB ps = true) (ht : Rd w ta tn 1 (ints .i64 part)) (ht1 : 1 ≤ tn) (htn : tn ≤ 1000)
    (hs : Srt part) (hb : ∀ x, x ∈ part → 0 ≤ x ∧ x < n) :
    Calls Tryz.prog 42 #[.agg #[.slice a n cap], .slice ta tn tc] w fun e w' => e = .returned (.bool true) ∧ Grew w w' := by
  have C := fun W (g : Grew w W) => specPrgOk a n cap ps W (hr.grew g) hn
  rw [hok] at C
  have HC := Lib.hid C
  have HT := Lib.hid ht
  have HS := Lib.hid hs
  have HB := Lib.hid hb
  clear C hr hok ht hs hb
  have HB0 := Lib.hid (Blk.new w 34 #[.slice a n cap])
  go_enter Tryz.func42, Tryz.ntmps42
  go_wp2_with fail
  refine (HC.out _ (gr)).mono ?_
  rintro e w1 ⟨rfl, g1⟩
  have HB1 := Lib.hid (HB0.out.grew g1)
  have HG1 := Lib.hid (grew_tr (grew_al (Below.refl _ w) (.cells #[.slice a n cap] 34)) g1)
  have ht0 : ((tn : Int) == 0) = false := by simp; omega
  clear g1 HB0 HC
  go_wp2
  go_loopw [5] (fun i wr => ∃ k : Nat, k ≤ tn ∧ i = .int .i64 k ∧ Grew w wr ∧ Blk wr w.heap.size 34 #[.slice a n cap]) (fun i _ => tn - (Go.RowKit.intOf i).toNat)
  case atStart => exact ⟨0, Nat.zero_le _, rfl, HG1.out, HB1.out⟩
  case round =>
    clear HG1 HB1
    obtain ⟨k, hk, rfl, hg, hb⟩ := hrel
    have HG := Lib.hid hg
    have HK := Lib.hid hb
    have c0 := hb.cell 0
    have cl := hb.lt
    simp only [List.getElem?_toArray, List.getElem?_cons_zero] at c0
    by_cases hlt : k < tn
    · obtain ⟨b, off, x, rfl, hx, p0⟩ := part_at (HT.out.grew hg) hlt
      obtain ⟨hx0, hx1⟩ := HB.out x (List.mem_of_getElem? hx)
      have hx2 : decide (x < 0) = false := by simp; omega
      have hx3 : decide ((n : Int) ≤ x) = false := by simp; omega
      have pl : b < wr.heap.size := World.block_lt_of_cell? wr _ p0
      by_cases hk0 : k = 0
      · subst hk0
        rw [Nat.add_zero] at p0
        clear hg hb hx0 hx1 hx
        go_wp2_with fail
        first | refine wp_region_ext2 (by kernel_rfl) (by kernel_rfl) ?_ | refine wp_region_ext (by kernel_rfl) (by kernel_rfl) ?_
        repeat (go_big_quiet_step ((first | fail)))
        refine wpQuiet_nil ?_
        intro _ hw'
        obtain ⟨u, hw''⟩ := hw'
        subst hw''
        have HG2 := Lib.hid (grew_tr HG.out (ext_grew _ u))
        have HK2 := Lib.hid (HK.out.grew (ext_grew _ u))
        clear c0 cl p0 pl hx2 hx3
        go_wp2
        go_roundw
        case rel => exact ⟨1, by omega, rfl, HG2.out, HK2.out⟩
        case measure => simp [Go.RowKit.intOf]; omega
      · obtain ⟨y, hy⟩ : ∃ y, part[k - 1]? = some y := ⟨_, List.getElem?_eq_getElem (by have := (List.getElem?_eq_some_iff.1 hx).1; omega)⟩
        have hyx : y < x := by
          obtain ⟨h1, e1⟩ := List.getElem?_eq_some_iff.1 hy
          obtain ⟨h2, e2⟩ := List.getElem?_eq_some_iff.1 hx
          have := List.pairwise_iff_getElem.1 HS.out (k - 1) k h1 h2 (by omega)
          rw [e1, e2] at this
          exact this
        have hyx2 : decide (x ≤ y) = false := by simp; omega
        have hk1 : decide (0 < k) = true := by simp; omega
        have q0 := part_cell (HT.out.grew hg) hy
        have hki : ((k : Int) - 1) = ((k - 1 : Nat) : Int) := by omega
        have hkl : k - 1 < tn := by omega
        clear hg hb hx0 hx1 hx hy hyx
        go_wp2_with fail
        first | refine wp_region_ext2 (by kernel_rfl) (by kernel_rfl) ?_ | refine wp_region_ext (by kernel_rfl) (by kernel_rfl) ?_
        repeat (go_big_quiet_step ((first | fail)))
        refine wpQuiet_nil ?_
        intro _ hw'
        obtain ⟨u, hw''⟩ := hw'
        subst hw''
        have HG2 := Lib.hid (grew_tr HG.out (ext_grew _ u))
        have HK2 := Lib.hid (HK.out.grew (ext_grew _ u))
        clear c0 cl p0 pl hx2 hx3 hyx2 hk1 q0 hki
        go_wp2
        go_roundw
        case rel => exact ⟨k + 1, by omega, by go_num, HG2.out, HK2.out⟩
        case measure => simp [Go.RowKit.intOf]; omega
    · clear hg hb
      go_wp2
      go_ret
      exact ⟨rfl, HG.out⟩

theorem all_take {α : Type} {p : α → Bool} {l : List α} {k : Nat} {x : α} (hx : l[k]? = some x) (h : (l.take k).all p = true) (hp : p x = true) : (l.take (k + 1)).all p = true := by
  rw [List.take_add_one, hx, List.all_append, h]
  simp [hp]
theorem all_false {α : Type} {p : α → Bool} {l : List α} {k : Nat} {x : α} (hx : l[k]? = some x) (hp : p x = false) : l.all p = false := by
  rw [List.all_eq_false]
  exact ⟨x, List.mem_of_getElem? hx, by rw [hp]; decide⟩

set_option maxRecDepth 100000 in
set_option maxHeartbeats 4000000 in
theorem l8RowS (a : Option Addr) (n cap : Nat) (row : List St) (m : Nat) (w : World) (hr : RdL ESt 4 w a n row) (hn : n ≤ 9223372036854775807) (hm : m ≤ 9223372036854775807) :
    Calls Tryz.prog 43 #[.slice a n cap, .int .i64 m] w fun e w' => e = .returned (.bool (decide (row.length = m) && row.all stB)) ∧ Grew w w' := by
  have hl := hr.len
  rw [hl]
  have HR := Lib.hid hr
  have HL := Lib.hid hl
  clear hr hl
  by_cases e1 : n = m
  case neg =>
    have e2 : ((n : Int) != (m : Int)) = true := by simp; omega
    rw [decide_eq_false e1, Bool.false_and]
    clear e1
    go_enter Tryz.func43, Tryz.ntmps43
    go_wp2
    go_ret
    exact ⟨rfl, gr⟩
  case pos =>
    subst e1
    have e2 : ((n : Int) != (n : Int)) = false := by simp
    rw [decide_eq_true rfl, Bool.true_and]
    obtain ⟨rb, hrb⟩ : ∃ rb, row.all stB = rb := ⟨_, rfl⟩
    rw [hrb]
    have HRb := Lib.hid hrb
    clear hrb
    go_enter Tryz.func43, Tryz.ntmps43
    go_wp2
    go_loopw [5] (fun i wr => ∃ k : Nat, k ≤ n ∧ i = .int .i64 k ∧ Grew w wr ∧ Hid ((row.take k).all stB = true)) (fun i _ => n - (Go.RowKit.intOf i).toNat)
    case atStart => exact ⟨0, Nat.zero_le _, rfl, gr, Lib.hid rfl⟩
    case round =>
      obtain ⟨k, hk, rfl, hg, hall⟩ := hrel
      have HG := Lib.hid hg
      have HAll := Lib.hid hall.out
      clear hg hall
      by_cases hlt : k < n
      · obtain ⟨bs, ofs, son, xa, xs, xc, slo, shi, rfl, hs, s0, s1, s2, s3, hbs, hx1, hx2, hx3⟩ := rdSt_at (HR.out.grew staysSt HG.out) hlt
        have HS := Lib.hid hs
        have hxl63 : xs.length ≤ 9223372036854775807 := by unfold maxLen at hx3; omega
        have CR := Lib.hid fun W (g : Grew wr W) => specAbsOk son xa xs.length xc xs slo shi W (hx1.grew staysItv g) hxl63
        obtain ⟨xn, hxn⟩ : ∃ x, xs.length = x := ⟨_, rfl⟩
        rw [hxn] at CR s1
        clear hs hx1 hx2 hx3 hxl63 hxn
        go_wp2_with fail
        refine (CR.out _ (Below.refl _ _)).mono ?_
        rintro e w5 ⟨rfl, g5⟩
        have HG5 := Lib.hid (grew_tr HG.out g5)
        clear g5 HG CR s0 s1 s2 s3 hbs
        cases hok : stOkB son xs slo shi with
        | false =>
          obtain rfl : false = rb := by rw [← HRb.out, all_false HS.out hok]
          clear hok
          go_wp2
          go_ret
          exact ⟨rfl, HG5.out⟩
        | true =>
          have HA2 := Lib.hid (all_take HS.out HAll.out hok)
          clear hok
          go_wp2
          go_roundw
          case rel => exact ⟨k + 1, by omega, by go_num, HG5.out, HA2⟩
          case measure => simp [Go.RowKit.intOf]; omega
      · obtain rfl : k = n := by omega
        obtain rfl : true = rb := by rw [← HRb.out, ← HAll.out, List.take_of_length_le (by rw [HL.out]; exact Nat.le_refl _)]
        go_wp2
        go_ret
        exact ⟨rfl, HG.out⟩
end Go.Proofs.YtdddhnepanjmfaaGreat

/- The reference's check of a certificate, all; its alarms. No condition. -/
namespace Go.Proofs.YtdddhnepanjmfaaGreat
open Go.RowKit
set_option linter.unusedVariables false
set_option linter.unusedSimpArgs false
attribute [local go_sem] ext_cell ext_frozen ext_lt ext_le ext_le1 lt_s2 lt_s3 lt_s4 lt_s5 lt_s6 ext_lt1 ext_lt2 ext_lt3

theorem rowB_eq {ps : List Prc} {p : Int} {row : List St} {m : Nat} (h : (codeOfP ps p).length = m) : (decide (row.length = m) && row.all stB) = rowB ps p row := by
  subst h; rfl
set_option maxRecDepth 100000 in
set_option maxHeartbeats 8000000 in
theorem crtOkS (a : Option Addr) (n cap : Nat) (ps : List Prc) (ta : Option Addr) (tn tc : Nat) (part : List Int) (va : Option Addr) (vc : Nat) (oa : Option Addr) (oc : Nat) (ss : List (List St)) (os : List Sum) (w : World) (h : RcH w a n ps ta tn part va ss oa os)
    (hn : n ≤ 9223372036854775807) (ht1 : 1 ≤ tn) (htn : tn ≤ 1000) (hsl : ss.length ≤ 9223372036854775807) (hol : os.length ≤ 9223372036854775807) :
    Calls Tryz.prog 20 #[.agg #[.slice a n cap], .slice ta tn tc, .agg #[.slice va ss.length vc, .slice oa os.length oc]] w fun e w' => e = .returned (.bool (certB ps part ⟨ss, os⟩)) ∧ Grew w w' := by
  have CI := Lib.hid fun W (g : Grew w W) => l8PartS a n cap ps ta tn tc part W (h.rp.grew g) hn h.ok (h.rt.grew g) ht1 htn h.sr h.bd
  have HH := Lib.hid h
  have HL1 := Lib.hid (certB_len (ps := ps) (part := part) (ss := ss) (os := os))
  clear h
  obtain ⟨rb, hrb⟩ : ∃ rb, certB ps part ⟨ss, os⟩ = rb := ⟨_, rfl⟩
  rw [hrb]
  have HRb := Lib.hid hrb
  obtain ⟨n1, hn1⟩ : ∃ k, ss.length = k := ⟨_, rfl⟩
  obtain ⟨n2, hn2⟩ : ∃ k, os.length = k := ⟨_, rfl⟩
  have HN1 := Lib.hid hn1
  have HN2 := Lib.hid hn2
  rw [hn1] at hsl ⊢
  rw [hn2] at hol ⊢
  clear hn1 hn2 hrb
  have HB3 := Lib.hid ((Blk.new w 34 #[.slice a n cap]).alloc (.cells #[.slice va n1 vc, .slice oa n2 oc] 58))
  have HB5 := Lib.hid (Blk.new (w.alloc (.cells #[.slice a n cap] 34)) 58 #[.slice va n1 vc, .slice oa n2 oc])
  simp only [World.size_alloc] at HB5
  go_enter Tryz.func20, Tryz.ntmps20
  go_wp2_with fail
  refine (CI.out _ (grew_al (grew_al (Below.refl _ w) _) _)).mono ?_
  rintro e w1 ⟨rfl, g1⟩
  have HC3 := Lib.hid (HB3.out.grew g1)
  have HC5 := Lib.hid (HB5.out.grew g1)
  have HG1 := Lib.hid (show Grew w w1 from grew_tr (grew_al (grew_al (Below.refl _ w) _) _) g1)
  have z3 := HC3.out.cell 0
  have l3 := HC3.out.lt
  have z5 := HC5.out.cell 0
  have y5 := HC5.out.cell 1
  have l5 := HC5.out.lt
  simp only [List.getElem?_toArray, List.getElem?_cons_zero, List.getElem?_cons_succ] at z3 z5 y5
  clear g1 HB3 HB5 CI
  by_cases e1 : n1 = tn
  case neg =>
    obtain rfl : false = rb := by rw [← HRb.out]; exact (HL1.out (fun e => e1 (by rw [← HN1.out, e.1, HH.out.tl]))).symm
    have e1' : ((n1 : Int) != (tn : Int)) = true := by simp; omega
    clear e1
    go_wp2
    go_ret
    exact ⟨rfl, HG1.out⟩
  by_cases e2 : n2 = tn
  case neg =>
    obtain rfl : false = rb := by rw [← HRb.out]; exact (HL1.out (fun e => e2 (by rw [← HN2.out, e.2, HH.out.tl]))).symm
    have e1' : ((n1 : Int) != (tn : Int)) = false := by simp [e1]
    have e2' : ((n2 : Int) != (tn : Int)) = true := by simp; omega
    clear e1 e2
    go_wp2
    go_ret
    exact ⟨rfl, HG1.out⟩
  subst e1
  subst e2
  have e1' : ((n2 : Int) != (n2 : Int)) = false := by simp
  clear HL1
  go_wp2
  go_loopw [7] (fun i wr => ∃ k : Nat, k ≤ n2 ∧ i = .int .i64 k ∧ Grew w1 wr ∧ Hid (∀ (i : Nat) (p : Int) (row : List St) (o : Sum), i < k → part[i]? = some p → ss[i]? = some row → os[i]? = some o → rowB ps p row = true ∧ sumOkB o = true)) (fun i _ => n2 - (Go.RowKit.intOf i).toNat)
  case atStart => exact ⟨0, Nat.zero_le _, rfl, Below.refl _ _, Lib.hid (fun i p row o h => by omega)⟩
  case round =>
    clear z3 l3 z5 y5 l5
    obtain ⟨k, hk, rfl, hg, hpre⟩ := hrel
    have HG := Lib.hid hg
    have HPre := Lib.hid hpre.out
    clear hg hpre
    by_cases hlt : k < n2
    · obtain ⟨bt, ot, p, rfl, hp, t0⟩ := part_at HH.out.rt hlt
      obtain ⟨br, of, ra, row, rc, rfl, hrow, r0, hbr, hr1, hr2, hr3⟩ := rdRow_at HH.out.rs (show k < ss.length by have := HN1.out; omega)
      obtain ⟨bo, oo, on, olo, ohi, rfl, ho, o0, o1, o2, hbo⟩ := rdSum_at HH.out.ro (show k < os.length by have := HN2.out; omega)
      obtain ⟨hp0, hp1⟩ := HH.out.bd p (List.mem_of_getElem? hp)
      obtain ⟨P, rfl⟩ : ∃ P : Nat, p = P := ⟨p.toNat, by omega⟩
      obtain ⟨bp, op, plo, phi, is, ia, ic, rfl, hps, p0, p1, p2, hbp, hi1, hi2, hi3⟩ := rdP_at HH.out.rp (show P < n by omega)
      have hcode : codeOfP ps P = is := by unfold codeOfP; rw [Int.toNat_natCast, hps]
      have hPn : (P : Int) < n := hp1
      have HP := Lib.hid hp
      have HRow := Lib.hid hrow
      have HO := Lib.hid ho
      have hrl63 : row.length ≤ 9223372036854775807 := by unfold maxLen at hr3; omega
      have hcl63 : is.length ≤ 9223372036854775807 := by unfold maxLen at hi3; omega
      have gwr := grew_tr HG1.out HG.out
      have CRw := Lib.hid fun W (g : Grew wr W) => l8RowS ra row.length rc row is.length W (hr1.grew staysSt (grew_tr gwr g)) hrl63 hcl63
      rw [rowB_eq (show (codeOfP ps P).length = is.length by rw [hcode])] at CRw
      have CSu := Lib.hid fun W => specL7Sum ⟨on, olo, ohi⟩ W
      obtain ⟨rl, hrl⟩ : ∃ x, row.length = x := ⟨_, rfl⟩
      obtain ⟨il, hil⟩ : ∃ x, is.length = x := ⟨_, rfl⟩
      rw [hrl] at CRw r0
      rw [hil] at CRw p2
      have q0 := gk gwr t0
      have q1 := gk gwr r0
      have q2 := gk gwr o0
      have q3 := gk gwr o1
      have q4 := gk gwr o2
      have q5 := gk gwr p2
      have m0 := World.block_lt_of_cell? wr _ q0
      have m1 := World.block_lt_of_cell? wr _ q1
      have m2 := World.block_lt_of_cell? wr _ q2
      have m5 := World.block_lt_of_cell? wr _ q5
      simp only at m0 m1 m2 m5
      have z3 := (HC3.out.grew HG.out).cell 0
      have l3 := (HC3.out.grew HG.out).lt
      have z5 := (HC5.out.grew HG.out).cell 0
      have y5 := (HC5.out.grew HG.out).cell 1
      have l5 := (HC5.out.grew HG.out).lt
      simp only [List.getElem?_toArray, List.getElem?_cons_zero, List.getElem?_cons_succ] at z3 z5 y5
      clear hp hrow ho r0 hbr hr1 hr2 hr3 o0 o1 o2 hbo hp0 hp1 hps p0 p1 p2 hbp hi1 hi2 hi3 hcode hrl63 hcl63 gwr t0 hil hrl
      cases hRB : rowB ps P row with
      | false =>
        rw [hRB] at CRw
        obtain rfl : false = rb := by rw [← HRb.out]; exact (certB_row HP.out HRow.out hRB).symm
        clear hRB
        go_wp2_with fail
        first | refine wp_region_ext2 (by kernel_rfl) (by kernel_rfl) ?_ | refine wp_region_ext (by kernel_rfl) (by kernel_rfl) ?_
        repeat (go_big_quiet_step ((first | (with_reducible exact ext_grow (CRw.out _ (gr))))))
        refine wpQuiet_nil ?_
        intro _ hw'
        obtain ⟨u, hw''⟩ := hw'
        subst hw''
        clear CRw q0 q1 q2 q3 q4 q5 m0 m1 m2 m5 z3 l3 z5 y5 l5
        go_wp2
        go_ret
        exact ⟨rfl, grew_ext (grew_tr HG1.out HG.out) _⟩
      | true =>
        rw [hRB] at CRw
        cases hSB : sumOkB ⟨on, olo, ohi⟩ with
        | false =>
          rw [hSB] at CSu
          obtain rfl : false = rb := by rw [← HRb.out]; exact (certB_out HO.out hSB).symm
          clear hRB hSB
          go_wp2_with fail
          first | refine wp_region_ext2 (by kernel_rfl) (by kernel_rfl) ?_ | refine wp_region_ext (by kernel_rfl) (by kernel_rfl) ?_
          repeat (go_big_quiet_step ((first | (with_reducible exact ext_grow (CRw.out _ (gr))) | (with_reducible exact ext_grow (CSu.out _)))))
          refine wpQuiet_nil ?_
          intro _ hw'
          obtain ⟨u, hw''⟩ := hw'
          subst hw''
          clear CRw q0 q1 q2 q3 q4 q5 m0 m1 m2 m5 z3 l3 z5 y5 l5
          go_wp2
          go_ret
          exact ⟨rfl, grew_ext (grew_tr HG1.out HG.out) _⟩
        | true =>
          rw [hSB] at CSu
          have HPk := Lib.hid (show ∀ (i : Nat) (p : Int) (row : List St) (o : Sum), i < k + 1 → part[i]? = some p → ss[i]? = some row → os[i]? = some o → rowB ps p row = true ∧ sumOkB o = true from fun i p row' o hi hp' hr' ho' => by
            by_cases h : i < k
            · exact HPre.out i p row' o h hp' hr' ho'
            · obtain rfl : i = k := by omega
              rw [HP.out] at hp'
              rw [HRow.out] at hr'
              rw [HO.out] at ho'
              obtain rfl := Option.some.inj hp'
              obtain rfl := Option.some.inj hr'
              obtain rfl := Option.some.inj ho'
              exact ⟨hRB, hSB⟩)
          clear hRB hSB
          go_wp2_with fail
          first | refine wp_region_ext2 (by kernel_rfl) (by kernel_rfl) ?_ | refine wp_region_ext (by kernel_rfl) (by kernel_rfl) ?_
          repeat (go_big_quiet_step ((first | (with_reducible exact ext_grow (CRw.out _ (gr))) | (with_reducible exact ext_grow (CSu.out _)))))
          refine wpQuiet_nil ?_
          intro _ hw'
          obtain ⟨u, hw''⟩ := hw'
          subst hw''
          clear CRw q0 q1 q2 q3 q4 q5 m0 m1 m2 m5 z3 l3 z5 y5 l5
          go_wp2
          go_roundw
          case rel => exact ⟨k + 1, by omega, by go_num, grew_ext HG.out _, HPk⟩
          case measure => simp [Go.RowKit.intOf]; omega
    · obtain rfl : k = n2 := by omega
      obtain rfl : true = rb := by
        rw [← HRb.out]
        exact (certB_true (ps := ps) (part := part) (ss := ss) (os := os) (by rw [HN1.out, HH.out.tl]) (by rw [HN2.out, HH.out.tl]) (fun i p row o hp hr ho => HPre.out i p row o (by have := (List.getElem?_eq_some_iff.1 hp).1; have := HH.out.tl; omega) hp hr ho)).symm
      go_wp2
      go_ret
      exact ⟨rfl, grew_tr HG1.out HG.out⟩
end Go.Proofs.YtdddhnepanjmfaaGreat
