/- Certificates copied into new memory: what the copies own. No condition. -/
import Derived.Test.YtdddhnepanjmfaaGreatCd
namespace Go.Proofs.YtdddhnepanjmfaaGreat
open Go.RowKit
set_option linter.unusedVariables false
set_option linter.unusedSimpArgs false
attribute [local go_sem] ext_cell ext_frozen ext_lt ext_le ext_le1 lt_s2 lt_s3 lt_s4 lt_s5 lt_s6 ext_lt1 ext_lt2 ext_lt3


/-- A row of the call's own, and what its elements own. -/
def RetOw {μ β : Type} (T : TypeId) (C : Nat) (f : μ → List Value) (Q : Nat → Nat → World → μ → Prop) (p : μ → β) (xs : List β) (w : World) (e : Ending) (w' : World) : Prop :=
  ∃ (v : Value) (ms : List μ), e = .returned v ∧ OwnR T C f Q w.heap.size w'.heap.size w' v ms ∧ ms.map p = xs ∧ Grew w w'
def RetCrt (x : Crt) (w : World) (e : Ending) (w' : World) : Prop := ∃ m : CrtM, e = .returned (.agg #[m.1.2, m.2.2]) ∧ QCrt w.heap.size w'.heap.size w' m ∧ pCrt m = x ∧ Grew w w'

theorem chg_b (w : World) (g o : Nat) (u : Value) : Chg (fun b => b = g) w (w.setCell ⟨g, o, none⟩ u) := ⟨rfl, rfl, rfl, by simp, fun k hk hn => Below.heap_setCell w ⟨g, o, none⟩ u k hn⟩
theorem body_letT {P : Program} {f : Func} {Q : Ending → World → Prop} {x : Exit} {a : Act} {W : World} (h : ∀ E, E = W → bodyPost P f Q x a E) : bodyPost P f Q x a W := h W rfl
theorem calls_letT {P : Program} {f : FuncId} {args : Array Value} {W : World} {Q : Ending → World → Prop} (h : ∀ E, E = W → Calls P f args E Q) : Calls P f args W Q := h W rfl

theorem absInfo : (Tryz.prog.info? 106).map (fun i => (i.zero, i.size, i.bytes)) = some (some (.agg #[.bool false, .slice none 0 0, .int .i64 0, .int .i64 0]), 4, 48) := by kernel_rfl
set_option maxHeartbeats 2000000 in
theorem toAbsStateS (a : Option Addr) (n cap : Nat) (xs : List St) (w : World) (hr : RdL ESt 4 w a n xs) (hm : bulkR xs ≤ 1048576) :
    Calls Tryz.prog 84 #[.slice a n cap] w (RetOw 106 4 fSt QSt (fun m : StM => m.1) xs w) := by
  have hl := hr.len
  have hn : n ≤ 1048576 := by unfold bulkR at hm; omega
  have HBu := Lib.hid (fun (x : St) (h : x ∈ xs) => (show (fun s : St => s.vars.length) x ≤ 1048576 by have h9 := sum_mem_le (fun s : St => s.vars.length) h; (try simp only at h9 ⊢); unfold bulkR at hm; omega))
  try simp only at HBu
  obtain ⟨i0, hi, hz0, hz1, hz2⟩ := info_parts absInfo
  obtain ⟨w1, hmk, hown, hgr⟩ := run_make_full (P := Tryz.prog) w w.heap.size 92 106 i0 (.agg #[.bool false, .slice none 0 0, .int .i64 0, .int .i64 0]) 4 Tryz.underlying92 hi hz0 hz1 .i64 .i64 n (by rw [hz2]; omega) (by unfold maxLen; omega) (Nat.le_refl _)
  have HB := Lib.hid (Below.of_grownBy hgr (Nat.le_refl _) (fun k e => nomatch e)); clear hgr
  have HR := Lib.hid hr; clear hr
  have HL := Lib.hid hl; clear hl
  have HO := Lib.hid (BldR.start (f := fSt) (Q := QSt) hown (show w.heap.size + 1 ≤ w1.heap.size from (hown.lt _ rfl).2))
  have HS := Lib.hid (show w.heap.size < w1.heap.size from (hown.lt _ rfl).2)
  clear hi hz0 hz1 hz2 hm hown
  go_enter Tryz.func84, Tryz.ntmps84
  go_wp2
  clear hmk
  go_loopw [4] (fun i wr => ∃ k : Nat, k ≤ n ∧ i = .int .i64 k ∧ Grew w wr ∧ w.heap.size < wr.heap.size ∧ ∃ ms : List StM, ms.length = k ∧ ms.map (fun m : StM => m.1) = xs.take k ∧ BldR 106 4 fSt QSt w.heap.size n wr ms) (fun i _ => n - (Go.RowKit.intOf i).toNat)
  case atStart => exact ⟨0, Nat.zero_le _, rfl, HB.out, HS.out, [], rfl, by simp, HO.out⟩
  case round =>
    clear HO HS HB
    obtain ⟨k, hk, rfl, hg, hsz, ms, hkl, hms, hbl⟩ := hrel
    by_cases hlt : k < n
    · obtain ⟨b, off, on, va, vars, vc, lo, hi, rfl, hx, c0, c1, c2, c3, hb, hi1, hi2, hi3⟩ := rdSt_at (HR.out.grew staysSt hg) hlt
      have HX := Lib.hid (take_get hx)
      have hbu := HBu.out _ (List.mem_of_getElem? hx)
      have HC := Lib.hid (toAbsState on va vars.length vc vars lo hi wr hi1 (by omega))
      have HG := Lib.hid hg
      have HW := Lib.hid hbl
      have HM := Lib.hid hms
      have HK := Lib.hid hkl
      have HSz := Lib.hid hsz
      clear hx hbu hg hbl hms hkl hsz hi1 hi2 hi3
      go_wp2_with fail
      refine HC.out.mono ?_
      rintro e w2 ⟨a', c', rfl, ho, g2⟩
      have HQ := Lib.hid (show QSt wr.heap.size w2.heap.size w2 (⟨on, vars, lo, hi⟩, .slice a' vars.length c') from ⟨ho, fun b hb => (ho.lt b hb).2, g2.size, Nat.le_refl _⟩)
      have HPm := Lib.hid (show (fun m : StM => m.1) (⟨on, vars, lo, hi⟩, .slice a' vars.length c') = ⟨on, vars, lo, hi⟩ from rfl)
      obtain ⟨ys, hrow⟩ := BldR.row HW.out
      have HW2 := Lib.hid (owns_grew hrow g2)
      obtain ⟨y0, e0⟩ := own_some HW2.out (j := k * 4) (by omega)
      obtain ⟨y1, e1⟩ := own_some HW2.out (j := k * 4 + 1) (by omega)
      obtain ⟨y2, e2⟩ := own_some HW2.out (j := k * 4 + 2) (by omega)
      obtain ⟨y3, e3⟩ := own_some HW2.out (j := k * 4 + 3) (by omega)
      have f0 := fun j => HW2.out.frozenAt j
      have G2 := Lib.hid (grew_tr HG.out g2)
      have GG := Lib.hid g2
      clear g2 hrow c0 c1 c2 c3 ho
      go_wp2
      go_roundw
      case rel =>
        have st := BldR.step' goodSt (f := fSt) (fun _ => rfl) HW.out HK.out hlt GG.out HQ.out HSz.out
        exact ⟨k + 1, by omega, by go_num, grew_setCs (o := k * 4) (cs := fSt (⟨on, vars, lo, hi⟩, .slice a' vars.length c')) G2.out (Nat.le_refl _), Nat.lt_of_lt_of_le (Nat.lt_of_lt_of_le HSz.out GG.out.size) (Nat.le_of_eq (size_setCs (fSt (⟨on, vars, lo, hi⟩, .slice a' vars.length c')) w2 w.heap.size (k * 4)).symm), _, by rw [List.length_append, HK.out]; rfl, by rw [List.map_append, HM.out, HX.out, List.map_cons, List.map_nil], st⟩
      case measure => simp [Go.RowKit.intOf]; omega
    · obtain rfl : k = n := by omega
      have HG := Lib.hid hg
      have HD := Lib.hid (BldR.done (f := fSt) (fun _ => rfl) hbl hkl)
      have HM := Lib.hid (show ms.map (fun m : StM => m.1) = xs by rw [hms, List.take_of_length_le (by have := HL.out; omega)])
      clear hg hbl hms hkl hsz
      go_wp2
      go_ret
      exact ⟨_, _, rfl, HD.out, HM.out, HG.out⟩

theorem absSInfo : (Tryz.prog.info? 92).map (fun i => (i.zero, i.size, i.bytes)) = some (some (.slice none 0 0), 1, 24) := by kernel_rfl
set_option maxHeartbeats 2000000 in
theorem toAbsStateSS (a : Option Addr) (n cap : Nat) (xs : List (List St)) (w : World) (hr : RdL ERow 1 w a n xs) (hm : bulkSS xs ≤ 1048576) :
    Calls Tryz.prog 48 #[.slice a n cap] w (RetOw 92 1 fRow QRow pRow xs w) := by
  have hl := hr.len
  have hn : n ≤ 1048576 := by unfold bulkSS at hm; omega
  have HBu := Lib.hid (fun (x : (List St)) (h : x ∈ xs) => (show bulkR x ≤ 1048576 by have h9 := sum_mem_le bulkR h; (try simp only at h9 ⊢); unfold bulkSS at hm; omega))
  try simp only at HBu
  obtain ⟨i0, hi, hz0, hz1, hz2⟩ := info_parts absSInfo
  obtain ⟨w1, hmk, hown, hgr⟩ := run_make_full (P := Tryz.prog) w w.heap.size 55 92 i0 (.slice none 0 0) 1 Tryz.underlying55 hi hz0 hz1 .i64 .i64 n (by rw [hz2]; omega) (by unfold maxLen; omega) (Nat.le_refl _)
  have HB := Lib.hid (Below.of_grownBy hgr (Nat.le_refl _) (fun k e => nomatch e)); clear hgr
  have HR := Lib.hid hr; clear hr
  have HL := Lib.hid hl; clear hl
  have HO := Lib.hid (BldR.start (f := fRow) (Q := QRow) hown (show w.heap.size + 1 ≤ w1.heap.size from (hown.lt _ rfl).2))
  have HS := Lib.hid (show w.heap.size < w1.heap.size from (hown.lt _ rfl).2)
  clear hi hz0 hz1 hz2 hm hown
  go_enter Tryz.func48, Tryz.ntmps48
  go_wp2
  clear hmk
  go_loopw [4] (fun i wr => ∃ k : Nat, k ≤ n ∧ i = .int .i64 k ∧ Grew w wr ∧ w.heap.size < wr.heap.size ∧ ∃ ms : List RowM, ms.length = k ∧ ms.map pRow = xs.take k ∧ BldR 92 1 fRow QRow w.heap.size n wr ms) (fun i _ => n - (Go.RowKit.intOf i).toNat)
  case atStart => exact ⟨0, Nat.zero_le _, rfl, HB.out, HS.out, [], rfl, by simp, HO.out⟩
  case round =>
    clear HO HS HB
    obtain ⟨k, hk, rfl, hg, hsz, ms, hkl, hms, hbl⟩ := hrel
    by_cases hlt : k < n
    · obtain ⟨b, off, va, r, vc, rfl, hx, c0, hb, hi1, hi2, hi3⟩ := rdRow_at (HR.out.grew staysRow hg) hlt
      have HX := Lib.hid (take_get hx)
      have hbu := HBu.out _ (List.mem_of_getElem? hx)
      have HC := Lib.hid (toAbsStateS va r.length vc r wr hi1 hbu)
      have HG := Lib.hid hg
      have HW := Lib.hid hbl
      have HM := Lib.hid hms
      have HK := Lib.hid hkl
      have HSz := Lib.hid hsz
      clear hx hbu hg hbl hms hkl hsz hi1 hi2 hi3
      go_wp2_with fail
      refine HC.out.mono ?_
      rintro e w2 ⟨v, ms2, rfl, ho, hpm, g2⟩
      obtain ⟨pa, pq, rfl⟩ := owns_slice ho.1
      obtain ⟨pn, hpn⟩ : ∃ n, ms2.length = n := ⟨_, rfl⟩
      rw [hpn] at ho ⊢
      clear hpn
      have HQ := Lib.hid (show QRow wr.heap.size w2.heap.size w2 (ms2, .slice pa pn pq) from ho)
      have HPm := Lib.hid (show pRow (ms2, .slice pa pn pq) = r from hpm)
      obtain ⟨ys, hrow⟩ := BldR.row HW.out
      have HW2 := Lib.hid (owns_grew hrow g2)
      obtain ⟨y0, e0⟩ := own_some HW2.out (j := k) (by omega)
      have f0 := fun j => HW2.out.frozenAt j
      have G2 := Lib.hid (grew_tr HG.out g2)
      have GG := Lib.hid g2
      clear g2 hrow c0 ho hpm
      go_wp2
      go_roundw
      case rel =>
        have st := BldR.step' goodRow (f := fRow) (fun _ => rfl) HW.out HK.out hlt GG.out HQ.out HSz.out
        rw [Nat.mul_one] at st
        exact ⟨k + 1, by omega, by go_num, grew_setCs (o := k) (cs := fRow (ms2, .slice pa pn pq)) G2.out (Nat.le_refl _), Nat.lt_of_lt_of_le (Nat.lt_of_lt_of_le HSz.out GG.out.size) (Nat.le_of_eq (size_setCs (fRow (ms2, .slice pa pn pq)) w2 w.heap.size (k)).symm), _, by rw [List.length_append, HK.out]; rfl, by rw [List.map_append, HM.out, HX.out, List.map_cons, List.map_nil, HPm.out], st⟩
      case measure => simp [Go.RowKit.intOf]; omega
    · obtain rfl : k = n := by omega
      have HG := Lib.hid hg
      have HD := Lib.hid (BldR.done (f := fRow) (fun _ => rfl) hbl hkl)
      have HM := Lib.hid (show ms.map pRow = xs by rw [hms, List.take_of_length_le (by have := HL.out; omega)])
      clear hg hbl hms hkl hsz
      go_wp2
      go_ret
      exact ⟨_, _, rfl, HD.out, HM.out, HG.out⟩

set_option maxHeartbeats 2000000 in
theorem toCrtCert (va : Option Addr) (vc : Nat) (oa : Option Addr) (oc : Nat) (ss : List (List St)) (os : List Sum) (w : World) (hr : RdL ERow 1 w va ss.length ss) (hr' : RdL ESum 3 w oa os.length os) (hm : bulkC ⟨ss, os⟩ ≤ 1048576) :
    Calls Tryz.prog 24 #[.agg #[.slice va ss.length vc, .slice oa os.length oc]] w (RetCrt ⟨ss, os⟩ w) := by
  have hb1 : bulkSS ss ≤ 1048576 := by unfold bulkC at hm; simp only at hm; omega
  have hb2 : os.length ≤ 1048576 := by unfold bulkC at hm; simp only at hm; omega
  have HT := Lib.hid fun W (g : Grew w W) => toAbsStateSS va ss.length vc ss W (hr.grew staysRow g) hb1
  have HT2 := Lib.hid fun W (g : Grew w W) => toSumSumS oa os.length oc os W (hr'.grew staysSum g) hb2
  clear hr hr' hm hb1
  obtain ⟨n1, hn1⟩ : ∃ n, ss.length = n := ⟨_, rfl⟩
  obtain ⟨n2, hn2⟩ : ∃ n, os.length = n := ⟨_, rfl⟩
  rw [hn1] at HT ⊢
  rw [hn2] at HT2 ⊢
  have HN2 := Lib.hid hn2
  clear hn1 hn2 hb2
  go_enter Tryz.func24, Tryz.ntmps24
  go_wp2_with fail
  refine calls_letT ?_
  intro E hE
  have HB1 := Lib.hid (show Blk E w.heap.size 50 #[.slice va n1 vc, .slice oa n2 oc] by rw [hE]; exact ((Blk.new w _ _).alloc _).alloc _)
  have HB2 := Lib.hid (show Blk E (w.heap.size + 1) 58 #[.slice none 0 0, .slice none 0 0] by
    rw [hE]
    have := (Blk.new (w.alloc (.cells #[.slice va n1 vc, .slice oa n2 oc] 50)) 58 #[.slice none 0 0, .slice none 0 0]).alloc (.cells #[.slice none 0 0, .slice none 0 0] 58)
    simpa only [World.size_alloc] using this)
  have HB3 := Lib.hid (show Blk E (w.heap.size + 2) 58 #[.slice none 0 0, .slice none 0 0] by
    rw [hE]
    have := Blk.new ((w.alloc (.cells #[.slice va n1 vc, .slice oa n2 oc] 50)).alloc (.cells #[.slice none 0 0, .slice none 0 0] 58)) 58 #[.slice none 0 0, .slice none 0 0]
    simpa only [World.size_alloc] using this)
  have HGE := Lib.hid (show Grew w E by rw [hE]; exact grew_al (grew_al (grew_al (Below.refl _ w) _) _) _)
  have hE3 : w.heap.size + 2 < E.heap.size := HB3.out.lt
  clear hE
  refine (HT.out E HGE.out).mono ?_
  rintro e w2 ⟨v1, ms, rfl, ho, hms, g2⟩
  obtain ⟨a1, q1, rfl⟩ := owns_slice ho.1
  obtain ⟨m1, hm1⟩ : ∃ n, ms.length = n := ⟨_, rfl⟩
  rw [hm1] at ho ⊢
  clear hm1
  have HO := Lib.hid ho
  have HM := Lib.hid hms
  have HC1 := Lib.hid (HB1.out.grew g2)
  have HC2 := Lib.hid (HB2.out.grew g2)
  have HC3 := Lib.hid (HB3.out.grew g2)
  have HG := Lib.hid (grew_tr HGE.out g2)
  have hE4 : E.heap.size ≤ w2.heap.size := g2.size
  clear ho hms g2 HB1 HB2 HB3 HGE HT
  have c1 := HC1.out.cell 1
  have cl := HC1.out.lt
  have d0 := HC3.out.cell 0
  have d1 := HC3.out.cell 1
  have dl := HC3.out.lt
  have df := fun q => HC3.out.frozen q
  simp only [List.getElem?_toArray, List.getElem?_cons_zero, List.getElem?_cons_succ] at c1 d0 d1
  go_wp2_with fail
  refine calls_letT ?_
  intro E2 hE
  have HD1 := Lib.hid (show Blk E2 w.heap.size 50 #[.slice va n1 vc, .slice oa n2 oc] by rw [hE]; exact HC1.out.far (by simp only; omega) _)
  have HD2 := Lib.hid (show Blk E2 (w.heap.size + 1) 58 #[.slice none 0 0, .slice none 0 0] by rw [hE]; exact HC2.out.far (by simp only; omega) _)
  have HD3 := Lib.hid (show Blk E2 (w.heap.size + 2) 58 #[(.slice a1 m1 q1), .slice none 0 0] by rw [hE]; exact HC3.out.set_ 0 _)
  have HP := Lib.hid (show OwnR 92 1 fRow QRow E.heap.size w2.heap.size E2 (.slice a1 m1 q1) ms by rw [hE]; exact HO.out.chg goodRow (chg_b _ _ _ _) (fun b hb1 _ e => by omega))
  have HH := Lib.hid (show Grew w E2 by rw [hE]; exact grew_set HG.out (by omega) _)
  have hs2 : E2.heap.size = w2.heap.size := by rw [hE]; simp
  clear hE HC1 HC2 HC3 HO HG c1 cl d0 d1 dl df
  refine (HT2.out E2 HH.out).mono ?_
  rintro e w3 ⟨v2, rfl, ho2, g3⟩
  obtain ⟨a2, q2, rfl⟩ := owns_slice ho2
  have HQ := Lib.hid (show QCrt E.heap.size w3.heap.size w3 ((ms, (.slice a1 m1 q1)), (os, (.slice a2 n2 q2))) from ⟨w2.heap.size, goodSs.stay (m := (ms, (.slice a1 m1 q1))) HP.out (Chg.of_below (F := fun _ => False) g3) (fun _ _ _ e => e), by rw [← hs2, HN2.out]; exact ho2, fun b hb => (ho2.lt b hb).2, by have := g3.size; omega, Nat.le_refl _⟩)
  have HM2 := Lib.hid (show pCrt ((ms, (.slice a1 m1 q1)), (os, (.slice a2 n2 q2))) = ⟨ss, os⟩ by simp [pCrt, pSs, HM.out])
  have HF1 := Lib.hid (HD2.out.grew g3)
  have HF3 := Lib.hid (HD3.out.grew g3)
  have HI := Lib.hid (grew_tr HH.out g3)
  have hE5 : E.heap.size ≤ w3.heap.size := by have := g3.size; omega
  clear ho2 g3 HD1 HD2 HD3 HP HH hs2 HT2
  have d0 := HF3.out.cell 0
  have d1 := HF3.out.cell 1
  have dl := HF3.out.lt
  have df := fun q => HF3.out.frozen q
  have r0 := HF1.out.cell 0
  have r1 := HF1.out.cell 1
  have rl := HF1.out.lt
  have rf := fun q => HF1.out.frozen q
  simp only [List.getElem?_toArray, List.getElem?_cons_zero, List.getElem?_cons_succ] at d0 d1 r0 r1
  go_wp2
  refine body_letT ?_
  intro F hF
  have HRF := (show Blk F (w.heap.size + 1) 58 #[(.slice a1 m1 q1), (.slice a2 n2 q2)] by rw [hF]; exact (((HF1.out.far (by simp only; omega) _).set_ 0 _).set_ 1 _))
  have HQF := (show QCrt E.heap.size w3.heap.size F ((ms, (.slice a1 m1 q1)), (os, (.slice a2 n2 q2))) by
    rw [hF]
    refine goodCrt.stay (goodCrt.stay (goodCrt.stay HQ.out (chg_b _ _ _ _) ?_) (chg_b _ _ _ _) ?_) (chg_b _ _ _ _) ?_ <;> (intro b hb1 _ e; omega))
  have HGF := (show Grew w F by rw [hF]; exact grew_set (grew_set (grew_set HI.out (by omega) _) (by omega) _) (by omega) _)
  have hsF : F.heap.size = w3.heap.size := by rw [hF]; simp
  clear hF
  have k0 := HRF.cell 0
  have k1 := HRF.cell 1
  have kl := HRF.lt
  simp only [List.getElem?_toArray, List.getElem?_cons_zero, List.getElem?_cons_succ] at k0 k1
  refine bodyPost_ret (by simp [results, Tryz.results24, go_sem, k0, k1, kl]; try rfl) rfl ?_
  exact ⟨((ms, (.slice a1 m1 q1)), (os, (.slice a2 n2 q2))), rfl, goodCrt.mono HQF (by omega) (by omega) (Nat.le_refl _), HM2.out, HGF⟩

theorem crtInfo : (Tryz.prog.info? 58).map (fun i => (i.zero, i.size, i.bytes)) = some (some (.agg #[.slice none 0 0, .slice none 0 0]), 2, 48) := by kernel_rfl
set_option maxHeartbeats 2000000 in
theorem toCrtCertS (a : Option Addr) (n cap : Nat) (xs : List Crt) (w : World) (hr : RdL ECrt 2 w a n xs) (hm : bulkCs xs ≤ 1048576) :
    Calls Tryz.prog 8 #[.slice a n cap] w (RetOw 58 2 fCrt QCrt pCrt xs w) := by
  have hl := hr.len
  have hn : n ≤ 1048576 := by unfold bulkCs at hm; omega
  have HBu := Lib.hid (fun (x : Crt) (h : x ∈ xs) => (show bulkC x ≤ 1048576 by have h9 := sum_mem_le bulkC h; (try simp only at h9 ⊢); unfold bulkCs at hm; omega))
  try simp only at HBu
  obtain ⟨i0, hi, hz0, hz1, hz2⟩ := info_parts crtInfo
  obtain ⟨w1, hmk, hown, hgr⟩ := run_make_full (P := Tryz.prog) w w.heap.size 36 58 i0 (.agg #[.slice none 0 0, .slice none 0 0]) 2 Tryz.underlying36 hi hz0 hz1 .i64 .i64 n (by rw [hz2]; omega) (by unfold maxLen; omega) (Nat.le_refl _)
  have HB := Lib.hid (Below.of_grownBy hgr (Nat.le_refl _) (fun k e => nomatch e)); clear hgr
  have HR := Lib.hid hr; clear hr
  have HL := Lib.hid hl; clear hl
  have HO := Lib.hid (BldR.start (f := fCrt) (Q := QCrt) hown (show w.heap.size + 1 ≤ w1.heap.size from (hown.lt _ rfl).2))
  have HS := Lib.hid (show w.heap.size < w1.heap.size from (hown.lt _ rfl).2)
  clear hi hz0 hz1 hz2 hm hown
  go_enter Tryz.func8, Tryz.ntmps8
  go_wp2
  clear hmk
  go_loopw [4] (fun i wr => ∃ k : Nat, k ≤ n ∧ i = .int .i64 k ∧ Grew w wr ∧ w.heap.size < wr.heap.size ∧ ∃ ms : List CrtM, ms.length = k ∧ ms.map pCrt = xs.take k ∧ BldR 58 2 fCrt QCrt w.heap.size n wr ms) (fun i _ => n - (Go.RowKit.intOf i).toNat)
  case atStart => exact ⟨0, Nat.zero_le _, rfl, HB.out, HS.out, [], rfl, by simp, HO.out⟩
  case round =>
    clear HO HS HB
    obtain ⟨k, hk, rfl, hg, hsz, ms, hkl, hms, hbl⟩ := hrel
    by_cases hlt : k < n
    · obtain ⟨b, off, va, ss, vc, oa, os, oc, rfl, hx, c0, c1, hb, hi1, hi2, hi3, hi4⟩ := rdCrt_at (HR.out.grew staysCrt hg) hlt
      have HX := Lib.hid (take_get hx)
      have hbu := HBu.out _ (List.mem_of_getElem? hx)
      have HC := Lib.hid (toCrtCert va vc oa oc ss os wr hi1 hi2 hbu)
      have HG := Lib.hid hg
      have HW := Lib.hid hbl
      have HM := Lib.hid hms
      have HK := Lib.hid hkl
      have HSz := Lib.hid hsz
      clear hx hbu hg hbl hms hkl hsz hi1 hi2 hi3 hi4
      go_wp2_with fail
      refine HC.out.mono ?_
      rintro e w2 ⟨m2, rfl, ho, hpm, g2⟩
      obtain ⟨⟨ms2, v1⟩, os2, v2⟩ := m2
      obtain ⟨pa, pn, pq, rfl, qa, qn, qq, rfl⟩ : ∃ pa pn pq, v1 = Value.slice pa pn pq ∧ ∃ qa qn qq, v2 = Value.slice qa qn qq := by
        obtain ⟨k2, h1, h2, -⟩ := ho
        obtain ⟨pa, pq, e1⟩ := owns_slice h1.1
        obtain ⟨qa, qq, e2⟩ := owns_slice h2
        exact ⟨pa, _, pq, e1, qa, _, qq, e2⟩
      have HQ := Lib.hid (show QCrt wr.heap.size w2.heap.size w2 ((ms2, .slice pa pn pq), (os2, .slice qa qn qq)) from ho)
      have HPm := Lib.hid (show pCrt ((ms2, .slice pa pn pq), (os2, .slice qa qn qq)) = ⟨ss, os⟩ from hpm)
      obtain ⟨ys, hrow⟩ := BldR.row HW.out
      have HW2 := Lib.hid (owns_grew hrow g2)
      obtain ⟨y0, e0⟩ := own_some HW2.out (j := k * 2) (by omega)
      obtain ⟨y1, e1⟩ := own_some HW2.out (j := k * 2 + 1) (by omega)
      have f0 := fun j => HW2.out.frozenAt j
      have G2 := Lib.hid (grew_tr HG.out g2)
      have GG := Lib.hid g2
      clear g2 hrow c0 c1 ho hpm
      go_wp2
      go_roundw
      case rel =>
        have st := BldR.step' goodCrt (f := fCrt) (fun _ => rfl) HW.out HK.out hlt GG.out HQ.out HSz.out
        exact ⟨k + 1, by omega, by go_num, grew_setCs (o := k * 2) (cs := fCrt ((ms2, .slice pa pn pq), (os2, .slice qa qn qq))) G2.out (Nat.le_refl _), Nat.lt_of_lt_of_le (Nat.lt_of_lt_of_le HSz.out GG.out.size) (Nat.le_of_eq (size_setCs (fCrt ((ms2, .slice pa pn pq), (os2, .slice qa qn qq))) w2 w.heap.size (k * 2)).symm), _, by rw [List.length_append, HK.out]; rfl, by rw [List.map_append, HM.out, HX.out, List.map_cons, List.map_nil, HPm.out], st⟩
      case measure => simp [Go.RowKit.intOf]; omega
    · obtain rfl : k = n := by omega
      have HG := Lib.hid hg
      have HD := Lib.hid (BldR.done (f := fCrt) (fun _ => rfl) hbl hkl)
      have HM := Lib.hid (show ms.map pCrt = xs by rw [hms, List.take_of_length_le (by have := HL.out; omega)])
      clear hg hbl hms hkl hsz
      go_wp2
      go_ret
      exact ⟨_, _, rfl, HD.out, HM.out, HG.out⟩

end Go.Proofs.YtdddhnepanjmfaaGreat
