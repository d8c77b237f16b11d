/- Lemmas and walks of this proof, some texts one behind the other. No condition. -/
import Derived.Test.YtnjoofpllhbccaaGreatMarks
import Derived.Test.YtnjoofpllhbccaaGreatNk
set_option linter.unusedSimpArgs false
set_option linter.unusedVariables false
/- Slices of booleans: read, copied, compared, measured, marked. No condition. -/
namespace Go.Proofs.YtnjoofpllhbccaaGreat
open Go.RowKit
set_option linter.unusedVariables false
set_option linter.unusedSimpArgs false
attribute [local go_sem] ext_cell ext_frozen ext_lt ext_le ext_le1 lt_s2 lt_s3 lt_s4 lt_s5 lt_s6 ext_lt1 ext_lt2 ext_lt3

def bools (zs : List Bool) : List Value := zs.map Value.bool
theorem bools_length (zs : List Bool) : (bools zs).length = zs.length := by simp [bools]
theorem bools_get {zs : List Bool} {i : Nat} {x : Bool} (h : zs[i]? = some x) : (bools zs)[i]? = some (.bool x) := by simp [bools, h]
theorem bools_append (xs ys : List Bool) : bools (xs ++ ys) = bools xs ++ bools ys := by simp [bools]
theorem bools_set (xs : List Bool) (i : Nat) (b : Bool) : (bools xs).set i (.bool b) = bools (xs.set i b) := by simp [bools, List.map_set]
theorem Rd.lenB {w : World} {a : Option Addr} {n : Nat} {zs : List Bool} (h : Rd w a n 1 (bools zs)) : zs.length = n := by
  have := h.1; simpa [bools] using this
theorem Rd.atB {w : World} {a : Option Addr} {n : Nat} {zs : List Bool} {i : Nat} (h : Rd w a n 1 (bools zs)) (hi : i < n) :
    ∃ b off x, a = some ⟨b, off, none⟩ ∧ zs[i]? = some x ∧ w.cell? ⟨b, off + i, none⟩ = some (.bool x) := by
  have hl := h.lenB
  obtain ⟨x, hx⟩ : ∃ x, zs[i]? = some x := ⟨zs[i]'(by omega), List.getElem?_eq_getElem (by omega)⟩
  rcases h.2 with h2 | ⟨b, off, rfl, hc⟩
  · have : zs.length = 0 := by rw [← bools_length zs, h2]; rfl
    omega
  · exact ⟨b, off, x, rfl, hx, hc i _ (bools_get hx)⟩
theorem boolInfo : (Tryz.prog.info? 4).map (fun i => (i.zero, i.size, i.bytes)) = some (some (.bool false), 1, 1) := by kernel_rfl
theorem boolEl : El Tryz.prog 38 4 (.bool false) 1 1 := El.mk' boolInfo Tryz.underlying38 rfl (by omega)



end Go.Proofs.YtnjoofpllhbccaaGreat

/- Whether all that a part needs is done, the program's side. No condition. -/
namespace Go.Proofs.YtnjoofpllhbccaaGreat
open Go.RowKit
set_option linter.unusedVariables false
set_option linter.unusedSimpArgs false
attribute [local go_sem] ext_cell ext_frozen ext_lt ext_le ext_le1 lt_s2 lt_s3 lt_s4 lt_s5 lt_s6 ext_lt1 ext_lt2 ext_lt3

/-- Whether a part is not done. -/
def ndB (P : List Bool) (y : Int) : Bool := !(P.getD y.toNat false)
theorem ndB_at {P : List Bool} {k : Nat} {x : Bool} (h : P[k]? = some x) : ndB P (k : Int) = !x := by simp [ndB, h]
theorem met1 (y : Int) (pb : Nat) (pa : Option Addr) (pn pc : Nat) (P : List Bool) (w : World) (hc : w.cell? ⟨pb, 0, none⟩ = some (.slice pa pn pc)) (hr : Rd w pa pn 1 (bools P)) (hn : pn ≤ 1000) (hy : 0 ≤ y ∧ y < pn) :
    Calls Tryz.prog 73 #[.int .i64 y, .pointer (some ⟨pb, 0, none⟩)] w (RetT (ndB P y) w) := by
  obtain ⟨k, rfl⟩ := Int.eq_ofNat_of_zero_le hy.1
  obtain ⟨b, off, x, rfl, hx, hcell⟩ := hr.atB (i := k) (by omega)
  have HE := Lib.hid (ndB_at hx)
  have hk : k < pn := by omega
  clear hr hx hy
  go_enter Tryz.func73, Tryz.ntmps73
  go_wp2
  go_ret
  rw [HE.out]
  exact ⟨rfl, rfl⟩
theorem indexMet (a : Option Addr) (n cap : Nat) (zs : List Int) (pb : Nat) (pa : Option Addr) (pn pc : Nat) (P : List Bool) (w : World) (hz : Rd w a n 1 (ints .i64 zs)) (hnz : n ≤ 9223372036854775807) (hc : w.cell? ⟨pb, 0, none⟩ = some (.slice pa pn pc)) (hr : Rd w pa pn 1 (bools P)) (hn : pn ≤ 1000) (hb : ∀ y, y ∈ zs → 0 ≤ y ∧ y < pn) :
    Calls Tryz.prog 67 #[.slice a n cap, .func (.func 73) #[] #[.pointer (some ⟨pb, 0, none⟩)]] w (RetIx (zs.any (ndB P)) w) := by
  have HL := Lib.hid hz.len1
  have HR := Lib.hid hz; clear hz
  have HC := Lib.hid (fun y hy => met1 y pb pa pn pc P w hc hr hn hy)
  have HB := Lib.hid hb
  clear hc hr hb
  go_enter Tryz.func67, Tryz.ntmps67
  go_wp2
  go_loop [8] (fun i => ∃ k : Nat, k ≤ n ∧ i = .int .i64 k ∧ ∀ y, y ∈ zs.take k → ndB P y = false) (fun i => n - (Go.RowKit.intOf i).toNat)
  case atStart => exact ⟨0, Nat.zero_le _, rfl, by simp⟩
  case round =>
    obtain ⟨k, hk, rfl, hall⟩ := hrel
    have HA := Lib.hid hall; clear hall
    by_cases hlt : k < n
    · obtain ⟨b, off, z0, rfl, hx, c0⟩ := HR.out.at1 hlt
      have HX := Lib.hid hx; clear hx
      have HC0 := Lib.hid (HC.out z0 (HB.out z0 (List.mem_of_getElem? HX.out)))
      cases hq : ndB P z0
      · rw [hq] at HC0
        have HQ := Lib.hid hq; clear hq
        go_wp2_with (go_at_call 73; refine HC0.out.mono ?_; rintro e w1 ⟨rfl, rfl⟩)
        go_round
        case rel =>
          refine ⟨k + 1, by omega, by go_num, fun y hy => ?_⟩
          rw [take_get HX.out] at hy
          rcases List.mem_append.1 hy with hy | hy
          · exact HA.out y hy
          · rw [List.mem_singleton.1 hy]
            exact HQ.out
        case measure => simp [Go.RowKit.intOf]; omega
      · rw [hq] at HC0
        have HQ := Lib.hid hq; clear hq
        go_wp2_with (go_at_call 73; refine HC0.out.mono ?_; rintro e w1 ⟨rfl, rfl⟩)
        go_ret
        refine ⟨k, rfl, ?_, rfl⟩
        rw [decide_eq_true (by omega)]
        exact (List.any_eq_true.2 ⟨z0, List.mem_of_getElem? HX.out, HQ.out⟩).symm
    · go_wp2
      go_ret
      refine ⟨-1, rfl, ?_, rfl⟩
      rw [decide_eq_false (by omega)]
      symm
      rw [List.any_eq_false]
      have := HA.out
      rw [List.take_of_length_le (by have := HL.out; omega)] at this
      exact fun y hy => by simp [this y hy]
theorem containsMet (a : Option Addr) (n cap : Nat) (zs : List Int) (pb : Nat) (pa : Option Addr) (pn pc : Nat) (P : List Bool) (w : World) (hz : Rd w a n 1 (ints .i64 zs)) (hnz : n ≤ 9223372036854775807) (hc : w.cell? ⟨pb, 0, none⟩ = some (.slice pa pn pc)) (hr : Rd w pa pn 1 (bools P)) (hn : pn ≤ 1000) (hb : ∀ y, y ∈ zs → 0 ≤ y ∧ y < pn) :
    Calls Tryz.prog 42 #[.slice a n cap, .func (.func 73) #[] #[.pointer (some ⟨pb, 0, none⟩)]] w (RetT (zs.any (ndB P)) w) := by
  have C := Lib.hid (indexMet a n cap zs pb pa pn pc P w hz hnz hc hr hn hb)
  clear hz hc hr
  go_enter Tryz.func42, Tryz.ntmps42
  go_wp2_with fail
  refine C.out.mono ?_
  rintro e w1 ⟨z, rfl, hz, rfl⟩
  have HZ := Lib.hid hz; clear hz
  go_wp2
  go_ret
  exact ⟨by rw [← HZ.out]; rfl, rfl⟩

theorem met_nd (c : Int → List Int) (parts : List (List Int)) (done : List Bool) (k : Nat) : metB c parts done k = !((needsI c parts k).any (ndB done)) := by
  unfold metB
  rw [List.not_any_eq_all_not]
  congr 1
  funext y
  simp [ndB]
theorem needsI_bd (c : Int → List Int) (parts : List (List Int)) (k : Nat) : ∀ y, y ∈ needsI c parts k → 0 ≤ y ∧ y < parts.length := fun y hy => by
  obtain ⟨o, rfl, h, _⟩ := (needsI_mem _ _ _ _).1 hy
  omega
theorem needsI_len (c : Int → List Int) (parts : List (List Int)) (k : Nat) : (needsI c parts k).length ≤ parts.length := needsN_len c parts k parts.length

set_option maxHeartbeats 1000000 in
theorem implMet (gb k : Nat) (cs parts : List (List Int)) (da : Option Addr) (dn dc : Nat) (done : List Bool) (w : World) (h : GrR w gb cs parts) (hd : Rd w da dn 1 (bools done)) (hdn : dn = parts.length) (hk : k < parts.length) (hp4 : parts.length ≤ 4) (hq4 : ∀ q, q ∈ parts → q.length ≤ 4) (hqb : ∀ q, q ∈ parts → ∀ x, x ∈ q → 0 ≤ x ∧ x < cs.length) (hc4 : cs.length ≤ 4) (hcl : ∀ l, l ∈ cs → l.length ≤ 10) :
    Calls Tryz.prog 56 #[.pointer (some ⟨gb, 0, none⟩), .int .i64 k, .slice da dn dc] w (RetTG (metB (cOf' cs) parts done k) w) := by
  subst hdn
  have hml := met_nd (cOf' cs) parts done k
  have hnl := needsI_len (cOf' cs) parts k
  have hnb := needsI_bd (cOf' cs) parts k
  have HN := Lib.hid (fun W (g : Grew w W) => implNeeds gb k cs parts W (h.grew g) hk hp4 hq4 hqb hc4 hcl)
  obtain ⟨L, hL⟩ : ∃ L, needsI (cOf' cs) parts k = L := ⟨_, rfl⟩
  rw [hL] at HN hml hnl hnb
  have HML := Lib.hid hml
  have HNB := Lib.hid hnb
  have HD := Lib.hid hd
  clear h hd hL hml hnb hqb hq4 hcl
  go_enter Tryz.func56, Tryz.ntmps56
  go_wp2_with fail
  refine (HN.out _ (by repeat (first | with_reducible exact Below.refl _ _ | with_reducible assumption | with_reducible apply grew_ext | with_reducible apply grew_al | with_reducible apply grew_dn | with_reducible apply grew_d | (with_reducible refine grew_set ?_ (by first | omega | (repeat (first | with_reducible exact Nat.le_refl _ | with_reducible apply le_pl | with_reducible apply le_ext | with_reducible apply le_al))) _)))).mono ?_
  rintro e w1 ⟨A, c, rfl, o1, g1⟩
  have hbx : w1.cell? ⟨w.heap.size, 0, none⟩ = some (.slice da parts.length dc) := (g1.cell (p := ⟨w.heap.size, 0, none⟩) (by simp)).trans (by simp [go_sem])
  have hG : Grew w w1 := grew_tr (by repeat (first | with_reducible exact Below.refl _ _ | with_reducible assumption | with_reducible apply grew_ext | with_reducible apply grew_al | with_reducible apply grew_dn | with_reducible apply grew_d | (with_reducible refine grew_set ?_ (by first | omega | (repeat (first | with_reducible exact Nat.le_refl _ | with_reducible apply le_pl | with_reducible apply le_ext | with_reducible apply le_al))) _))) g1
  have C := Lib.hid (containsMet A L.length c L w.heap.size da parts.length dc done w1 (owns_rd o1) (by omega) hbx (HD.out.grew hG) (by omega) (fun y hy => by have := HNB.out y hy; omega))
  have HG := Lib.hid hG
  clear o1 g1 hG
  go_wp2_with fail
  refine C.out.mono ?_
  rintro e w2 ⟨rfl, rfl⟩
  clear C hbx
  have HML2 := HML.out
  obtain ⟨T, hT⟩ : ∃ T, L.any (ndB done) = T := ⟨_, rfl⟩
  rw [hT] at HML2 ⊢
  have HM := Lib.hid HML2
  clear HML2 hT
  go_wp2
  go_ret
  rw [HM.out]
  exact ⟨rfl, HG.out⟩
end Go.Proofs.YtnjoofpllhbccaaGreat

/- What is ready: GrfReady on both sides. No condition. -/
namespace Go.Proofs.YtnjoofpllhbccaaGreat
open Go.RowKit
set_option linter.unusedVariables false
set_option linter.unusedSimpArgs false
attribute [local go_sem] ext_cell ext_frozen ext_lt ext_le ext_le1 lt_s2 lt_s3 lt_s4 lt_s5 lt_s6 ext_lt1 ext_lt2 ext_lt3

/-- The first i parts' ready ones. -/
def readyN (c : Int → List Int) (parts : List (List Int)) (done : List Bool) (i : Nat) : List Int := ((List.range i).filter fun k => !done.getD k false && metB c parts done k).map fun o : Nat => (o : Int)
theorem readyN_all (c : Int → List Int) (parts : List (List Int)) (done : List Bool) : readyN c parts done parts.length = readyL c parts done := rfl
theorem readyN_succ (c : Int → List Int) (parts : List (List Int)) (done : List Bool) (i : Nat) : readyN c parts done (i + 1) = readyN c parts done i ++ if (!done.getD i false && metB c parts done i) then [(i : Int)] else [] := by
  unfold readyN
  rw [List.range_succ, List.filter_append, List.map_append]
  congr 1
  simp only [List.filter_cons, List.filter_nil]
  by_cases h : (!done.getD i false && metB c parts done i) = true
  · rw [if_pos h, if_pos h]
    rfl
  · rw [if_neg h, if_neg h]
    rfl
theorem readyN_len (c : Int → List Int) (parts : List (List Int)) (done : List Bool) (i : Nat) : (readyN c parts done i).length ≤ i := by
  unfold readyN
  rw [List.length_map]
  exact Nat.le_trans (List.length_filter_le _ _) (by simp)
theorem readyL_len (c : Int → List Int) (parts : List (List Int)) (done : List Bool) : (readyL c parts done).length ≤ parts.length := readyN_len c parts done parts.length
theorem readyN_no {c : Int → List Int} {parts : List (List Int)} {done : List Bool} {i : Nat} (h : (!done.getD i false && metB c parts done i) = false) : readyN c parts done (i + 1) = readyN c parts done i := by
  rw [readyN_succ, h]
  simp
theorem readyN_yes {c : Int → List Int} {parts : List (List Int)} {done : List Bool} {i : Nat} (h : (!done.getD i false && metB c parts done i) = true) : readyN c parts done (i + 1) = readyN c parts done i ++ [(i : Int)] := by
  rw [readyN_succ, h]
  simp

set_option maxRecDepth 100000 in
set_option maxHeartbeats 4000000 in
theorem implReady (gb : Nat) (cs parts : List (List Int)) (da : Option Addr) (dn dc : Nat) (done : List Bool) (w : World) (h : GrR w gb cs parts) (hd : Rd w da dn 1 (bools done)) (hdn : dn = parts.length) (hp4 : parts.length ≤ 4) (hq4 : ∀ q, q ∈ parts → q.length ≤ 4) (hqb : ∀ q, q ∈ parts → ∀ x, x ∈ q → 0 ≤ x ∧ x < cs.length) (hc4 : cs.length ≤ 4) (hcl : ∀ l, l ∈ cs → l.length ≤ 10) :
    Calls Tryz.prog 36 #[.pointer (some ⟨gb, 0, none⟩), .slice da dn dc] w (RetIs (readyL (cOf' cs) parts done) w) := by
  subst hdn
  have HM := Lib.hid (fun k (hk : k < parts.length) W (g : Grew w W) => implMet gb k cs parts da parts.length dc done W (h.grew g) (hd.grew g) rfl hk hp4 hq4 hqb hc4 hcl)
  have HD := Lib.hid hd
  obtain ⟨-, ⟨pa, pc, hc2, -⟩⟩ := h
  have HC2 := Lib.hid hc2
  have lgb := World.block_lt_of_cell? w _ hc2
  simp only at lgb
  clear hd hqb hq4 hcl
  obtain ⟨c, hcc⟩ : ∃ c, cOf' cs = c := ⟨_, rfl⟩
  rw [hcc] at HM ⊢
  clear hcc
  go_enter Tryz.func36, Tryz.ntmps36
  go_wp2
  clear hc2
  go_loopw [5, 12] (fun v i wr => ∃ m : Nat, m ≤ parts.length ∧ i = .int .i64 m ∧ Grew w wr ∧ wr.ownsRow w.heap.size 3 1 v (readyN c parts done m).length (ints .i64 (readyN c parts done m))) (fun _ i _ => parts.length - (Go.RowKit.intOf i).toNat)
  case atStart => exact ⟨0, Nat.zero_le _, rfl, Below.refl _ _, by simpa [readyN, ints] using World.ownsRow_nil _ _ _ _⟩
  case round =>
    obtain ⟨m, hm, rfl, hg, ho⟩ := hrel
    have hnl := readyN_len c parts done m
    obtain ⟨oa, oc, rfl⟩ := owns_slice ho
    have hsz := hg.size
    by_cases hlt : m < parts.length
    · obtain ⟨b, off, x, rfl, hx, hcell⟩ := (HD.out.grew hg).atB (i := m) (by omega)
      have hxg : done.getD m false = x := by simp [hx]
      have HO := Lib.hid ho
      have HG := Lib.hid hg
      cases x
      · have HMm := Lib.hid (HM.out m hlt wr hg)
        cases hmb : metB c parts done m
        · have HF := Lib.hid (readyN_no (c := c) (parts := parts) (done := done) (i := m) (by rw [hxg, hmb]; rfl))
          rw [hmb] at HMm
          clear hx ho hg hmb hxg
          go_wp2_with fail
          refine HMm.out.mono ?_
          rintro e w2 ⟨rfl, g2⟩
          have HG2 := Lib.hid (grew_tr HG.out g2)
          have HO2 := Lib.hid (owns_grew HO.out g2)
          clear g2 hcell
          go_wp2
          go_roundw
          case rel => exact ⟨m + 1, by omega, by go_num, HG2.out, by rw [HF.out]; exact HO2.out⟩
          case measure => simp [Go.RowKit.intOf]; omega
        · have HF := Lib.hid (readyN_yes (c := c) (parts := parts) (done := done) (i := m) (by rw [hxg, hmb]; rfl))
          rw [hmb] at HMm
          clear hx ho hg hmb hxg
          go_wp2_with fail
          refine HMm.out.mono ?_
          rintro e w2 ⟨rfl, g2⟩
          have HG2 := Lib.hid (grew_tr HG.out g2)
          have HO2 := Lib.hid (owns_grew HO.out g2)
          clear g2 hcell
          obtain ⟨a2, c2, w3, r3, o3, g3⟩ := appOne (w := w) (m : Int) HO2.out (by omega) HG2.out
          have R3 := Lib.hid r3
          have O3 := Lib.hid o3
          have G3 := Lib.hid g3
          clear r3 o3 g3
          go_wp2_with (at_builtin; refine wpList_append_run rfl _ _ rfl rfl rfl rfl R3.out ?_; clear R3)
          go_roundw
          case rel => exact ⟨m + 1, by omega, by go_num, G3.out, by rw [HF.out, List.length_append]; exact O3.out⟩
          case measure => simp [Go.RowKit.intOf]; omega
      · have HF := Lib.hid (readyN_no (c := c) (parts := parts) (done := done) (i := m) (by rw [hxg]; rfl))
        clear hx ho hg hxg
        go_wp2
        go_roundw
        case rel => exact ⟨m + 1, by omega, by go_num, HG.out, by rw [HF.out]; exact HO.out⟩
        case measure => simp [Go.RowKit.intOf]; omega
    · obtain rfl : m = parts.length := by omega
      rw [readyN_all] at ho hnl
      have HO := Lib.hid ho
      have HG := Lib.hid hg
      clear ho hg
      go_wp2
      go_ret
      exact ⟨oa, oc, rfl, HO.out, HG.out⟩

/-- GrfReady. -/
def grfReady (ps : List Prc) (done : List Bool) : List Int := if done.length = (grfParts ps).length then readyL (cOf' (csOf ps)) (grfParts ps) done else []
theorem grfReady_len (ps : List Prc) (done : List Bool) : (grfReady ps done).length ≤ 10 := by
  unfold grfReady
  split
  · have h1 := readyL_len (cOf' (csOf ps)) (grfParts ps) done
    have h2 := (grfParts_bd ps).1
    omega
  · simp

set_option maxHeartbeats 2000000 in
theorem implGrfReady (a : Option Addr) (n cap : Nat) (ps : List Prc) (da : Option Addr) (dn dc : Nat) (done : List Bool) (w : World) (hr : RdP w a n ps) (hn : n ≤ 9223372036854775807) (hd : Rd w da dn 1 (bools done)) :
    Calls Tryz.prog 17 #[.agg #[.slice a n cap], .slice da dn dc] w (RetIs (grfReady ps done) w) := by
  have hl := hr.len
  have hdl := hd.lenB
  cases hB : prgOkB ps
  · have HC := Lib.hid (fun W (g : Grew w W) => readGraphNo a n cap ps W (hr.grew g) hn hB)
    have HE := Lib.hid (show grfReady ps done = [] from by
      have : grfParts ps = [] := by rw [grfParts, if_neg (by simp [hB])]
      simp only [grfReady, this, readyL, List.length_nil, List.range_zero, List.filter_nil, List.map_nil, ite_self])
    clear hB hr hl hd hdl
    go_enter Tryz.func17, Tryz.ntmps17
    go_wp2_with fail
    refine (HC.out _ (by repeat (first | with_reducible exact Below.refl _ _ | with_reducible assumption | with_reducible apply grew_ext | with_reducible apply grew_al | with_reducible apply grew_dn | with_reducible apply grew_d | (with_reducible refine grew_set ?_ (by first | omega | (repeat (first | with_reducible exact Nat.le_refl _ | with_reducible apply le_pl | with_reducible apply le_ext | with_reducible apply le_al))) _)))).mono ?_
    rintro e w1 ⟨rfl, g1⟩
    go_wp2
    go_ret
    rw [HE.out]
    exact retIs_nil (grew_tr (by repeat (first | with_reducible exact Below.refl _ _ | with_reducible assumption | with_reducible apply grew_ext | with_reducible apply grew_al | with_reducible apply grew_dn | with_reducible apply grew_d | (with_reducible refine grew_set ?_ (by first | omega | (repeat (first | with_reducible exact Nat.le_refl _ | with_reducible apply le_pl | with_reducible apply le_ext | with_reducible apply le_al))) _))) g1)
  · have HC := Lib.hid (fun W (g : Grew w W) => readGraphYes a n cap ps W (hr.grew g) hn hB)
    have hpt : grfParts ps = ptOf ps := by rw [grfParts, if_pos hB]
    have hbd := grfParts_bd ps
    rw [hpt] at hbd
    have h900 : (ptOf ps).length ≤ 900 := by omega
    by_cases hp : dn = (ptOf ps).length
    · have HE := Lib.hid (show grfReady ps done = readyL (cOf' (csOf ps)) (ptOf ps) done from by rw [grfReady, hpt, if_pos (by omega)])
      have HN := Lib.hid (fun gb W (g : Grew w W) (h : GrR W gb (csOf ps) (ptOf ps)) => implReady gb (csOf ps) (ptOf ps) da dn dc done W h (hd.grew g) hp hbd.1 hbd.2 (parts_in hB) (by rw [csOf_len]; exact (prg_len hB).2) (fun l hl => by
        obtain ⟨j, hj, rfl⟩ := List.mem_iff_getElem.1 hl
        have := cs_len hB (j : Int)
        simpa [cOf', hj] using this))
      obtain ⟨S, hS⟩ : ∃ S, ptOf ps = S := ⟨_, rfl⟩
      rw [hS] at HE HN HC hp h900
      subst hp
      have b1 : ((S.length : Int) != (S.length : Int)) = false := by simp
      clear hr hl hB hpt hbd hS hd hdl
      go_enter Tryz.func17, Tryz.ntmps17
      go_wp2_with fail
      refine (HC.out _ (by repeat (first | with_reducible exact Below.refl _ _ | with_reducible assumption | with_reducible apply grew_ext | with_reducible apply grew_al | with_reducible apply grew_dn | with_reducible apply grew_d | (with_reducible refine grew_set ?_ (by first | omega | (repeat (first | with_reducible exact Nat.le_refl _ | with_reducible apply le_pl | with_reducible apply le_ext | with_reducible apply le_al))) _)))).mono ?_
      rintro e w1 ⟨gb, rfl, hg, g1⟩
      have hrd := hg.rd
      obtain ⟨pa, pc, q2, -⟩ := hrd.p
      have HR := Lib.hid hrd
      have HG1 := Lib.hid (grew_tr (show Grew w (w.alloc (.cells #[.slice a n cap] 25)) from grew_al (Below.refl _ _) _) g1)
      clear hg g1 hrd
      go_wp2_with fail
      refine (HN.out gb _ HG1.out HR.out).mono ?_
      rintro e w2 ⟨A2, c2, rfl, o2, g2⟩
      have O2 := Lib.hid (owns_mono o2 HG1.out.size)
      have G2 := Lib.hid (grew_tr HG1.out g2)
      clear o2 g2
      go_wp2
      go_ret
      rw [HE.out]
      exact ⟨A2, c2, rfl, O2.out, G2.out⟩
    · have HE := Lib.hid (show grfReady ps done = [] from by rw [grfReady, hpt, if_neg (by omega)])
      obtain ⟨S, hS⟩ : ∃ S, ptOf ps = S := ⟨_, rfl⟩
      rw [hS] at HC hp h900
      have b1 : ((dn : Int) != (S.length : Int)) = true := by simp; omega
      clear hr hl hB hpt hbd hd hdl hS
      go_enter Tryz.func17, Tryz.ntmps17
      go_wp2_with fail
      refine (HC.out _ (by repeat (first | with_reducible exact Below.refl _ _ | with_reducible assumption | with_reducible apply grew_ext | with_reducible apply grew_al | with_reducible apply grew_dn | with_reducible apply grew_d | (with_reducible refine grew_set ?_ (by first | omega | (repeat (first | with_reducible exact Nat.le_refl _ | with_reducible apply le_pl | with_reducible apply le_ext | with_reducible apply le_al))) _)))).mono ?_
      rintro e w1 ⟨gb, rfl, hg, g1⟩
      obtain ⟨pa, pc, q2, -⟩ := hg.rd.p
      have HG1 := Lib.hid (grew_tr (show Grew w (w.alloc (.cells #[.slice a n cap] 25)) from grew_al (Below.refl _ _) _) g1)
      clear hg g1
      go_wp2
      go_ret
      rw [HE.out]
      exact retIs_nil HG1.out
end Go.Proofs.YtnjoofpllhbccaaGreat

/- What is ready, the reference's side. No condition. -/
namespace Go.Proofs.YtnjoofpllhbccaaGreat
open Go.RowKit
set_option linter.unusedVariables false
set_option linter.unusedSimpArgs false
attribute [local go_sem] ext_cell ext_frozen ext_lt ext_le ext_le1 lt_s2 lt_s3 lt_s4 lt_s5 lt_s6 ext_lt1 ext_lt2 ext_lt3

/-- Whether all of these are done. -/
def allD (done : List Bool) (zs : List Int) : Bool := zs.all fun m => done.getD m.toNat false
theorem allD_no {done : List Bool} {zs : List Int} {k : Nat} {m : Nat} (hx : zs[k]? = some (m : Int)) (h : done.getD m false = false) : allD done zs = false := by
  unfold allD
  rw [List.all_eq_false]
  exact ⟨_, List.mem_of_getElem? hx, by rw [Int.toNat_natCast, h]; simp⟩
theorem l6All (a : Option Addr) (n cap : Nat) (zs : List Int) (da : Option Addr) (dn dc : Nat) (done : List Bool) (w : World) (hr : Rd w a n 1 (ints .i64 zs)) (hn : n ≤ 1000) (hd : Rd w da dn 1 (bools done)) (hdn : dn ≤ 1000) (hb : ∀ y, y ∈ zs → 0 ≤ y ∧ y < dn) :
    Calls Tryz.prog 37 #[.slice a n cap, .slice da dn dc] w (RetT (allD done zs) w) := by
  have HL := Lib.hid hr.len1
  have HR := Lib.hid hr; clear hr
  have HD := Lib.hid hd; clear hd
  have HB := Lib.hid hb; clear hb
  go_enter Tryz.func37, Tryz.ntmps37
  go_wp2
  go_loop [5] (fun i => ∃ k : Nat, k ≤ n ∧ i = .int .i64 k ∧ ∀ y, y ∈ zs.take k → done.getD y.toNat false = true) (fun i => n - (Go.RowKit.intOf i).toNat)
  case atStart => exact ⟨0, Nat.zero_le _, rfl, by simp⟩
  case round =>
    obtain ⟨k, hk, rfl, hall⟩ := hrel
    have HA := Lib.hid hall; clear hall
    by_cases hlt : k < n
    · obtain ⟨b, off, z0, rfl, hx, c0⟩ := HR.out.at1 hlt
      obtain ⟨hz0, hz1⟩ := HB.out z0 (List.mem_of_getElem? hx)
      obtain ⟨m, rfl⟩ := Int.eq_ofNat_of_zero_le hz0
      have HX := Lib.hid hx; clear hx
      obtain ⟨b2, off2, x, rfl, hx2, c2⟩ := HD.out.atB (i := m) (by omega)
      have HXG := Lib.hid (show done.getD m false = x from by simp [hx2])
      clear hx2
      cases x
      · go_wp2
        go_ret
        exact ⟨by rw [allD_no HX.out HXG.out]; rfl, rfl⟩
      · go_wp2
        go_round
        case rel =>
          refine ⟨k + 1, by omega, by go_num, fun y hy => ?_⟩
          rw [take_get HX.out] at hy
          rcases List.mem_append.1 hy with hy | hy
          · exact HA.out y hy
          · rw [List.mem_singleton.1 hy]
            exact HXG.out
        case measure => simp [Go.RowKit.intOf]; omega
    · go_wp2
      go_ret
      refine ⟨?_, rfl⟩
      have h := HA.out
      rw [List.take_of_length_le (by have := HL.out; omega)] at h
      rw [show allD done zs = true from List.all_eq_true.2 h]
      rfl

/-- One number is put behind a row; what changes. -/
theorem appOneC {W : World} {B : Nat} {vs : List Int} {n : Nat} {a1 : Option Addr} {c1 : Nat} (z : Int) (h1 : W.ownsRow B 3 1 (.slice a1 n c1) n (ints .i64 vs)) (h2 : n ≤ 1048580) (h3 : B ≤ W.heap.size) :
    ∃ a2 c2 W2, (Builtin.append_ #[28, 28] 28 #[.slice a1 n c1, .slice (some ⟨W.heap.size, 0, none⟩) 1 1]).run Tryz.prog (W.alloc (.cells #[.int .i64 z] 3)) = .ok (.slice a2 (n + 1) c2) W2 ∧ W2.ownsRow B 3 1 (.slice a2 (n + 1) c2) (n + 1) (ints .i64 (vs ++ [z])) ∧ Chg (fun b => (Value.slice a1 n c1).ownBlock = some b) W W2 ∧ ((Value.slice a2 (n + 1) c2).ownBlock = (Value.slice a1 n c1).ownBlock ∨ (Value.slice a2 (n + 1) c2).ownBlock = some (W.heap.size + 1)) := by
  obtain ⟨v3, w3, hrun3, o3, g3, hv⟩ := owns_append_lit (P := Tryz.prog) W intEl h1 1 [.int .i64 z] rfl (by simp [Value.oneCell']) (by omega) (by omega) h3
  obtain ⟨a2, c2, rfl⟩ := owns_slice o3
  exact ⟨a2, c2, w3, hrun3, by rw [ints_append]; exact o3, Chg.of_grownBy g3, hv⟩

set_option maxRecDepth 100000 in
set_option maxHeartbeats 4000000 in
theorem specGrfReady (a : Option Addr) (n cap : Nat) (ps : List Prc) (da : Option Addr) (dn dc : Nat) (done : List Bool) (w : World) (hr : RdP w a n ps) (hn : n ≤ 9223372036854775807) (hd : Rd w da dn 1 (bools done)) :
    Calls Tryz.prog 18 #[.agg #[.slice a n cap], .slice da dn dc] w (RetIs (grfReady ps done) w) := by
  have hl := hr.len
  have hdl := hd.lenB
  have HC := Lib.hid (fun W (g : Grew w W) => specGrfParts a n cap ps W (hr.grew g) hn)
  have h4 := (grfParts_bd ps).1
  by_cases hp : dn = (grfParts ps).length
  · have HE := Lib.hid (show grfReady ps done = readyL (cOf' (csOf ps)) (grfParts ps) done from by rw [grfReady, if_pos (by omega)])
    have HN := Lib.hid (fun (m : Nat) (hm : m < (grfParts ps).length) (pa : Option Addr) (pc : Nat) (W : World) (g : Grew w W) (hpr : RdLL W pa (grfParts ps).length (grfParts ps)) => by
      have hB := (parts_ok (by omega : 0 < (grfParts ps).length)).1
      have hpe := (parts_ok (by omega : 0 < (grfParts ps).length)).2
      have hok := gok_of hB
      have hn0 : 0 < (csOf ps).length := by rw [csOf_len]; have := prg_len hB; omega
      have h := l6Needs a n cap ps pa (grfParts ps).length pc (grfParts ps) m W (hr.grew g) hn hB hpr hm h4 (grfParts_bd ps).2 (by
        have h := parts_in hB
        rw [csOf_len, hl] at h
        rw [grfParts, if_pos hB]
        exact h)
      have he : needsS (cOf' (csOf ps)) (grfParts ps) m = needsI (cOf' (csOf ps)) (grfParts ps) m := by
        rw [hpe]
        exact needs_eq hok hn0 (by rw [← hpe]; exact hm)
      rw [he] at h
      exact h)
    have HNB := Lib.hid (fun k => needsI_bd (cOf' (csOf ps)) (grfParts ps) k)
    have HNL := Lib.hid (fun k => needsI_len (cOf' (csOf ps)) (grfParts ps) k)
    obtain ⟨c, hcc⟩ : ∃ c, cOf' (csOf ps) = c := ⟨_, rfl⟩
    obtain ⟨S, hS⟩ : ∃ S, grfParts ps = S := ⟨_, rfl⟩
    rw [hcc] at HE HN HNB HNL
    rw [hS] at HE HN HC hp h4 HNB HNL
    have HMe := Lib.hid (fun k => show metB c S done k = allD done (needsI c S k) from rfl)
    subst hp
    have HD := Lib.hid hd
    have b1 : ((S.length : Int) != (S.length : Int)) = false := by simp
    clear hr hl hS hcc hd hdl
    go_enter Tryz.func18, Tryz.ntmps18
    go_wp2_with fail
    refine (HC.out _ (by repeat (first | with_reducible exact Below.refl _ _ | with_reducible assumption | with_reducible apply grew_ext | with_reducible apply grew_al | with_reducible apply grew_dn | with_reducible apply grew_d | (with_reducible refine grew_set ?_ (by first | omega | (repeat (first | with_reducible exact Nat.le_refl _ | with_reducible apply le_pl | with_reducible apply le_ext | with_reducible apply le_al))) _)))).mono ?_
    rintro e w1 ⟨pa, pc, ms, rfl, o1, hms, g1⟩
    have hGw1 : Grew w w1 := grew_tr (by repeat (first | with_reducible exact Below.refl _ _ | with_reducible assumption | with_reducible apply grew_ext | with_reducible apply grew_al | with_reducible apply grew_dn | with_reducible apply grew_d | (with_reducible refine grew_set ?_ (by first | omega | (repeat (first | with_reducible exact Nat.le_refl _ | with_reducible apply le_pl | with_reducible apply le_ext | with_reducible apply le_al))) _))) g1
    have hB1 : Blk w1 w.heap.size 25 #[.slice a n cap] := ((Blk.new w _ _).alloc _).grew g1
    have HO1 := Lib.hid (OwnLN.of o1)
    have HMS := Lib.hid hms
    have H0 := Lib.hid (show w1.ownsRow (w.heap.size + 1) 3 1 (.slice (some ⟨w.heap.size + 1, 0, none⟩) 0 0) 0 (ints .i64 []) from owns_grew (by
      simpa [ints] using World.ownsRow_lit (w.alloc (.cells #[.slice a n cap] 25)) (e := 3) (size := 1) #[] 0 (base := w.heap.size + 1) (by simp) (Nat.zero_le _) rfl) g1)
    have HG1 := Lib.hid hGw1
    have HB1 := Lib.hid hB1
    have hs1 := g1.size
    simp only [World.size_alloc] at hs1
    clear o1 hms g1 hGw1 hB1
    go_wp2
    go_loopw [5, 7] (fun v i wr => ∃ m : Nat, m ≤ S.length ∧ i = .int .i64 m ∧ Chg (fun b => b = w.heap.size + 1) w1 wr ∧ wr.ownsRow (w.heap.size + 1) 3 1 v (readyN c S done m).length (ints .i64 (readyN c S done m)) ∧ ∀ b, v.ownBlock = some b → b = w.heap.size + 1 ∨ w1.heap.size ≤ b) (fun _ i _ => S.length - (Go.RowKit.intOf i).toNat)
    case atStart => exact ⟨0, Nat.zero_le _, rfl, Chg.refl _ _, H0.out, fun b hb => .inl (by simpa [Value.ownBlock, eq_comm] using hb)⟩
    case round =>
      clear H0
      obtain ⟨m, hm, rfl, hc, ho, hob⟩ := hrel
      have hnl := readyN_len c S done m
      obtain ⟨oa, oc, rfl⟩ := owns_slice ho
      have hGw : Grew w wr := HG1.out.trans (hc.belowB HG1.out.size (fun k e => by omega))
      have hsz := hGw.size
      have hsz1 := hc.size
      have hb0 : wr.cell? ⟨w.heap.size, 0, none⟩ = some (.slice a n cap) := (HB1.out.chg hc (by omega)).cell 0
      by_cases hlt : m < S.length
      · obtain ⟨b, off, x, rfl, hx, hcell⟩ := (HD.out.grew hGw).atB (i := m) (by omega)
        have hxg : done.getD m false = x := by simp [hx]
        have HO := Lib.hid ho
        have HC1 := Lib.hid hc
        have HOB := Lib.hid hob
        cases x
        · have HNm := Lib.hid (HN.out m hlt pa pc wr hGw ((HO1.out.chg hc (fun b h1 h2 e => by simp only [World.size_alloc] at h1; omega)).rd HMS.out))
          have hnb := HNB.out m
          have hnm := HNL.out m
          have HDg := Lib.hid (HD.out.grew hGw)
          have hme := HMe.out m
          obtain ⟨L, hL⟩ : ∃ L, needsI c S m = L := ⟨_, rfl⟩
          rw [hL] at HNm hnb hnm hme
          have HNb := Lib.hid hnb
          have HGw := Lib.hid hGw
          cases hmb : metB c S done m
          · have HF := Lib.hid (readyN_no (c := c) (parts := S) (done := done) (i := m) (by rw [hxg, hmb]; rfl))
            rw [hmb] at hme
            have HME := Lib.hid hme.symm
            clear hx ho hc hob hmb hxg hL hme hnb hGw
            go_wp2_with fail
            refine HNm.out.mono ?_
            rintro e w2 ⟨A2, c2, rfl, o2, g2⟩
            have C := Lib.hid (l6All A2 L.length c2 L _ S.length dc done w2 (owns_rd o2) (by omega) (HDg.out.grew g2) (by omega) (fun y hy => by have := HNb.out y hy; omega))
            rw [HME.out] at C
            have HC2 := Lib.hid (HC1.out.trans (Chg.of_below (F := fun _ => False) g2) (fun _ _ h => h) (fun _ _ h => absurd h id))
            have HO2 := Lib.hid (owns_grew HO.out g2)
            clear o2 g2 hcell hb0
            go_wp2_with fail
            refine C.out.mono ?_
            rintro e w3 ⟨rfl, rfl⟩
            go_wp2
            go_roundw
            case rel => exact ⟨m + 1, by omega, by go_num, HC2.out, by rw [HF.out]; exact HO2.out, HOB.out⟩
            case measure => simp [Go.RowKit.intOf]; omega
          · have HF := Lib.hid (readyN_yes (c := c) (parts := S) (done := done) (i := m) (by rw [hxg, hmb]; rfl))
            rw [hmb] at hme
            have HME := Lib.hid hme.symm
            clear hx ho hc hob hmb hxg hL hme hnb hGw
            go_wp2_with fail
            refine HNm.out.mono ?_
            rintro e w2 ⟨A2, c2, rfl, o2, g2⟩
            have C := Lib.hid (l6All A2 L.length c2 L _ S.length dc done w2 (owns_rd o2) (by omega) (HDg.out.grew g2) (by omega) (fun y hy => by have := HNb.out y hy; omega))
            rw [HME.out] at C
            have HC2 := Lib.hid (HC1.out.trans (Chg.of_below (F := fun _ => False) g2) (fun _ _ h => h) (fun _ _ h => absurd h id))
            have HO2 := Lib.hid (owns_grew HO.out g2)
            have hs2 := g2.size
            clear o2 g2 hcell hb0
            obtain ⟨a2, c3, w4, r3, o3, k3, v3⟩ := appOneC (m : Int) HO2.out (by omega) (by omega)
            have R3 := Lib.hid r3
            have O3 := Lib.hid o3
            have HC3 := Lib.hid (HC2.out.trans k3 (fun _ _ h => h) (fun i hi e => by have := HOB.out i e; omega))
            have HV3 := Lib.hid (fun b (hb : (Value.slice a2 ((readyN c S done m).length + 1) c3).ownBlock = some b) => show b = w.heap.size + 1 ∨ w1.heap.size ≤ b from by
              rcases v3 with h | h
              · rw [h] at hb
                exact HOB.out b hb
              · rw [h, Option.some.injEq] at hb
                omega)
            clear r3 o3 k3 v3
            go_wp2_with fail
            refine C.out.mono ?_
            rintro e w3 ⟨rfl, rfl⟩
            go_wp2_with (at_builtin; refine wpList_append_run rfl _ _ rfl rfl rfl rfl R3.out ?_; clear R3)
            go_roundw
            case rel => exact ⟨m + 1, by omega, by go_num, HC3.out, by rw [HF.out, List.length_append]; exact O3.out, HV3.out⟩
            case measure => simp [Go.RowKit.intOf]; omega
        · have HF := Lib.hid (readyN_no (c := c) (parts := S) (done := done) (i := m) (by rw [hxg]; rfl))
          clear hx ho hc hob hxg hb0 hGw
          go_wp2
          go_roundw
          case rel => exact ⟨m + 1, by omega, by go_num, HC1.out, by rw [HF.out]; exact HO.out, HOB.out⟩
          case measure => simp [Go.RowKit.intOf]; omega
      · obtain rfl : m = S.length := by omega
        rw [readyN_all] at ho hnl
        have HO := Lib.hid ho
        have HG := Lib.hid hGw
        clear ho hc hob hb0 hGw
        go_wp2
        go_ret
        rw [HE.out]
        exact ⟨oa, oc, rfl, owns_mono HO.out (by omega), HG.out⟩
  · have HE := Lib.hid (show grfReady ps done = [] from by rw [grfReady, if_neg (by omega)])
    obtain ⟨S, hS⟩ : ∃ S, grfParts ps = S := ⟨_, rfl⟩
    rw [hS] at HC h4 hp
    have b1 : ((dn : Int) != (S.length : Int)) = true := by simp; omega
    clear hr hl hS hd hdl
    go_enter Tryz.func18, Tryz.ntmps18
    go_wp2_with fail
    refine (HC.out _ (by repeat (first | with_reducible exact Below.refl _ _ | with_reducible assumption | with_reducible apply grew_ext | with_reducible apply grew_al | with_reducible apply grew_dn | with_reducible apply grew_d | (with_reducible refine grew_set ?_ (by first | omega | (repeat (first | with_reducible exact Nat.le_refl _ | with_reducible apply le_pl | with_reducible apply le_ext | with_reducible apply le_al))) _)))).mono ?_
    rintro e w1 ⟨pa, pc, ms, rfl, o1, hms, g1⟩
    have H0 := Lib.hid (show w1.ownsRow w.heap.size 3 1 (.slice (some ⟨w.heap.size + 1, 0, none⟩) 0 0) 0 (ints .i64 []) from owns_grew (by
      simpa [ints] using World.ownsRow_lit (w.alloc (.cells #[.slice a n cap] 25)) (e := 3) (size := 1) #[] 0 (base := w.heap.size) (by simp) (Nat.zero_le _) rfl) g1)
    have HG := Lib.hid (show Grew w w1 from grew_tr (by repeat (first | with_reducible exact Below.refl _ _ | with_reducible assumption | with_reducible apply grew_ext | with_reducible apply grew_al | with_reducible apply grew_dn | with_reducible apply grew_d | (with_reducible refine grew_set ?_ (by first | omega | (repeat (first | with_reducible exact Nat.le_refl _ | with_reducible apply le_pl | with_reducible apply le_ext | with_reducible apply le_al))) _))) g1)
    clear o1 hms g1
    go_wp2
    go_ret
    rw [HE.out]
    exact ⟨_, _, rfl, H0.out, HG.out⟩
end Go.Proofs.YtnjoofpllhbccaaGreat
