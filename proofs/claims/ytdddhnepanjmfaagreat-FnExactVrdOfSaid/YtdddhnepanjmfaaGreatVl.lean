/- Lemmas and walks of this proof, some texts one behind the other. No condition. -/
import Derived.Test.YtdddhnepanjmfaaGreatVj
import Derived.StillTailTactics
set_option linter.unusedSimpArgs false
set_option linter.unusedVariables false
/- The places of a certificate, and the step at a place. No condition. -/
namespace Go.Proofs.YtdddhnepanjmfaaGreat
open Go.RowKit
set_option linter.unusedVariables false
set_option linter.unusedSimpArgs false
attribute [local go_sem] ext_cell ext_frozen ext_lt ext_le ext_le1 lt_s2 lt_s3 lt_s4 lt_s5 lt_s6 ext_lt1 ext_lt2 ext_lt3

theorem body_letV {P : Program} {f : Func} {Q : Ending → World → Prop} {x : Exit} {a : Act} {W : World} (h : ∀ E, E = W → bodyPost P f Q x a E) : bodyPost P f Q x a W := h W rfl
theorem siteInfo : (Tryz.prog.info? 62).map (fun i => (i.zero, i.size, i.bytes)) = some (some (.agg #[.int .i64 0, .int .i64 0]), 2, 16) := by kernel_rfl
theorem siteEl : El Tryz.prog 28 62 (.agg #[.int .i64 0, .int .i64 0]) 2 16 := El.mk' siteInfo Tryz.underlying28 rfl (by omega)
theorem sit_one (ss : List Site) : ∀ u ∈ ss.flatMap sitC, u.oneCell' = true := by
  intro u hu
  obtain ⟨s, _, hs⟩ := List.mem_flatMap.1 hu
  simp only [sitC, List.mem_cons, List.not_mem_nil, or_false] at hs
  rcases hs with rfl | rfl <;> rfl
/-- The first j places of a procedure. -/
def rowS (p : Int) : Nat → List Site
  | 0 => []
  | j + 1 => rowS p j ++ [⟨p, j⟩]
theorem rowS_len (p : Int) : ∀ j, (rowS p j).length = j
  | 0 => rfl
  | j + 1 => by rw [rowS, List.length_append, rowS_len p j]; rfl
/-- The places of the first k procedures. -/
def siteK (ps : List Prc) (part : List Int) : Nat → List Site
  | 0 => []
  | k + 1 => siteK ps part k ++ (match part[k]? with
    | some p => rowS p (codeOfP ps p).length
    | none => [])
theorem siteK_succ {ps : List Prc} {part : List Int} {k : Nat} {p : Int} (h : part[k]? = some p) : siteK ps part (k + 1) = siteK ps part k ++ rowS p (codeOfP ps p).length := by rw [siteK, h]
theorem codeOfP_le {ps : List Prc} (h : prgOkB ps = true) (p : Int) : (codeOfP ps p).length ≤ 10 := by
  unfold codeOfP
  cases hp : ps[p.toNat]? with
  | none => simp
  | some c => exact (prg_code h (List.mem_of_getElem? hp)).2.1
theorem siteK_le {ps : List Prc} (h : prgOkB ps = true) (part : List Int) : ∀ k, (siteK ps part k).length ≤ 10 * k
  | 0 => by simp [siteK]
  | k + 1 => by
    have := siteK_le h part k
    rw [siteK, List.length_append]
    cases hp : part[k]? with
    | none => simp; omega
    | some p =>
      simp only [rowS_len]
      have := codeOfP_le h p
      omega
/-- Places in a row of the call's own. -/
def RetSit (S : List Site) (w : World) (e : Ending) (w' : World) : Prop := ∃ a c, e = .returned (.slice a S.length c) ∧ w'.ownsRow w.heap.size 62 2 (.slice a S.length c) S.length (S.flatMap sitC) ∧ Grew w w'
/-- A place more behind a row. -/
theorem site_more {w wr : World} {S : List Site} {a : Option Addr} {M cp : Nat} (ho : wr.ownsRow w.heap.size 62 2 (.slice a M cp) M (S.flatMap sitC)) (hM : M ≤ 1000000) (hg : Grew w wr) (p q : Int) :
    ∃ (a2 : Option Addr) (cp2 : Nat) (W : World), (Builtin.append_ #[28, 28] 28 #[.slice a M cp, .slice (some ⟨wr.heap.size, 0, none⟩) 1 1]).run Tryz.prog (wr.alloc (.cells #[.int .i64 p, .int .i64 q] 62)) = .ok (.slice a2 (M + 1) cp2) W ∧
      W.ownsRow w.heap.size 62 2 (.slice a2 (M + 1) cp2) (M + 1) ((S ++ [(⟨p, q⟩ : Site)]).flatMap sitC) ∧ Grew w W := by
  obtain ⟨v', W, hrun, o5, g5, -⟩ := owns_append_lit (P := Tryz.prog) wr siteEl ho 1 [.int .i64 p, .int .i64 q] rfl (by simp [Value.oneCell']) (by omega) (by omega) hg.size
  obtain ⟨a2, cp2, rfl⟩ := owns_slice o5
  exact ⟨a2, cp2, W, hrun, by rw [List.flatMap_append, List.flatMap_cons, List.flatMap_nil, List.append_nil]; exact o5, hg.trans ((Chg.of_grownBy g5).belowB hg.size (fun b hb => (ho.lt b hb).1))⟩

set_option maxRecDepth 100000 in
set_option maxHeartbeats 4000000 in
theorem sitesT (a : Option Addr) (n cap : Nat) (ps : List Prc) (ta : Option Addr) (tn tc : Nat) (part : List Int) (L : List (Site × St)) (gc : Nat) (w : World) (h : CertI a n cap ta tn tc L gc w) (hr : RdP w a n ps) (hok : prgOkB ps = true) (ht : Rd w ta tn 1 (ints .i64 part)) (htn : tn ≤ 1000)
    (hb : ∀ x, x ∈ part → 0 ≤ x ∧ x < n) :
    Calls Tryz.prog 100 #[.pointer (some ⟨gc, 0, none⟩)] w (RetSit (siteK ps part tn) w) := by
  obtain ⟨gs, go, ks, hbc, -, -⟩ := h
  have HBc := Lib.hid hbc
  have HR := Lib.hid hr
  have HT := Lib.hid ht
  have HBd := Lib.hid hb
  have HOk := Lib.hid hok
  have HTl := Lib.hid (show part.length = tn by have := ht.1; simpa [ints] using this)
  clear hbc hr ht hb hok
  have z0 := HBc.out.cell 0
  have z1 := HBc.out.cell 1
  have zl := HBc.out.lt
  simp only [List.getElem?_toArray, List.getElem?_cons_zero, List.getElem?_cons_succ] at z0 z1
  go_enter Tryz.func100, Tryz.ntmps100
  go_wp2
  clear z0 z1 zl
  go_loopw [3, 12] (fun out i wr => ∃ k : Nat, k ≤ tn ∧ i = .int .i64 k ∧ Grew w wr ∧ ∃ (M : Nat) (a1 : Option Addr) (cp : Nat), out = .slice a1 M cp ∧ M = (siteK ps part k).length ∧ wr.ownsRow w.heap.size 62 2 (.slice a1 M cp) M ((siteK ps part k).flatMap sitC)) (fun _ i _ => tn - (Go.RowKit.intOf i).toNat)
  case atStart => exact ⟨0, Nat.zero_le _, rfl, Below.refl _ _, 0, none, 0, rfl, rfl, World.ownsRow_nil _ _ _ _⟩
  case round =>
    obtain ⟨k, hk, rfl, hg, M, a1, cp, rfl, hM, hO⟩ := hrel
    have HG := Lib.hid hg
    have HO := Lib.hid hO
    have HM := Lib.hid hM
    have hMs : M ≤ 10000 := by have := siteK_le HOk.out part k; omega
    clear hg hO hM
    by_cases hlt : k < tn
    · obtain ⟨bt, ot, p, rfl, hp, t0⟩ := part_at HT.out hlt
      obtain ⟨hp0, hp1⟩ := HBd.out p (List.mem_of_getElem? hp)
      obtain ⟨P, rfl⟩ : ∃ P : Nat, p = P := ⟨p.toNat, by omega⟩
      obtain ⟨bp, op, plo, phi, is, ia, ic, rfl, hps, p0, p1, p2, hbp, hi1, hi2, hi3⟩ := rdP_at HR.out (show P < n by omega)
      have hcode : codeOfP ps P = is := by unfold codeOfP; rw [Int.toNat_natCast, hps]
      have hil10 := codeOfP_le HOk.out P
      rw [hcode] at hil10
      obtain ⟨il, hil⟩ : ∃ x, is.length = x := ⟨_, rfl⟩
      rw [hil] at p2 hil10
      have HSu := Lib.hid (show siteK ps part (k + 1) = siteK ps part k ++ rowS P il by rw [siteK_succ hp, hcode, hil])
      have hPn : (P : Int) < n := hp1
      have z0 := gk HG.out (HBc.out.cell 0)
      have z1 := gk HG.out (HBc.out.cell 1)
      have zl : gc < wr.heap.size := Nat.lt_of_lt_of_le HBc.out.lt HG.out.size
      have lp : bp < wr.heap.size := Nat.lt_of_lt_of_le hbp HG.out.size
      have q0 := gk HG.out t0
      have q2 := gk HG.out p2
      clear t0 p0 p1 p2 hp hps hi1 hi2 hi3 hcode hil hp0 hp1 hbp
      go_wp2
      go_loopw [3, 26] (fun out i wq => ∃ j : Nat, j ≤ il ∧ i = .int .i64 j ∧ Grew w wq ∧ ∃ (M : Nat) (a1 : Option Addr) (cp : Nat), out = .slice a1 M cp ∧ M = (siteK ps part k ++ rowS P j).length ∧ wq.ownsRow w.heap.size 62 2 (.slice a1 M cp) M ((siteK ps part k ++ rowS P j).flatMap sitC)) (fun _ i _ => il - (Go.RowKit.intOf i).toNat)
      case atStart => exact ⟨0, Nat.zero_le _, rfl, HG.out, M, a1, cp, rfl, by simpa [rowS] using HM.out, by simpa [rowS] using HO.out⟩
      case round =>
        clear HM HO z0 z1 zl lp q0 q2
        obtain ⟨j, hj, rfl, hg, M2, a2, cp2, rfl, hM2, hO2⟩ := hrel
        have HG2 := Lib.hid hg
        have HO2 := Lib.hid hO2
        have HM2 := Lib.hid hM2
        have hM2s : M2 ≤ 20000 := by
          have := siteK_le HOk.out part k
          rw [hM2, List.length_append, rowS_len]
          omega
        clear hg hO2 hM2
        by_cases hlj : j < il
        · obtain ⟨a3, cp3, W, hrun, o3, g3⟩ := site_more HO2.out (by omega) HG2.out P j
          have HRU := Lib.hid hrun
          have HO3 := Lib.hid o3
          have HG3 := Lib.hid g3
          clear hrun o3 g3
          go_wp2_with (at_builtin; refine wpList_append_run rfl _ _ rfl rfl rfl rfl HRU.out ?_)
          clear HRU
          go_roundw
          case rel => exact ⟨j + 1, by omega, by go_num, HG3.out, M2 + 1, a3, cp3, rfl, by rw [rowS, ← List.append_assoc, List.length_append, ← HM2.out]; rfl, by rw [rowS, ← List.append_assoc]; exact HO3.out⟩
          case measure => simp [Go.RowKit.intOf]; omega
        · obtain rfl : j = il := by omega
          go_wp2
          go_roundw
          case rel => exact ⟨k + 1, by omega, by go_num, HG2.out, M2, a2, cp2, rfl, by rw [HSu.out]; exact HM2.out, by rw [HSu.out]; exact HO2.out⟩
          case measure => simp [Go.RowKit.intOf]; omega
    · obtain rfl : k = tn := by omega
      go_wp2
      go_ret
      refine ⟨a1, cp, by rw [← HM.out]; rfl, by rw [← HM.out]; exact HO.out, HG.out⟩

set_option maxRecDepth 100000 in
set_option maxHeartbeats 4000000 in
theorem insT (a : Option Addr) (n cap : Nat) (ps : List Prc) (ta : Option Addr) (tn tc : Nat) (L : List (Site × St)) (gc : Nat) (w : World) (h : CertI a n cap ta tn tc L gc w) (hr : RdP w a n ps) (P j : Nat) (hP : P < n) (i : Ins) (hi : (codeOfP ps P)[j]? = some i) :
    Calls Tryz.prog 102 #[.pointer (some ⟨gc, 0, none⟩), .agg #[.int .i64 P, .int .i64 j]] w fun e w' => e = .returned i.v ∧ Grew w w' := by
  obtain ⟨gs, go, ks, hbc, -, -⟩ := h
  obtain ⟨bp, op, plo, phi, is, ia, ic, rfl, hps, p0, p1, p2, hbp, hi1, hi2, hi3⟩ := rdP_at hr hP
  have hcode : codeOfP ps P = is := by unfold codeOfP; rw [Int.toNat_natCast, hps]
  rw [hcode] at hi
  have hj := (List.getElem?_eq_some_iff.1 hi).1
  obtain ⟨d, of, o, dd, ja, jb, rel, lo2, hi2', tv, rfl, hy, e0, e1, e2, e3, e4, e5, e6, e7, he⟩ := rdI_at hi1 hj
  rw [hi] at hy
  obtain rfl := Option.some.inj hy
  obtain ⟨il, hil⟩ : ∃ x, is.length = x := ⟨_, rfl⟩
  rw [hil] at p2 hj
  have hPn : (P : Int) < n := by omega
  have z0 := hbc.cell 0
  have zl := hbc.lt
  simp only [List.getElem?_toArray, List.getElem?_cons_zero] at z0
  have HZ := Lib.hid ((Blk.new (w.alloc (.cells #[.int .i64 P, .int .i64 j] 62)) 103 #[.int .i64 0, .int .i64 0, .int .i64 0, .int .i64 0, .int .i64 0, .int .i64 0, .int .i64 0, .int .i64 0]))
  have g2 : Grew w ((w.alloc (.cells #[.int .i64 P, .int .i64 j] 62)).alloc (.cells #[.int .i64 0, .int .i64 0, .int .i64 0, .int .i64 0, .int .i64 0, .int .i64 0, .int .i64 0, .int .i64 0] 103)) := grew_al (grew_al (Below.refl _ w) _) _
  clear hbc hr hi hps p0 p1 hi1 hi2 hi3 hcode hil hy
  go_enter Tryz.func102, Tryz.ntmps102
  go_wp2_with fail
  refine wp_letV ?_
  intro E hE
  rw [← hE] at HZ g2
  have HG := Lib.hid g2
  have k0 := gk g2 z0
  have kl := Nat.lt_of_lt_of_le zl g2.size
  have kp := gk g2 p2
  have kpl := Nat.lt_of_lt_of_le hbp g2.size
  have b0 := gk g2 e0
  have b1 := gk g2 e1
  have b2 := gk g2 e2
  have b3 := gk g2 e3
  have b4 := gk g2 e4
  have b5 := gk g2 e5
  have b6 := gk g2 e6
  have b7 := gk g2 e7
  have bl := Nat.lt_of_lt_of_le he g2.size
  have s0 : E.cell? ⟨w.heap.size, 0, none⟩ = some (.int .i64 P) := by rw [hE]; exact ((Blk.new w 62 #[.int .i64 P, .int .i64 j]).alloc _).cell 0
  have s1 : E.cell? ⟨w.heap.size, 1, none⟩ = some (.int .i64 j) := by rw [hE]; exact ((Blk.new w 62 #[.int .i64 P, .int .i64 j]).alloc _).cell 1
  have sl : w.heap.size < E.heap.size := by rw [hE]; simp; omega
  clear hE g2 z0 zl p2 hbp e0 e1 e2 e3 e4 e5 e6 e7 he
  simp only [World.size_alloc] at HZ
  have zf := fun q => HZ.out.frozen q
  have zz := HZ.out.lt
  have z := fun q => HZ.out.cell q
  have y0 := z 0
  have y1 := z 1
  have y2 := z 2
  have y3 := z 3
  have y4 := z 4
  have y5 := z 5
  have y6 := z 6
  have y7 := z 7
  simp only [List.getElem?_toArray, List.getElem?_cons_zero, List.getElem?_cons_succ] at y0 y1 y2 y3 y4 y5 y6 y7
  clear z
  refine wp_region_still_tail 14 (by kernel_rfl) (by kernel_rfl) ?_
  simp only [List.take_succ_cons, List.take_zero, List.drop_succ_cons, List.drop_zero]
  repeat still_step
  change wpList _ _ _ _ _ E.drew
  have zf2 := fun q => (HZ.out.grew (grew_d (Below.refl _ E))).frozen q
  have zz2 := (HZ.out.grew (grew_d (Below.refl _ E))).lt
  have x := fun q => (HZ.out.grew (grew_d (Below.refl _ E))).cell q
  have x0 := x 0
  have x1 := x 1
  have x2 := x 2
  have x3 := x 3
  have x4 := x 4
  have x5 := x 5
  have x6 := x 6
  have x7 := x 7
  simp only [List.getElem?_toArray, List.getElem?_cons_zero, List.getElem?_cons_succ] at x0 x1 x2 x3 x4 x5 x6 x7
  clear x
  go_wp2
  refine body_letV ?_
  intro F hF
  have HF := (show Blk F (w.heap.size + 1) 103 #[.int .i64 o, .int .i64 dd, .int .i64 ja, .int .i64 jb, .int .i64 rel, .int .i64 lo2, .int .i64 hi2', .int .i64 tv] by
    rw [hF]
    exact ((((((((HZ.out.set_ 0 (.int .i64 o)).set_ 1 (.int .i64 dd)).set_ 2 (.int .i64 ja)).set_ 3 (.int .i64 jb)).set_ 4 (.int .i64 rel)).set_ 5 (.int .i64 lo2)).set_ 6 (.int .i64 hi2')).set_ 7 (.int .i64 tv)).grew (grew_d (Below.refl _ _)))
  have HGF := (show Grew w F by
    rw [hF]
    refine grew_d ?_
    iterate 8 refine grew_set ?_ (by omega) _
    exact HG.out)
  clear hF
  have k := fun q => HF.cell q
  have k0 := k 0
  have k1 := k 1
  have k2 := k 2
  have k3 := k 3
  have k4 := k 4
  have k5 := k 5
  have k6 := k 6
  have k7 := k 7
  simp only [List.getElem?_toArray, List.getElem?_cons_zero, List.getElem?_cons_succ] at k0 k1 k2 k3 k4 k5 k6 k7
  have kl := HF.lt
  refine bodyPost_ret (by simp [results, Tryz.results102, go_sem, k0, k1, k2, k3, k4, k5, k6, k7, kl]; try rfl) rfl ?_
  exact ⟨rfl, HGF⟩
end Go.Proofs.YtdddhnepanjmfaaGreat

/- The places at which a certificate may fail: the program's walk. No condition. -/
namespace Go.Proofs.YtdddhnepanjmfaaGreat
open Go.RowKit
set_option linter.unusedVariables false
set_option linter.unusedSimpArgs false
attribute [local go_sem] ext_cell ext_frozen ext_lt ext_le ext_le1 lt_s2 lt_s3 lt_s4 lt_s5 lt_s6 ext_lt1 ext_lt2 ext_lt3

theorem site_get {w : World} {a : Option Addr} {n : Nat} {S : List Site} (h : Rd w a n 2 (S.flatMap sitC)) {m : Nat} {s : Site} (hs : S[m]? = some s) :
    ∃ b off, a = some ⟨b, off, none⟩ ∧ w.cell? ⟨b, off + m * 2, none⟩ = some (.int .i64 s.proc) ∧ w.cell? ⟨b, off + m * 2 + 1, none⟩ = some (.int .i64 s.pc) := by
  have hf : ∀ (S : List Site) (m : Nat), S[m]? = some s → (S.flatMap sitC)[m * 2]? = some (.int .i64 s.proc) ∧ (S.flatMap sitC)[m * 2 + 1]? = some (.int .i64 s.pc) := by
    intro S
    induction S with
    | nil => intro m h; simp at h
    | cons x r ih =>
      intro m h
      cases m with
      | zero =>
        simp only [List.getElem?_cons_zero, Option.some.injEq] at h
        subst h
        exact ⟨rfl, rfl⟩
      | succ m =>
        simp only [List.getElem?_cons_succ] at h
        have := ih m h
        rw [List.flatMap_cons, show (m + 1) * 2 = m * 2 + 2 by omega]
        refine ⟨?_, ?_⟩
        · rw [List.getElem?_append_right (by simp [sit_len])]
          simpa [sit_len] using this.1
        · rw [List.getElem?_append_right (by simp [sit_len])]
          simpa [sit_len] using this.2
  obtain ⟨f0, f1⟩ := hf S m hs
  obtain ⟨h1, h2⟩ := h
  rcases h2 with h2 | ⟨b, off, rfl, h2⟩
  · rw [h2] at f0
    simp at f0
  · exact ⟨b, off, rfl, h2 _ _ f0, h2 _ _ f1⟩
theorem rowS_get {p : Int} : ∀ {j : Nat} {s : Site}, s ∈ rowS p j → ∃ i : Nat, i < j ∧ s = ⟨p, i⟩
  | 0, s, h => by simp [rowS] at h
  | j + 1, s, h => by
    rw [rowS, List.mem_append] at h
    rcases h with h | h
    · obtain ⟨i, hi, e⟩ := rowS_get h
      exact ⟨i, by omega, e⟩
    · exact ⟨j, by omega, by simpa using h⟩
theorem siteK_get {ps : List Prc} {part : List Int} : ∀ {K : Nat} {s : Site}, s ∈ siteK ps part K → ∃ (k j : Nat) (p : Int) (i : Ins), k < K ∧ part[k]? = some p ∧ (codeOfP ps p)[j]? = some i ∧ s = ⟨p, j⟩
  | 0, s, h => by simp [siteK] at h
  | K + 1, s, h => by
    rw [siteK, List.mem_append] at h
    rcases h with h | h
    · obtain ⟨k, j, p, i, hk, h⟩ := siteK_get h
      exact ⟨k, j, p, i, by omega, h⟩
    · cases hp : part[K]? with
      | none => rw [hp] at h; simp at h
      | some p =>
        rw [hp] at h
        obtain ⟨j, hj, e⟩ := rowS_get h
        exact ⟨K, j, p, (codeOfP ps p)[j], by omega, hp, List.getElem?_eq_getElem hj, e⟩

/-! ### Which places may fail -/
def gB (ps : List Prc) (L : List (Site × St)) (s : Site) : Bool := match lookL L s, (codeOfP ps s.proc)[s.pc.toNat]? with
  | some st, some i => failsB ps i st.vars
  | _, _ => false
theorem certB_inv {ps : List Prc} {part : List Int} {ss : List (List St)} {os : List Sum} (h : certB ps part ⟨ss, os⟩ = true) : ss.length = part.length ∧ os.length = part.length ∧ (∀ (i : Nat) (p : Int) (row : List St), part[i]? = some p → ss[i]? = some row → rowB ps p row = true) ∧ ∀ o, o ∈ os → sumOkB o = true := by
  unfold certB at h
  simp only [Bool.and_eq_true, decide_eq_true_eq, List.all_eq_true] at h
  exact ⟨h.1.1.1, h.1.1.2, fun i p row hp hr => h.1.2 (p, row) (List.mem_of_getElem? (by rw [List.getElem?_zip_eq_some]; exact ⟨hp, hr⟩)), h.2⟩
theorem rowB_inv {ps : List Prc} {p : Int} {row : List St} (h : rowB ps p row = true) : row.length = (codeOfP ps p).length ∧ ∀ s, s ∈ row → stB s = true := by
  unfold rowB at h
  simp only [Bool.and_eq_true, decide_eq_true_eq, List.all_eq_true] at h
  exact h
theorem rowF_filter {ps : List Prc} {part : List Int} {ss : List (List St)} (hn : part.Nodup) {k : Nat} {p : Int} {row : List St} (hp : part[k]? = some p) (hr : ss[k]? = some row) (hl : row.length = (codeOfP ps p).length) {K : Nat} (hk : k < K) :
    ∀ {j : Nat}, j ≤ row.length → rowF ps p row j = (rowS p j).filter (gB ps (certL part ss K))
  | 0, _ => rfl
  | j + 1, hj => by
    have hs : row[j]? = some (row[j]'(by omega)) := List.getElem?_eq_getElem _
    have hi : (codeOfP ps p)[j]? = some ((codeOfP ps p)[j]'(by omega)) := List.getElem?_eq_getElem _
    have hg : gB ps (certL part ss K) ⟨p, j⟩ = ((row[j]'(by omega)).on && failsB ps ((codeOfP ps p)[j]'(by omega)) (row[j]'(by omega)).vars) := by
      unfold gB
      rw [certL_look hn hp hr hs hk]
      simp only [Int.toNat_natCast]
      rw [hi]
      cases (row[j]'(by omega)).on <;> simp
    rw [rowF_succ hi hs, rowS, List.filter_append, rowF_filter hn hp hr hl hk (by omega), List.filter_cons, hg]
    simp
theorem certF_filter {ps : List Prc} {part : List Int} {ss : List (List St)} {os : List Sum} (hn : part.Nodup) (hc : certB ps part ⟨ss, os⟩ = true) {K : Nat} (hK : K ≤ part.length) :
    ∀ {k : Nat}, k ≤ K → certF ps part ss k = (siteK ps part k).filter (gB ps (certL part ss K))
  | 0, _ => rfl
  | k + 1, hk => by
    obtain ⟨h1, -, h3, -⟩ := certB_inv hc
    have hp : part[k]? = some (part[k]'(by omega)) := List.getElem?_eq_getElem _
    have hr : ss[k]? = some (ss[k]'(by omega)) := List.getElem?_eq_getElem _
    have hl := (rowB_inv (h3 _ _ _ hp hr)).1
    rw [certF_succ hp hr, siteK_succ hp, List.filter_append, certF_filter hn hc hK (by omega), ← rowF_filter hn hp hr hl (show k < K by omega) (by omega)]
theorem alarmsL_filter {ps : List Prc} {part : List Int} {ss : List (List St)} {os : List Sum} (hn : part.Nodup) (hc : certB ps part ⟨ss, os⟩ = true) {tn : Nat} (ht : part.length = tn) : alarmsL ps part ⟨ss, os⟩ = (siteK ps part tn).filter (gB ps (certL part ss tn)) := by
  subst ht
  exact certF_filter hn hc (Nat.le_refl _) (Nat.le_refl _)
theorem certL_ok {ps : List Prc} {part : List Int} {ss : List (List St)} {os : List Sum} (hc : certB ps part ⟨ss, os⟩ = true) {K : Nat} {s : Site} {st : St} : ∀ {k : Nat}, lookL (certL part ss k) s = some st → st.on = true ∧ stB st = true
  | 0, h => by simp [certL, lookL] at h
  | k + 1, h => by
    rw [certL, lookL_app, Option.or_eq_some_iff] at h
    rcases h with h | ⟨-, h⟩
    · exact certL_ok (K := K) hc h
    · cases hp : part[k]? with
      | none => rw [hp] at h; simp [lookL] at h
      | some p =>
        cases hr : ss[k]? with
        | none => rw [hp, hr] at h; simp [lookL] at h
        | some row =>
          rw [hp, hr] at h
          have hrow := (rowB_inv ((certB_inv hc).2.2.1 _ _ _ hp hr)).2
          have : ∀ {j : Nat}, lookL (rowL p row j) s = some st → st.on = true ∧ st ∈ row := by
            intro j
            induction j with
            | zero => intro h; simp [rowL, lookL] at h
            | succ j ih =>
              intro h
              rw [rowL, lookL_app, Option.or_eq_some_iff] at h
              rcases h with h | ⟨-, h⟩
              · exact ih h
              · cases hs : row[j]? with
                | none => rw [hs] at h; simp [lookL] at h
                | some t =>
                  rw [hs] at h
                  simp only at h
                  split at h
                  · rename_i ho
                    rw [lookL] at h
                    split at h
                    · obtain rfl := Option.some.inj h
                      exact ⟨ho, List.mem_of_getElem? hs⟩
                    · simp [lookL] at h
                  · simp [lookL] at h
          obtain ⟨ho, hm⟩ := this h
          exact ⟨ho, hrow st hm⟩
theorem insOkB_mono {i : Ins} {n s t : Int} (h : insOkB i n s = true) (hst : s ≤ t) : insOkB i n t = true := by
  unfold insOkB at h ⊢
  rw [Bool.and_eq_true] at h ⊢
  refine ⟨h.1, ?_⟩
  have h2 := h.2
  unfold tailB at h2 ⊢
  split at h2
  · rename_i e; rw [if_pos e]; exact h2
  · rename_i e
    rw [if_neg e]
    split at h2
    · rename_i e; rw [if_pos e]
      simp only [Bool.and_eq_true, decide_eq_true_eq] at h2 ⊢
      omega
    · rename_i e
      rw [if_neg e]
      split at h2
      · rename_i e; rw [if_pos e]
        simp only [Bool.and_eq_true, decide_eq_true_eq] at h2 ⊢
        omega
      · rename_i e; rw [if_neg e]; exact h2
theorem code_ok {ps : List Prc} (h : prgOkB ps = true) {p : Int} {j : Nat} {i : Ins} (hi : (codeOfP ps p)[j]? = some i) : insOkB i ps.length 10 = true := by
  unfold codeOfP at hi
  cases hp : ps[p.toNat]? with
  | none => rw [hp] at hi; simp at hi
  | some c =>
    rw [hp] at hi
    obtain ⟨h1, h2, h3⟩ := prg_code h (List.mem_of_getElem? hp)
    exact insOkB_mono (h3 i (List.mem_of_getElem? hi)) (by omega)
theorem look_v {a : Option Addr} {n cap : Nat} {ta : Option Addr} {tn tc : Nat} {L : List (Site × St)} {gc : Nat} {W : World} (h : CertI a n cap ta tn tc L gc W) : ∃ gs go, Blk W gc 121 #[.slice a n cap, .slice ta tn tc, .map (some gs), .map (some go)] ∧
    (∀ (W' : World), Grew W W' → ∀ p q, lookL L ⟨p, q⟩ = none → (Instr.lookup 118 (.map (some gs)) (.agg #[.int .i64 p, .int .i64 q]) false).run Tryz.prog W' = .ok (.pointer none) W') ∧
    (∀ p q st, lookL L ⟨p, q⟩ = some st → ∃ sb, Blk W sb 165 (stC st.vars st.lo st.hi) ∧ ∀ W', Grew W W' → (Instr.lookup 118 (.map (some gs)) (.agg #[.int .i64 p, .int .i64 q]) false).run Tryz.prog W' = .ok (.pointer (some ⟨sb, 0, none⟩)) W') := by
  obtain ⟨gs, go, ks, h1, h2, h3⟩ := h
  refine ⟨gs, go, h1, fun W' g p q hn => ?_, fun p q st hs => ?_⟩
  · have := (h2.grew g).look ⟨p, q⟩
    rw [h3.none hn] at this
    exact this
  · obtain ⟨v, hv, sb, rfl, hb⟩ := h3.some hs
    refine ⟨sb, hb, fun W' g => ?_⟩
    have := (h2.grew g).look ⟨p, q⟩
    rw [hv] at this
    exact this
theorem take_filter {S : List Site} {f : Site → Bool} {m : Nat} {s : Site} (hs : S[m]? = some s) : (S.take (m + 1)).filter f = (S.take m).filter f ++ (if f s then [s] else []) := by
  rw [List.take_add_one, hs, List.filter_append]
  cases h : f s <;> simp [h]
end Go.Proofs.YtdddhnepanjmfaaGreat
