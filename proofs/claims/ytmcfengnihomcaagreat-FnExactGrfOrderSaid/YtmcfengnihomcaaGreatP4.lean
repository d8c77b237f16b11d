/- Lemmas and walks of this proof, several texts one behind the other. No condition. -/
import Derived.Test.YtmcfengnihomcaaGreatP3
set_option linter.unusedSimpArgs false
set_option linter.unusedVariables false
/- The call graph, the reference's side: calls, what can be come to, parts. No condition. -/
namespace Go.Proofs.YtmcfengnihomcaaGreat
open Go.RowKit
set_option linter.unusedVariables false
set_option linter.unusedSimpArgs false
attribute [local go_sem] ext_cell ext_frozen ext_lt ext_le ext_le1 lt_s2 lt_s3 lt_s4 lt_s5 lt_s6 ext_lt1 ext_lt2 ext_lt3

theorem cs_get {ps : List Prc} {k : Nat} {p : Prc} (h : ps[k]? = some p) : cOf' (csOf ps) (k : Int) = callsL p.code := by
  simp [cOf', csOf, h]
theorem cs_len {ps : List Prc} (hB : prgOkB ps = true) (k : Int) : (cOf' (csOf ps) k).length ≤ 10 := by
  unfold cOf'
  rw [List.getD_eq_getElem?_getD]
  cases hk : (csOf ps)[k.toNat]? with
  | none => simp
  | some l =>
    rw [csOf, List.getElem?_map, Option.map_eq_some_iff] at hk
    obtain ⟨p, hp, rfl⟩ := hk
    simp only [Option.getD_some, callsL]
    have h1 : (scomp (callTo p.code)).length ≤ (callTo p.code).length := by
      refine nodup_sub _ _ (srt_nodup (scomp_srt _)) (fun x hx => (scomp_mem _ x).1 hx)
    have := callTo_len p.code
    have := (prg_code hB (List.mem_of_getElem? hp)).2.1
    omega

set_option maxRecDepth 100000 in
set_option maxHeartbeats 2000000 in
theorem l6Calls (a : Option Addr) (n cap : Nat) (ps : List Prc) (proc : Int) (w : World) (hr : RdP w a n ps) (hn : n ≤ 9223372036854775807) (hB : prgOkB ps = true) (hp : 0 ≤ proc ∧ proc < n) :
    Calls Tryz.prog 40 #[.agg #[.slice a n cap], .int .i64 proc] w (RetIs (cOf' (csOf ps) proc) w) := by
  obtain ⟨k, rfl⟩ := Int.eq_ofNat_of_zero_le hp.1
  have hk : k < n := by omega
  obtain ⟨b, off, lo, hi, is, ia, ic, rfl, hx, c0, c1, c2, hbl, hi1, hi2, hi3⟩ := rdP_at hr hk
  have HX := Lib.hid (cs_get hx)
  have hcode : is.length ≤ 10 := (prg_code hB (List.mem_of_getElem? hx)).2.1
  have hic : is.length ≤ 9223372036854775807 := by omega
  have HI := Lib.hid hi1
  have H0 := Lib.hid (show ((w.alloc (.cells #[.slice (some ⟨b, off, none⟩) n cap] 30)).alloc (.cells #[] 3)).ownsRow w.heap.size 3 1 (.slice (some ⟨w.heap.size + 1, 0, none⟩) 0 0) 0 (ints .i64 []) from by
    simpa [ints] using World.ownsRow_lit (w.alloc (.cells #[.slice (some ⟨b, off, none⟩) n cap] 30)) (e := 3) (size := 1) #[] 0 (base := w.heap.size) (by simp) (Nat.zero_le _) rfl)
  clear hr hx hi1 hB
  go_enter Tryz.func40, Tryz.ntmps40
  go_wp2
  go_loopw [5, 7] (fun v i wr => ∃ m : Nat, m ≤ is.length ∧ i = .int .i64 m ∧ Grew w wr ∧ wr.ownsRow w.heap.size 3 1 v (putA [] (callTo (is.take m))).length (ints .i64 (putA [] (callTo (is.take m))))) (fun _ i _ => is.length - (Go.RowKit.intOf i).toNat)
  case atStart => exact ⟨0, Nat.zero_le _, rfl, by repeat (first | with_reducible exact Below.refl _ _ | with_reducible assumption | with_reducible apply grew_ext | with_reducible apply grew_al | with_reducible apply grew_dn | with_reducible apply grew_d | (with_reducible refine grew_set ?_ (by first | omega | (repeat (first | with_reducible exact Nat.le_refl _ | with_reducible apply le_pl | with_reducible apply le_ext | with_reducible apply le_al))) _)), H0.out⟩
  case round =>
    clear H0
    obtain ⟨m, hm, rfl, hg, ho⟩ := hrel
    have hlen := putA_len (callTo (is.take m)) []
    have hlen2 := callTo_len (is.take m)
    have hlen3 := List.length_take_le m is
    simp only [List.length_nil] at hlen
    obtain ⟨oa, oc, rfl⟩ := owns_slice ho
    by_cases hlt : m < is.length
    · obtain ⟨b2, off2, op, d, ja, jb, rel, lo', hi', to, rfl, hy, d0, d1, d2, d3, d4, d5, d6, d7, hb2⟩ := rdI_at (HI.out.grew stays_ins hg) hlt
      have HT := Lib.hid (show callTo (is.take (m + 1)) = _ from by rw [take_get hy, callTo_snoc])
      clear hy
      by_cases hop : op = 10
      · subst hop
        have HE : Hid (putA [] (callTo (is.take (m + 1))) = putF (putA [] (callTo (is.take m))) to) := Lib.hid (by
          have h := HT.out
          dsimp only at h
          rw [if_pos rfl] at h
          rw [h, putA_snoc])
        have C := Lib.hid (fun W (g : Grew wr W) => l6Put oa _ oc (putA [] (callTo (is.take m))) to W ((owns_rd ho).grew g) (by omega))
        have HG := Lib.hid hg
        clear HT ho hg
        go_wp2_with fail
        refine (C.out _ (Below.refl _ _)).mono ?_
        rintro e w3 ⟨A3, c3, rfl, o3, g3⟩
        have O3 := Lib.hid (owns_mono o3 HG.out.size)
        have G3 := Lib.hid (grew_tr HG.out g3)
        clear o3 g3
        go_wp2
        go_roundw
        case rel => exact ⟨m + 1, by omega, by go_num, G3.out, by rw [HE.out]; exact O3.out⟩
        case measure => simp [Go.RowKit.intOf]; omega
      · have HE : Hid (putA [] (callTo (is.take (m + 1))) = putA [] (callTo (is.take m))) := Lib.hid (by
          have h := HT.out
          dsimp only at h
          rw [if_neg hop, List.append_nil] at h
          rw [h])
        have b1 : (op == 10) = false := by simp [hop]
        have HG := Lib.hid hg
        have HO := Lib.hid ho
        clear HT ho hg hop
        go_wp2
        go_roundw
        case rel => exact ⟨m + 1, by omega, by go_num, HG.out, by rw [HE.out]; exact HO.out⟩
        case measure => simp [Go.RowKit.intOf]; omega
    · have hE : putA [] (callTo (is.take m)) = cOf' (csOf ps) (k : Int) := by rw [HX.out, List.take_of_length_le (by omega), putA_scomp]; rfl
      rw [hE] at ho
      rw [hE]
      have HG := Lib.hid hg
      have HO := Lib.hid ho
      clear hE ho hg hlen
      go_wp2
      go_ret
      exact ⟨oa, oc, rfl, HO.out, HG.out⟩

/-- A rising list of procedures. -/
structure Pl (N : Nat) (l : List Int) : Prop where
  s : Srt l
  b : ∀ x, x ∈ l → 0 ≤ x ∧ x < N
theorem Pl.len {N : Nat} {l : List Int} (h : Pl N l) : l.length ≤ N := srt_len _ _ (srt_nodup h.s) h.b
theorem Pl.putA {N : Nat} {l ns : List Int} (h : Pl N l) (hn : ∀ x, x ∈ ns → 0 ≤ x ∧ x < N) : Pl N (putA l ns) := by
  obtain ⟨h1, h2⟩ := putA_spec ns l h.s
  exact ⟨h1, fun x hx => ((h2 x).1 hx).elim (h.b x) (hn x)⟩
theorem Pl.roundA {N : Nat} {c : Int → List Int} (hc : ∀ k x, x ∈ c k → 0 ≤ x ∧ x < N) {l sn : List Int} (h : Pl N l) : Pl N (roundA c l sn) := by
  obtain ⟨h1, h2⟩ := roundA_spec c sn l h.s
  exact ⟨h1, fun x hx => ((h2 x).1 hx).elim (h.b x) (fun ⟨i, _, hi⟩ => hc i x hi)⟩
theorem Pl.iterA {N : Nat} {c : Int → List Int} (hc : ∀ k x, x ∈ c k → 0 ≤ x ∧ x < N) : ∀ (m : Nat) {l : List Int}, Pl N l → Pl N (iterA c m l)
  | 0, _, h => h
  | m + 1, _, h => Pl.iterA hc m (h.roundA hc)
theorem pl_one {N : Nat} {a : Int} (h : 0 ≤ a ∧ a < N) : Pl N [a] := ⟨by simp, fun x hx => by
  obtain rfl : x = a := by simpa using hx
  exact h⟩

set_option maxRecDepth 100000 in
set_option maxHeartbeats 4000000 in
theorem l6Reach (a : Option Addr) (n cap : Nat) (ps : List Prc) (proc : Int) (w : World) (hr : RdP w a n ps) (hn : n ≤ 9223372036854775807) (hB : prgOkB ps = true) (hp : 0 ≤ proc ∧ proc < n) :
    Calls Tryz.prog 30 #[.agg #[.slice a n cap], .int .i64 proc] w (RetIs (reachL (cOf' (csOf ps)) (csOf ps).length proc) w) := by
  have hl := hr.len
  have hN : (csOf ps).length = n := by rw [csOf_len, hl]
  have hok := gok_of hB
  have hn4 := (prg_len hB).2
  rw [hl] at hn4
  rw [hN]
  have hc : ∀ k x, x ∈ cOf' (csOf ps) k → 0 ≤ x ∧ x < n := fun k x hx => by rw [← hN]; exact hok k x hx
  have HCL := Lib.hid (fun k => cs_len hB k)
  have HC := Lib.hid (fun (proc : Int) (hp : 0 ≤ proc ∧ proc < n) W (g : Grew w W) => l6Calls a n cap ps proc W (hr.grew g) hn hB hp)
  obtain ⟨c, hcc⟩ : ∃ c, cOf' (csOf ps) = c := ⟨_, rfl⟩
  rw [hcc] at HC hc HCL
  rw [hcc]
  have HK := Lib.hid hc
  have H0 := Lib.hid (show ((w.alloc (.cells #[.slice a n cap] 30)).alloc (.cells #[.int .i64 proc] 3)).ownsRow w.heap.size 3 1 (.slice (some ⟨w.heap.size + 1, 0, none⟩) 1 1) 1 (ints .i64 [proc]) from by
    simpa [ints] using World.ownsRow_lit (w.alloc (.cells #[.slice a n cap] 30)) (e := 3) (size := 1) #[.int .i64 proc] 1 (base := w.heap.size) (by simp) (by unfold maxLen; omega) rfl)
  clear hr hl hN hok hB hcc hc
  go_enter Tryz.func30, Tryz.ntmps30
  go_wp2
  go_loopw [5, 6] (fun v i wr => ∃ m : Nat, m ≤ n ∧ i = .int .i64 m ∧ Grew (w.alloc (.cells #[.slice a n cap] 30)) wr ∧ wr.ownsRow w.heap.size 3 1 v (iterA c m [proc]).length (ints .i64 (iterA c m [proc]))) (fun _ i _ => n - (Go.RowKit.intOf i).toNat)
  case atStart => exact ⟨0, Nat.zero_le _, rfl, grew_al (Below.refl _ _) _, H0.out⟩
  case round =>
    clear H0
    obtain ⟨m, hm, rfl, hg, ho⟩ := hrel
    have hpl := Pl.iterA HK.out m (pl_one hp)
    obtain ⟨oa, oc, rfl⟩ := owns_slice ho
    have hb0 : wr.cell? ⟨w.heap.size, 0, none⟩ = some (.slice a n cap) := (hg.cell (p := ⟨w.heap.size, 0, none⟩) (by simp)).trans (by simp [go_sem])
    by_cases hlt : m < n
    · have HE := Lib.hid (iterA_succ c m [proc])
      obtain ⟨S, hS⟩ : ∃ S, iterA c m [proc] = S := ⟨_, rfl⟩
      rw [hS] at HE ho hpl
      rw [hS]
      have HPL := Lib.hid hpl
      have hSl := hpl.len
      have HG := Lib.hid hg
      have HO := Lib.hid ho
      have HRd := Lib.hid (owns_rd ho)
      have hS9 : S.length ≤ 9223372036854775807 := by omega
      clear hS hpl ho hg
      go_wp2
      obtain ⟨wo, hwo⟩ : ∃ wo, wr = wo := ⟨_, rfl⟩
      rw [hwo] at HG HO HRd
      have HWO := Lib.hid hwo
      clear hwo hb0
      go_loopw [5, 8] (fun v i wr => ∃ j : Nat, j ≤ S.length ∧ i = .int .i64 j ∧ Grew wo wr ∧ wr.ownsRow w.heap.size 3 1 v (roundA c S (S.take j)).length (ints .i64 (roundA c S (S.take j)))) (fun _ i _ => S.length - (Go.RowKit.intOf i).toNat)
      case atStart => exact ⟨0, Nat.zero_le _, rfl, by rw [HWO.out]; exact Below.refl _ _, by rw [HWO.out]; exact HO.out⟩
      case round =>
        obtain ⟨j, hj, rfl, hg, ho⟩ := hrel
        obtain ⟨ra, rc, rfl⟩ := owns_slice ho
        have hb0 : wr.cell? ⟨w.heap.size, 0, none⟩ = some (.slice a n cap) := ((grew_tr HG.out hg).cell (p := ⟨w.heap.size, 0, none⟩) (by simp)).trans (by simp [go_sem])
        by_cases hlt2 : j < S.length
        · obtain ⟨b, off, y, rfl, hy, hcell⟩ := (HRd.out.grew hg).at1 hlt2
          have hyb := HPL.out.b y (List.mem_of_getElem? hy)
          have HR2 := Lib.hid (show roundA c S (S.take (j + 1)) = putA (roundA c S (S.take j)) (c y) from by rw [take_get hy, roundA_snoc])
          have HPR := Lib.hid (HPL.out.roundA HK.out (sn := S.take j))
          have HC2 := Lib.hid (fun W (g : Grew wr W) => HC.out y hyb W (grew_tr (grew_tr (grew_al (Below.refl _ _) _) (grew_tr HG.out hg)) g))
          have hcl := HCL.out y
          obtain ⟨R, hR⟩ : ∃ R, roundA c S (S.take j) = R := ⟨_, rfl⟩
          rw [hR] at HR2 HPR ho
          rw [hR]
          obtain ⟨Y, hY⟩ : ∃ Y, c y = Y := ⟨_, rfl⟩
          have HYB := Lib.hid (fun x hx => HK.out y x hx)
          rw [hY] at HR2 HC2 hcl HYB
          have HG2 := Lib.hid hg
          have HO2 := Lib.hid ho
          clear hR hY hg ho hy
          have HSG : Hid (∀ W, Grew wr W → W.cell? ⟨w.heap.size, 0, none⟩ = some (.slice a n cap) ∧ W.cell? ⟨b, off + j, none⟩ = some (.int .i64 y)) := Lib.hid (fun W g => ⟨(g.cell (p := ⟨w.heap.size, 0, none⟩) (World.block_lt_of_cell? wr _ hb0)).trans hb0, (g.cell (p := ⟨b, off + j, none⟩) (World.block_lt_of_cell? wr _ hcell)).trans hcell⟩)
          go_wp2_with fail
          go_region_held3 (fun W => W.cell? ⟨w.heap.size, 0, none⟩ = some (.slice a n cap) ∧ W.cell? ⟨b, off + j, none⟩ = some (.int .i64 y)) (with_reducible (first | assumption | exact HSG.out _ (grew_d (Below.refl _ _))))
            ((go_at_call 40; (with_reducible refine (HC2.out _ (grew_d (Below.refl _ _))).mono ?_); rintro e w5 ⟨A5, c5, rfl, o5, g5⟩; have t5 := HSG.out _ (grew_tr (grew_d (Below.refl _ _)) g5)))
          have O5 := Lib.hid (owns_mono o5 (Nat.le_trans HG.out.size (by have := HG2.out.size; first | exact this | (simp; omega))))
          have G5 := Lib.hid (grew_tr HG2.out (grew_tr (grew_d (Below.refl _ _)) g5))
          have OR := Lib.hid (owns_grew HO2.out (grew_tr (grew_d (Below.refl _ _)) g5))
          have hY9 : Y.length ≤ 9223372036854775807 := by omega
          have hRl := HPR.out.len
          clear HSG hb0 hcell o5 g5 HO2 HG2
          go_wp2
          obtain ⟨w6, hw6⟩ : ∃ w6, w5 = w6 := ⟨_, rfl⟩
          rw [hw6] at O5 G5 OR
          have HW6 := Lib.hid hw6
          clear hw6 t5
          go_loopw [5, 10] (fun v i wr => ∃ q : Nat, q ≤ Y.length ∧ i = .int .i64 q ∧ Grew w6 wr ∧ wr.ownsRow w.heap.size 3 1 v (putA R (Y.take q)).length (ints .i64 (putA R (Y.take q)))) (fun _ i _ => Y.length - (Go.RowKit.intOf i).toNat)
          case atStart => exact ⟨0, Nat.zero_le _, rfl, by rw [HW6.out]; exact Below.refl _ _, by rw [HW6.out]; exact OR.out⟩
          case round =>
            obtain ⟨q, hq, rfl, hg, ho⟩ := hrel
            obtain ⟨xa, xc, rfl⟩ := owns_slice ho
            have hpl3 := (HPR.out.putA (ns := Y.take q) (fun x hx => HYB.out x (List.mem_of_mem_take hx))).len
            by_cases hlt3 : q < Y.length
            · obtain ⟨b3, off3, z, rfl, hz, hzc⟩ := ((owns_rd O5.out).grew hg).at1 hlt3
              have HE3 := Lib.hid (show putA R (Y.take (q + 1)) = putF (putA R (Y.take q)) z from by rw [take_get hz, putA_snoc])
              have C3 := Lib.hid (l6Put xa _ xc (putA R (Y.take q)) z wr (owns_rd ho) (by omega))
              have G6 := Lib.hid hg
              clear hz ho hg
              go_wp2_with fail
              refine C3.out.mono ?_
              rintro e w7 ⟨A7, c7, rfl, o7, g7⟩
              have O7 := Lib.hid (owns_mono o7 (Nat.le_trans (Nat.le_trans (show w.heap.size ≤ wo.heap.size from by have := HG.out.size; simp at this; omega) G5.out.size) G6.out.size))
              have G7 := Lib.hid (grew_tr G6.out g7)
              clear o7 g7 hzc
              go_wp2
              go_roundw
              case rel => exact ⟨q + 1, by omega, by go_num, G7.out, by rw [HE3.out]; exact O7.out⟩
              case measure => simp [Go.RowKit.intOf]; omega
            · obtain rfl : q = Y.length := by omega
              rw [List.take_length] at ho ⊢
              have O7 := Lib.hid ho
              have G7 := Lib.hid (grew_tr G5.out hg)
              clear ho hg
              go_wp2
              go_roundw
              case rel => exact ⟨j + 1, by omega, by go_num, G7.out, by rw [HR2.out]; exact O7.out⟩
              case measure => simp [Go.RowKit.intOf]; omega
        · obtain rfl : j = S.length := by omega
          rw [List.take_length] at ho ⊢
          have O7 := Lib.hid ho
          have G7 := Lib.hid (grew_tr HG.out hg)
          clear ho hg hb0
          go_wp2
          go_roundw
          case rel => exact ⟨m + 1, by omega, by go_num, G7.out, by rw [HE.out]; exact O7.out⟩
          case measure => simp [Go.RowKit.intOf]; omega
    · obtain rfl : m = n := by omega
      have O7 := Lib.hid ho
      have G7 := Lib.hid (grew_tr (grew_al (Below.refl _ _) _) hg)
      clear ho hg
      go_wp2
      go_ret
      exact ⟨oa, oc, rfl, O7.out, G7.out⟩
end Go.Proofs.YtmcfengnihomcaaGreat

/- The call graph, the reference's side: a procedure's part; the three questions of one procedure. No condition. -/
namespace Go.Proofs.YtmcfengnihomcaaGreat
open Go.RowKit
set_option linter.unusedVariables false
set_option linter.unusedSimpArgs false
attribute [local go_sem] ext_cell ext_frozen ext_lt ext_le ext_le1 lt_s2 lt_s3 lt_s4 lt_s5 lt_s6 ext_lt1 ext_lt2 ext_lt3

theorem reach_pl {cs : List (List Int)} (h : Gok cs) {a : Int} (ha : 0 ≤ a ∧ a < cs.length) : Pl cs.length (reachL (cOf' cs) cs.length a) := by
  obtain ⟨h1, h2⟩ := reachL_spec h ha
  exact ⟨h1, fun x hx => rch_bd h ha ((h2 x).1 hx)⟩
theorem part_pl {cs : List (List Int)} (h : Gok cs) {a : Int} (ha : 0 ≤ a ∧ a < cs.length) : Pl cs.length (partL (cOf' cs) cs.length a) :=
  ⟨part_srt h ha, fun x hx => rch_bd h ha ((part_mem h ha x).1 hx).1⟩

set_option maxRecDepth 100000 in
set_option maxHeartbeats 4000000 in
theorem l6Part (a : Option Addr) (n cap : Nat) (ps : List Prc) (proc : Int) (w : World) (hr : RdP w a n ps) (hn : n ≤ 9223372036854775807) (hB : prgOkB ps = true) (hp : 0 ≤ proc ∧ proc < n) :
    Calls Tryz.prog 31 #[.agg #[.slice a n cap], .int .i64 proc] w (RetIs (partL (cOf' (csOf ps)) (csOf ps).length proc) w) := by
  have hl := hr.len
  have hN : (csOf ps).length = n := by rw [csOf_len, hl]
  have hok := gok_of hB
  have hn4 := (prg_len hB).2
  rw [hl] at hn4
  have HC := Lib.hid (fun (proc : Int) (hp : 0 ≤ proc ∧ proc < n) W (g : Grew w W) => l6Reach a n cap ps proc W (hr.grew g) hn hB hp)
  have HPL := Lib.hid (fun (x : Int) (hx : 0 ≤ x ∧ x < n) => reach_pl hok (a := x) (by rw [hN]; exact hx))
  obtain ⟨r, hrr⟩ : ∃ r, reachL (cOf' (csOf ps)) (csOf ps).length = r := ⟨_, rfl⟩
  have hP : partL (cOf' (csOf ps)) (csOf ps).length proc = (r proc).filter (fun o => decide (proc ∈ r o)) := by rw [partL, hrr]
  rw [hP]
  rw [hrr, hN] at HPL
  have HC2 : Hid (∀ (proc : Int), 0 ≤ proc ∧ proc < (n : Int) → ∀ W, Grew w W → Calls Tryz.prog 30 #[.agg #[.slice a n cap], .int .i64 proc] W (RetIs (r proc) W)) := Lib.hid (by have := HC.out; rwa [hrr] at this)
  have H0 := Lib.hid (show ((w.alloc (.cells #[.slice a n cap] 30)).alloc (.cells #[] 3)).ownsRow w.heap.size 3 1 (.slice (some ⟨w.heap.size + 1, 0, none⟩) 0 0) 0 (ints .i64 []) from by
    simpa [ints] using World.ownsRow_lit (w.alloc (.cells #[.slice a n cap] 30)) (e := 3) (size := 1) #[] 0 (base := w.heap.size) (by simp) (Nat.zero_le _) rfl)
  have HLP := Lib.hid (HPL.out proc hp)
  clear HC hr hl hN hok hB hrr hP
  go_enter Tryz.func31, Tryz.ntmps31
  go_wp2_with fail
  refine (HC2.out proc hp _ (by repeat (first | with_reducible exact Below.refl _ _ | with_reducible assumption | with_reducible apply grew_ext | with_reducible apply grew_al | with_reducible apply grew_dn | with_reducible apply grew_d | (with_reducible refine grew_set ?_ (by first | omega | (repeat (first | with_reducible exact Nat.le_refl _ | with_reducible apply le_pl | with_reducible apply le_ext | with_reducible apply le_al))) _)))).mono ?_
  rintro e w1 ⟨A, c, rfl, o1, g1⟩
  have hb1 : w1.cell? ⟨w.heap.size, 0, none⟩ = some (.slice a n cap) := (g1.cell (p := ⟨w.heap.size, 0, none⟩) (by simp; omega)).trans (by simp [go_sem])
  have O1 := Lib.hid (owns_grew H0.out g1)
  have G1 := Lib.hid (show Grew w w1 from grew_tr (grew_al (grew_al (Below.refl _ _) _) _) g1)
  obtain ⟨L, hL⟩ : ∃ L, r proc = L := ⟨_, rfl⟩
  rw [hL] at o1 HLP
  rw [hL]
  have HLQ := Lib.hid hL
  have HRO := Lib.hid (show w1.ownsRow (w.heap.size + 1 + 1) 3 1 (.slice A L.length c) L.length (ints .i64 L) from owns_mono o1 (by simp))
  have hLl := HLP.out.len
  have hL9 : L.length ≤ 9223372036854775807 := by omega
  have lb1 : w.heap.size + 1 < w1.heap.size := Nat.lt_of_lt_of_le (by simp) g1.size
  have HB1 := Lib.hid hb1
  clear hL o1 g1 H0 hb1
  go_wp2
  go_loopw [5, 7] (fun v i wr => ∃ k : Nat, k ≤ L.length ∧ i = .int .i64 k ∧ Chg (fun b => b = w.heap.size + 1) w1 wr ∧ (∀ b, v.ownBlock = some b → b = w.heap.size + 1 ∨ w1.heap.size ≤ b) ∧ wr.ownsRow w.heap.size 3 1 v ((L.take k).filter fun o => decide (proc ∈ r o)).length (ints .i64 ((L.take k).filter fun o => decide (proc ∈ r o)))) (fun _ i _ => L.length - (Go.RowKit.intOf i).toNat)
  case atStart => exact ⟨0, Nat.zero_le _, rfl, Chg.refl _ _, fun b hb => .inl (by simp only [Value.ownBlock, Option.some.injEq] at hb; omega), O1.out⟩
  case round =>
    clear O1
    obtain ⟨k, hk, rfl, hc, hv, ho⟩ := hrel
    obtain ⟨oa, oc, rfl⟩ := owns_slice ho
    have hfl : ((L.take k).filter fun o => decide (proc ∈ r o)).length ≤ n := Nat.le_trans (List.length_filter_le _ _) (Nat.le_trans (List.length_take_le' _ _) hLl)
    have hb0 : wr.cell? ⟨w.heap.size, 0, none⟩ = some (.slice a n cap) := (World.cell?_of_block (w := w1) (w' := wr) (a := ⟨w.heap.size, 0, none⟩) (hc.block w.heap.size (by omega) (by omega))).trans HB1.out
    have gw : Grew w wr := G1.out.trans ⟨hc.os, hc.tape, hc.output, hc.size, fun k hk => hc.block k (by omega) (by omega)⟩
    by_cases hlt : k < L.length
    · have hro := owns_chg HRO.out hc (fun b hb e => by have := (HRO.out.lt b hb).1; omega)
      obtain ⟨b, off, x, rfl, hx, hcell⟩ := (owns_rd hro).at1 hlt
      have hxb := HLP.out.b x (List.mem_of_getElem? hx)
      have HPX := Lib.hid (HPL.out x hxb)
      have C := Lib.hid (HC2.out x hxb)
      have hft : Hid ((L.take (k + 1)).filter (fun o => decide (proc ∈ r o)) = (L.take k).filter (fun o => decide (proc ∈ r o)) ++ if proc ∈ r x then [x] else []) := Lib.hid (by
        rw [take_get hx, List.filter_append]
        congr 1
        by_cases h : proc ∈ r x <;> simp [h])
      obtain ⟨X, hX⟩ : ∃ X, r x = X := ⟨_, rfl⟩
      rw [hX] at HPX C hft
      have hXl := HPX.out.len
      have HSG : Hid (∀ W, Grew wr W → W.cell? ⟨w.heap.size, 0, none⟩ = some (.slice a n cap) ∧ W.cell? ⟨b, off + k, none⟩ = some (.int .i64 x)) := Lib.hid (fun W g => ⟨(g.cell (p := ⟨w.heap.size, 0, none⟩) (World.block_lt_of_cell? wr _ hb0)).trans hb0, (g.cell (p := ⟨b, off + k, none⟩) (World.block_lt_of_cell? wr _ hcell)).trans hcell⟩)
      have HG := Lib.hid gw
      have HCH := Lib.hid hc
      have HV := Lib.hid hv
      have HO := Lib.hid ho
      clear hX hro hx gw hc hv ho
      cases hin : decide (proc ∈ X)
      · have HIN := Lib.hid hin
        have HF := hft.out
        rw [if_neg (of_decide_eq_false hin), List.append_nil] at HF
        have HF := Lib.hid HF
        clear hin hft
        go_wp2_with fail
        go_region_held3 (fun W => W.cell? ⟨w.heap.size, 0, none⟩ = some (.slice a n cap) ∧ W.cell? ⟨b, off + k, none⟩ = some (.int .i64 x)) (with_reducible (first | assumption | exact HSG.out _ (grew_d (Below.refl _ _))))
          (first
          | (go_at_call 30; (with_reducible refine (C.out _ (grew_tr HG.out (grew_d (Below.refl _ _)))).mono ?_); rintro e w5 ⟨A5, c5, rfl, o5, g5⟩; have t5 := HSG.out _ (grew_tr (grew_d (Below.refl _ _)) g5); have R5 := Lib.hid (owns_rd o5); have G5 := Lib.hid (grew_tr (grew_d (Below.refl _ _)) g5); clear o5 g5)
          | (go_at_call 46; refine (l6Has A5 X.length c5 X proc w5 R5.out (by omega)).mono ?_; rintro e w6 ⟨rfl, rfl⟩; rw [HIN.out]))
        have HO5 := Lib.hid (owns_grew HO.out G5.out)
        have HC5 := Lib.hid (HCH.out.trans (Chg.of_below (F := fun b => b = w.heap.size + 1) G5.out) (fun _ _ e => e) (fun _ _ e => e))
        clear t5 HSG hb0 hcell
        go_wp2
        go_roundw
        case rel => exact ⟨k + 1, by omega, by go_num, HC5.out, HV.out, by rw [HF.out]; exact HO5.out⟩
        case measure => simp [Go.RowKit.intOf]; omega
      · have HIN := Lib.hid hin
        have HF := hft.out
        rw [if_pos (of_decide_eq_true hin)] at HF
        have HF := Lib.hid HF
        clear hin hft
        go_wp2_with fail
        go_region_held3 (fun W => W.cell? ⟨w.heap.size, 0, none⟩ = some (.slice a n cap) ∧ W.cell? ⟨b, off + k, none⟩ = some (.int .i64 x)) (with_reducible (first | assumption | exact HSG.out _ (grew_d (Below.refl _ _))))
          (first
          | (go_at_call 30; (with_reducible refine (C.out _ (grew_tr HG.out (grew_d (Below.refl _ _)))).mono ?_); rintro e w5 ⟨A5, c5, rfl, o5, g5⟩; have t5 := HSG.out _ (grew_tr (grew_d (Below.refl _ _)) g5); have R5 := Lib.hid (owns_rd o5); have G5 := Lib.hid (grew_tr (grew_d (Below.refl _ _)) g5); clear o5 g5)
          | (go_at_call 46; refine (l6Has A5 X.length c5 X proc w5 R5.out (by omega)).mono ?_; rintro e w6 ⟨rfl, rfl⟩; rw [HIN.out]))
        have ho5 := owns_grew HO.out G5.out
        obtain ⟨v7, w7, hr7, o7, g7, hv7⟩ := owns_append_lit (P := Tryz.prog) w5 intEl ho5 1 [.int .i64 x] rfl (by simp [Value.oneCell']) (by omega) (by omega) (Nat.le_trans HG.out.size G5.out.size)
        have c7 := Chg.of_grownBy g7
        have HC7 := Lib.hid (show Chg (fun b => b = w.heap.size + 1) w1 w7 from (HCH.out.trans (Chg.of_below (F := fun b => b = w.heap.size + 1) G5.out) (fun _ _ e => e) (fun _ _ e => e)).trans c7 (fun _ _ e => e) (fun i hi e => by rcases HV.out i e with h | h <;> omega))
        have HV7 := Lib.hid (show ∀ b, v7.ownBlock = some b → b = w.heap.size + 1 ∨ w1.heap.size ≤ b from fun b hb => by
          rcases hv7 with h | h
          · exact HV.out b (by rw [← h]; exact hb)
          · rw [h, Option.some.injEq] at hb
            have h1 := HCH.out.size
            have h2 := G5.out.size
            omega)
        obtain ⟨a7, c7', rfl⟩ := owns_slice o7
        have HO7 := Lib.hid o7
        have R7 := Lib.hid hr7
        have q5 := t5.2
        clear t5 HSG hb0 hcell o7 g7 hr7 hv7 c7 ho5
        go_wp2_with (at_builtin; refine wpList_append_run rfl _ _ rfl rfl rfl rfl R7.out ?_)
        go_roundw
        case rel => exact ⟨k + 1, by omega, by go_num, HC7.out, HV7.out, by rw [HF.out, ints_append, List.length_append]; exact HO7.out⟩
        case measure => simp [Go.RowKit.intOf]; omega
    · obtain rfl : k = L.length := by omega
      rw [List.take_length] at ho ⊢
      have HO := Lib.hid ho
      have HG := Lib.hid gw
      clear ho gw hc hv hb0
      go_wp2
      go_ret
      rw [HLQ.out]
      exact ⟨oa, oc, rfl, HO.out, HG.out⟩
end Go.Proofs.YtmcfengnihomcaaGreat

/- Whether a row of numbers holds one of a part; in which part a number is. No condition. -/
namespace Go.Proofs.YtmcfengnihomcaaGreat
open Go.RowKit
set_option linter.unusedVariables false
set_option linter.unusedSimpArgs false
attribute [local go_sem] ext_cell ext_frozen ext_lt ext_le ext_le1 lt_s2 lt_s3 lt_s4 lt_s5 lt_s6 ext_lt1 ext_lt2 ext_lt3

theorem needs1 (y : Int) (pb : Nat) (pa : Option Addr) (pn pc : Nat) (P : List Int) (w : World) (hc : w.cell? ⟨pb, 0, none⟩ = some (.slice pa pn pc)) (hr : Rd w pa pn 1 (ints .i64 P)) (hn : pn ≤ 9223372036854775807) :
    Calls Tryz.prog 78 #[.int .i64 y, .pointer (some ⟨pb, 0, none⟩)] w (RetT (decide (y ∈ P)) w) := by
  have C := Lib.hid (containsInt pa pn pc P y w hr hn)
  clear hr
  go_enter Tryz.func78, Tryz.ntmps78
  go_wp2_with fail
  refine C.out.mono ?_
  rintro e w1 ⟨rfl, rfl⟩
  go_wp2
  go_ret
  exact ⟨rfl, rfl⟩
theorem indexFunc (a : Option Addr) (n cap : Nat) (zs : List Int) (pb : Nat) (pa : Option Addr) (pn pc : Nat) (P : List Int) (w : World) (hz : Rd w a n 1 (ints .i64 zs)) (hnz : n ≤ 9223372036854775807) (hc : w.cell? ⟨pb, 0, none⟩ = some (.slice pa pn pc)) (hr : Rd w pa pn 1 (ints .i64 P)) (hn : pn ≤ 9223372036854775807) :
    Calls Tryz.prog 77 #[.slice a n cap, .func (.func 78) #[] #[.pointer (some ⟨pb, 0, none⟩)]] w (RetIx (zs.any fun y => decide (y ∈ P)) w) := by
  have HL := Lib.hid hz.len1
  have HR := Lib.hid hz; clear hz
  have HC := Lib.hid (fun y => needs1 y pb pa pn pc P w hc hr hn)
  clear hc hr
  go_enter Tryz.func77, Tryz.ntmps77
  go_wp2
  go_loop [8] (fun i => ∃ k : Nat, k ≤ n ∧ i = .int .i64 k ∧ ∀ y, y ∈ zs.take k → ¬ y ∈ P) (fun i => n - (Go.RowKit.intOf i).toNat)
  case atStart => exact ⟨0, Nat.zero_le _, rfl, by simp⟩
  case round =>
    obtain ⟨k, hk, rfl, hall⟩ := hrel
    have HA := Lib.hid hall; clear hall
    by_cases hlt : k < n
    · obtain ⟨b, off, z0, rfl, hx, c0⟩ := HR.out.at1 hlt
      have HX := Lib.hid hx; clear hx
      by_cases hq : z0 ∈ P
      · have HD := Lib.hid (decide_eq_true hq)
        go_wp2_with (go_at_call 78; refine (HC.out z0).mono ?_; rintro e w1 ⟨rfl, rfl⟩; rw [HD.out])
        go_ret
        refine ⟨k, rfl, ?_, rfl⟩
        rw [decide_eq_true (by omega)]
        exact (List.any_eq_true.2 ⟨z0, List.mem_of_getElem? HX.out, decide_eq_true hq⟩).symm
      · have HD := Lib.hid (decide_eq_false hq)
        have HQ := Lib.hid hq; clear hq
        go_wp2_with (go_at_call 78; refine (HC.out z0).mono ?_; rintro e w1 ⟨rfl, rfl⟩; rw [HD.out])
        go_round
        case rel =>
          refine ⟨k + 1, by omega, by go_num, fun y hy => ?_⟩
          rw [take_get HX.out] at hy
          rcases List.mem_append.1 hy with hy | hy
          · exact HA.out y hy
          · rw [List.mem_singleton.1 hy]
            exact HQ.out
        case measure => simp [Go.RowKit.intOf]; omega
    · go_wp2
      go_ret
      refine ⟨-1, rfl, ?_, rfl⟩
      rw [decide_eq_false (by omega)]
      symm
      rw [List.any_eq_false]
      have := HA.out
      rw [List.take_of_length_le (by have := HL.out; omega)] at this
      exact fun y hy => by simpa using this y hy
theorem containsFunc (a : Option Addr) (n cap : Nat) (zs : List Int) (pb : Nat) (pa : Option Addr) (pn pc : Nat) (P : List Int) (w : World) (hz : Rd w a n 1 (ints .i64 zs)) (hnz : n ≤ 9223372036854775807) (hc : w.cell? ⟨pb, 0, none⟩ = some (.slice pa pn pc)) (hr : Rd w pa pn 1 (ints .i64 P)) (hn : pn ≤ 9223372036854775807) :
    Calls Tryz.prog 59 #[.slice a n cap, .func (.func 78) #[] #[.pointer (some ⟨pb, 0, none⟩)]] w (RetT (zs.any fun y => decide (y ∈ P)) w) := by
  have C := Lib.hid (indexFunc a n cap zs pb pa pn pc P w hz hnz hc hr hn)
  clear hz hc hr
  go_enter Tryz.func59, Tryz.ntmps59
  go_wp2_with fail
  refine C.out.mono ?_
  rintro e w1 ⟨z, rfl, hz, rfl⟩
  have HZ := Lib.hid hz; clear hz
  go_wp2
  go_ret
  exact ⟨by rw [← HZ.out]; rfl, rfl⟩

/-- A number is handed back, nothing is touched. -/
def RetN (z : Int) (w : World) (e : Ending) (w' : World) : Prop := e = .returned (.int .i64 z) ∧ w = w'
theorem ofL_at {parts : List (List Int)} {x : Int} {k : Nat} {q : List Int} (h : ∀ p, p ∈ parts.take k → ¬ x ∈ p) (hk : parts[k]? = some q) (hx : x ∈ q) : ofL parts x = k := by
  have : parts.findIdx? (fun q => decide (x ∈ q)) = some k := by
    obtain ⟨hlt, he⟩ := List.getElem?_eq_some_iff.1 hk
    rw [List.findIdx?_eq_some_iff_getElem]
    refine ⟨hlt, by rw [he]; simpa using hx, fun j hj => ?_⟩
    have := h parts[j] (List.mem_of_getElem? (i := j) (by rw [List.getElem?_take, if_pos hj]; exact List.getElem?_eq_getElem _))
    simpa using this
  simp [ofL, this]
theorem ofL_none {parts : List (List Int)} {x : Int} (h : ∀ p, p ∈ parts → ¬ x ∈ p) : ofL parts x = -1 := by
  have : parts.findIdx? (fun q => decide (x ∈ q)) = none := by
    rw [List.findIdx?_eq_none_iff]
    exact fun p hp => by simpa using h p hp
  simp [ofL, this]
theorem ofL_ge (parts : List (List Int)) (x : Int) : -1 ≤ ofL parts x ∧ ofL parts x < parts.length := by
  unfold ofL
  split
  · rename_i k hk
    have := (List.findIdx?_eq_some_iff_getElem.1 hk).1
    omega
  · omega
theorem l6Of (a : Option Addr) (n cap : Nat) (parts : List (List Int)) (x : Int) (w : World) (hr : RdLL w a n parts) (hn : n ≤ 1000) (hb : ∀ l, l ∈ parts → l.length ≤ 1000) :
    Calls Tryz.prog 41 #[.slice a n cap, .int .i64 x] w (RetN (ofL parts x) w) := by
  have HL := Lib.hid hr.len
  have HR := Lib.hid hr; clear hr
  go_enter Tryz.func41, Tryz.ntmps41
  go_wp2
  go_loop [5] (fun i => ∃ k : Nat, k ≤ n ∧ i = .int .i64 k ∧ ∀ p, p ∈ parts.take k → ¬ x ∈ p) (fun i => n - (Go.RowKit.intOf i).toNat)
  case atStart => exact ⟨0, Nat.zero_le _, rfl, by simp⟩
  case round =>
    obtain ⟨k, hk, rfl, hall⟩ := hrel
    have HA := Lib.hid hall; clear hall
    by_cases hlt : k < n
    · obtain ⟨b, off, l, la, lc, rfl, hx, hc, hrd, h1, h2⟩ := rdLL_at HR.out hlt
      have hl := hb l (List.mem_of_getElem? hx)
      have C := Lib.hid (l6Has la l.length lc l x w hrd (by omega))
      have HX := Lib.hid hx; clear hx hrd
      by_cases hq : x ∈ l
      · have HD := Lib.hid (decide_eq_true hq)
        go_wp2_with (go_at_call 46; refine C.out.mono ?_; rintro e w1 ⟨rfl, rfl⟩; rw [HD.out])
        go_ret
        exact ⟨by rw [ofL_at HA.out HX.out hq]; rfl, rfl⟩
      · have HD := Lib.hid (decide_eq_false hq)
        have HQ := Lib.hid hq; clear hq
        go_wp2_with (go_at_call 46; refine C.out.mono ?_; rintro e w1 ⟨rfl, rfl⟩; rw [HD.out])
        go_round
        case rel =>
          refine ⟨k + 1, by omega, by go_num, fun p hp => ?_⟩
          rw [take_get HX.out] at hp
          rcases List.mem_append.1 hp with hp | hp
          · exact HA.out p hp
          · rw [List.mem_singleton.1 hp]
            exact HQ.out
        case measure => simp [Go.RowKit.intOf]; omega
    · go_wp2
      go_ret
      refine ⟨?_, rfl⟩
      have := HA.out
      rw [List.take_of_length_le (by have := HL.out; omega)] at this
      rw [ofL_none this]
      rfl
end Go.Proofs.YtmcfengnihomcaaGreat

/- The three questions of one procedure: whom it calls, what can be come to, its part; reference and program. No condition. -/
namespace Go.Proofs.YtmcfengnihomcaaGreat
open Go.RowKit
set_option linter.unusedVariables false
set_option linter.unusedSimpArgs false
attribute [local go_sem] ext_cell ext_frozen ext_lt ext_le ext_le1 lt_s2 lt_s3 lt_s4 lt_s5 lt_s6 ext_lt1 ext_lt2 ext_lt3

/-- Whether a program is ok, and has a procedure. -/
def thereB (ps : List Prc) (proc : Int) : Bool := prgOkB ps && (decide (0 ≤ proc) && decide (proc < ps.length))
theorem thereB_yes {ps : List Prc} {proc : Int} (h : thereB ps proc = true) : prgOkB ps = true ∧ 0 ≤ proc ∧ proc < ps.length := by simpa [thereB] using h
/-- A test that makes memory at most. -/
def RetTG (b : Bool) (w : World) (e : Ending) (w' : World) : Prop := e = .returned (.bool b) ∧ Grew w w'
theorem retIs_nil {w w' : World} (g : Grew w w') : RetIs [] w (.returned (.slice none 0 0)) w' := ⟨none, 0, rfl, World.ownsRow_nil _ _ _ _, g⟩
theorem retIs_lit {w W : World} (b : Nat) (hb : b = W.heap.size) (g : Grew w W) : RetIs [] w (.returned (.slice (some ⟨b, 0, none⟩) 0 0)) (W.alloc (.cells #[] 3)) := by
  subst hb
  exact ⟨_, _, rfl, by simpa [ints] using World.ownsRow_lit W (e := 3) (size := 1) #[] 0 (base := w.heap.size) g.size (Nat.zero_le _) rfl, g.alloc g.size _⟩
/-- A call's own row out of an owned graph. -/
theorem gr_call {w : World} {B gb k : Nat} {cs parts : List (List Int)} (h : GrOwn w B gb cs parts) (hk : k < cs.length) : ∃ b off cp la lc, w.cell? ⟨gb, 1, none⟩ = some (.slice (some ⟨b, off, none⟩) cs.length cp) ∧ w.cell? ⟨b, off + k, none⟩ = some (.slice la (cOf' cs k).length lc) ∧
    w.ownsRow B 3 1 (.slice la (cOf' cs k).length lc) (cOf' cs k).length (ints .i64 (cOf' cs k)) := by
  obtain ⟨⟨x, cv, pv, cms, pms, h1, h2, h3, h4, h5⟩, h6, h7, h8⟩ := h
  obtain ⟨A, cp, rfl⟩ := owns_slice h2.row
  have hl : cms.length = cs.length := by rw [← h3]; simp
  have hr := owns_rd h2.row
  rcases hr.2 with e | ⟨b, off, rfl, hc⟩
  · have := congrArg List.length e
    simp only [List.length_map, List.length_nil] at this
    omega
  · have hm : cms[k]? = some (cms[k]'(by omega)) := List.getElem?_eq_getElem _
    have ho := h2.each _ (List.mem_of_getElem? hm)
    have e1 : cOf' cs (k : Int) = (cms[k]'(by omega)).1 := by
      have : cs[k]? = some (cms[k]'(by omega)).1 := by
        have h := congrArg (fun l => l[k]?) h3
        simp only [List.getElem?_map, hm] at h
        exact h.symm
      simp [cOf', this]
    obtain ⟨la, lc, hv⟩ := owns_slice ho
    have h9 : w.cell? ⟨b, off + k, none⟩ = some (cms[k]'(by omega)).2 := hc k _ (by rw [List.getElem?_map, hm]; rfl)
    rw [hv] at ho h9
    rw [e1]
    exact ⟨b, off, cp, la, lc, by rw [← hl]; exact h1.cell 1, h9, ho⟩

/-- GrfCalls. -/
def grfCalls (ps : List Prc) (proc : Int) : List Int := if thereB ps proc then cOf' (csOf ps) proc else []
/-- GrfReach. -/
def grfReach (ps : List Prc) (proc : Int) : List Int := if thereB ps proc then reachL (cOf' (csOf ps)) (csOf ps).length proc else []
/-- GrfPart. -/
def grfPart (ps : List Prc) (proc : Int) : List Int := if thereB ps proc then partL (cOf' (csOf ps)) (csOf ps).length proc else []
theorem grfCalls_len (ps : List Prc) (proc : Int) : (grfCalls ps proc).length ≤ 10 := by
  unfold grfCalls
  cases h : thereB ps proc
  · simp
  · exact cs_len (thereB_yes h).1 _
theorem grfReach_len (ps : List Prc) (proc : Int) : (grfReach ps proc).length ≤ 10 := by
  unfold grfReach
  cases h : thereB ps proc
  · simp
  · obtain ⟨h1, h2⟩ := thereB_yes h
    have := (reach_pl (gok_of h1) (a := proc) (by rw [csOf_len]; exact h2)).len
    have h4 := (prg_len h1).2
    rw [if_pos rfl]
    rw [csOf_len] at this ⊢
    omega
theorem grfPart_len (ps : List Prc) (proc : Int) : (grfPart ps proc).length ≤ 10 := by
  unfold grfPart
  cases h : thereB ps proc
  · simp
  · obtain ⟨h1, h2⟩ := thereB_yes h
    have := (part_pl (gok_of h1) (a := proc) (by rw [csOf_len]; exact h2)).len
    have h4 := (prg_len h1).2
    rw [if_pos rfl]
    rw [csOf_len] at this ⊢
    omega
end Go.Proofs.YtmcfengnihomcaaGreat

/- Rows of rows of numbers as answers: compared, marked, held. No condition. -/
namespace Go.Proofs.YtmcfengnihomcaaGreat
open Go.RowKit
set_option linter.unusedVariables false
set_option linter.unusedSimpArgs false
attribute [local go_sem] ext_cell ext_frozen ext_lt ext_le ext_le1 lt_s2 lt_s3 lt_s4 lt_s5 lt_s6 ext_lt1 ext_lt2 ext_lt3

/-- The answer: a row of rows of the call's own. -/
def RetLL (ls : List (List Int)) (w : World) (e : Ending) (w' : World) : Prop := ∃ a c ms, e = .returned (.slice a ls.length c) ∧ OwnLL w' w.heap.size (.slice a ls.length c) ms ∧ ms.map (·.1) = ls ∧ Grew w w'
theorem retLL_of {P : Program} {f : FuncId} {args : Array Value} {w : World} {L S : List (List Int)} (h : Calls P f args w (RetLL L w)) (hS : L = S) : Calls P f args w (RetLL S w) := hS ▸ h
theorem ll_len {ms : List (List Int × Value)} {ls : List (List Int)} (h : ms.map (·.1) = ls) : ms.length = ls.length := by rw [← h]; simp

/-- Marked numbers. -/
def markZ (k m : Nat) : List Int := (List.range m).map fun j => ((k + j : Nat) : Int)
theorem markZ_ints (k m : Nat) : markI k m = ints .i64 (markZ k m) := by simp [markI, markZ, ints]
theorem markZ_len (k m : Nat) : (markZ k m).length = m := by simp [markZ]
def marksL : Nat → List (List Int × Value) → List (List Int × Value)
  | _, [] => []
  | k, m :: ms => (markZ k m.1.length, m.2) :: marksL (k + m.1.length) ms
def sumL (ms : List (List Int × Value)) : Nat := (ms.map fun m => m.1.length).sum
theorem marksL_len : ∀ (k : Nat) (ms : List (List Int × Value)), (marksL k ms).length = ms.length
  | _, [] => rfl
  | k, m :: ms => by rw [marksL, List.length_cons, marksL_len]; rfl
theorem marksL_snoc : ∀ (k : Nat) (ms : List (List Int × Value)) (m : List Int × Value), marksL k (ms ++ [m]) = marksL k ms ++ [(markZ (k + sumL ms) m.1.length, m.2)]
  | k, [], m => by simp [marksL, sumL]
  | k, x :: ms, m => by
    rw [List.cons_append, marksL, marksL_snoc, marksL, List.cons_append]
    simp [sumL, Nat.add_assoc]
theorem marksL_vals : ∀ (k : Nat) (ms : List (List Int × Value)), (marksL k ms).map (·.2) = ms.map (·.2)
  | _, [] => rfl
  | k, m :: ms => by rw [marksL, List.map_cons, marksL_vals, List.map_cons]
theorem sumL_snoc (ms : List (List Int × Value)) (m : List Int × Value) : sumL (ms ++ [m]) = sumL ms + m.1.length := by simp [sumL]
theorem sumL_le {ms : List (List Int × Value)} {N : Nat} (h : ∀ m, m ∈ ms → m.1.length ≤ N) : sumL ms ≤ ms.length * N := by
  induction ms with
  | nil => simp [sumL]
  | cons m ms ih =>
    have h1 := ih (fun x hx => h x (by simp [hx]))
    have h2 := h m (by simp)
    simp only [sumL, List.map_cons, List.sum_cons, List.length_cons] at h1 ⊢
    rw [Nat.succ_mul]
    omega
/-- Row k of them. -/
theorem OwnLL.at_ {w : World} {B n c : Nat} {a : Option Addr} {ms : List (List Int × Value)} (h : OwnLL w B (.slice a n c) ms) {k : Nat} {m : List Int × Value} (hm : ms[k]? = some m) : ∃ b off la lc, a = some ⟨b, off, none⟩ ∧ m.2 = .slice la m.1.length lc ∧ w.cell? ⟨b, off + k, none⟩ = some (.slice la m.1.length lc) ∧ w.ownsRow B 3 1 (.slice la m.1.length lc) m.1.length (ints .i64 m.1) := by
  obtain ⟨A, cc, e⟩ := owns_slice h.row
  simp only [Value.slice.injEq] at e
  obtain ⟨rfl, rfl, rfl⟩ := e
  have hr := owns_rd h.row
  have ho := h.each m (List.mem_of_getElem? hm)
  obtain ⟨la, lc, hv⟩ := owns_slice ho
  rcases hr.2 with e | ⟨b, off, rfl, hc⟩
  · have h1 := congrArg List.length e
    have h2 := (List.getElem?_eq_some_iff.1 hm).1
    simp only [List.length_map, List.length_nil] at h1
    omega
  · have h9 : w.cell? ⟨b, off + k, none⟩ = some m.2 := hc k _ (by rw [List.getElem?_map, hm]; rfl)
    rw [hv] at h9 ho
    exact ⟨b, off, la, lc, rfl, hv, h9, ho⟩
/-- Row k is written anew. -/
theorem OwnLL.turn {w w' : World} {B : Nat} {v : Value} {xs ys : List (List Int × Value)} {m : List Int × Value} {l : List Int} (h : OwnLL w B v (xs ++ m :: ys)) (hl : l.length = m.1.length)
    (ho : w'.ownsRow B 3 1 m.2 m.1.length (ints .i64 l)) (c : Chg (fun b => m.2.ownBlock = some b) w w') : OwnLL w' B v (xs ++ (l, m.2) :: ys) := by
  have hm := h.each m (by simp)
  obtain ⟨p1, p2, p3⟩ := List.pairwise_append.1 h.apart
  obtain ⟨p4, p5⟩ := List.pairwise_cons.1 p2
  have hlen : (xs ++ (l, m.2) :: ys).length = (xs ++ m :: ys).length := by simp
  refine ⟨?_, fun u hu => ?_, ?_⟩
  · rw [hlen, show (xs ++ (l, m.2) :: ys).map (·.2) = (xs ++ m :: ys).map (·.2) from by simp]
    exact owns_chg h.row c (fun b e1 e2 => row_row_ne hm h.row (by decide) e2 e1)
  · rcases List.mem_append.1 hu with hx | hx
    · exact owns_chg (h.each u (by simp [hx])) c (fun b e1 e2 => p3 u hx m (by simp) b e1 e2)
    · rcases List.mem_cons.1 hx with rfl | hx
      · simp only [hl]
        exact ho
      · exact owns_chg (h.each u (by simp [hx])) c (fun b e1 e2 => p4 u hx b e2 e1)
  · refine List.pairwise_append.2 ⟨p1, List.pairwise_cons.2 ⟨fun u hu b e1 e2 => p4 u hu b e1 e2, p5⟩, fun u hu u' hu' b e1 e2 => ?_⟩
    rcases List.mem_cons.1 hu' with rfl | hu'
    · exact p3 u hu m (by simp) b e1 e2
    · exact p3 u hu u' (by simp [hu']) b e1 e2

theorem marksL_get : ∀ (k0 : Nat) (ms : List (List Int × Value)) (k : Nat) (m : List Int × Value), ms[k]? = some m → (marksL k0 ms)[k]? = some (markZ (k0 + sumL (ms.take k)) m.1.length, m.2)
  | _, [], k, m, h => by simp at h
  | k0, x :: ms, 0, m, h => by
    simp only [List.getElem?_cons_zero, Option.some.injEq] at h
    subst h
    simp [marksL, sumL]
  | k0, x :: ms, k + 1, m, h => by
    rw [List.getElem?_cons_succ] at h
    rw [marksL, List.getElem?_cons_succ, marksL_get _ ms k m h]
    simp [sumL, Nat.add_assoc]
/-! GrfParts. -/
def grfParts (ps : List Prc) : List (List Int) := if prgOkB ps then ptOf ps else []
theorem ptOf_bd {ps : List Prc} (hB : prgOkB ps = true) : (ptOf ps).length ≤ 4 ∧ ∀ l, l ∈ ptOf ps → l.length ≤ 4 := by
  have h4 := (prg_len hB).2
  have h1 := (prg_len hB).1
  have hok := gok_of hB
  have hp := reach_pl hok (a := 0) (by rw [csOf_len]; omega)
  have hr := hp.len
  rw [csOf_len] at hr
  constructor
  · simp only [ptOf, partsL, partsP, List.length_map]
    rw [← csOf_len ps]
    have := List.length_filter_le (firstB (cOf' (csOf ps)) (csOf ps).length) (reachL (cOf' (csOf ps)) (csOf ps).length 0)
    rw [csOf_len] at this ⊢
    omega
  · intro l hl
    simp only [ptOf, partsL, partsP, List.mem_map] at hl
    obtain ⟨x, hx, rfl⟩ := hl
    rw [← csOf_len ps] at hx ⊢
    have := (part_pl hok (hp.b x (List.mem_filter.1 hx).1)).len
    rw [csOf_len] at this ⊢
    omega
end Go.Proofs.YtmcfengnihomcaaGreat

/- What a part needs, the program's side. No condition. -/
namespace Go.Proofs.YtmcfengnihomcaaGreat
open Go.RowKit
set_option linter.unusedVariables false
set_option linter.unusedSimpArgs false
attribute [local go_sem] ext_cell ext_frozen ext_lt ext_le ext_le1 lt_s2 lt_s3 lt_s4 lt_s5 lt_s6 ext_lt1 ext_lt2 ext_lt3

/-- A graph with its parts, read. -/
structure GrR (w : World) (gb : Nat) (cs parts : List (List Int)) : Prop where
  c : ∃ ca cc, w.cell? ⟨gb, 1, none⟩ = some (.slice ca cs.length cc) ∧ RdLL w ca cs.length cs
  p : ∃ pa pc, w.cell? ⟨gb, 2, none⟩ = some (.slice pa parts.length pc) ∧ RdLL w pa parts.length parts
theorem GrOwn.rd {w : World} {B gb : Nat} {cs parts : List (List Int)} (h : GrOwn w B gb cs parts) : GrR w gb cs parts := by
  obtain ⟨⟨x, cv, pv, cms, pms, h1, h2, h3, h4, h5⟩, h6, h7, h8⟩ := h
  obtain ⟨ca, cc, rfl⟩ := owns_slice h2.row
  obtain ⟨pa, pc, rfl⟩ := owns_slice h4.row
  refine ⟨⟨ca, cc, by rw [← ll_len h3]; exact h1.cell 1, ?_⟩, ⟨pa, pc, by rw [← ll_len h5]; exact h1.cell 2, ?_⟩⟩
  · have := h2.rd rfl
    rwa [h3, ll_len h3] at this
  · have := h4.rd rfl
    rwa [h5, ll_len h5] at this
theorem GrR.grew {w w' : World} {gb : Nat} {cs parts : List (List Int)} (h : GrR w gb cs parts) (g : Grew w w') : GrR w' gb cs parts := by
  obtain ⟨⟨ca, cc, h1, h2⟩, ⟨pa, pc, h3, h4⟩⟩ := h
  exact ⟨⟨ca, cc, (g.cell (p := ⟨gb, 1, none⟩) (World.block_lt_of_cell? w _ h1)).trans h1, RdL.grew stays_ints h2 g⟩, ⟨pa, pc, (g.cell (p := ⟨gb, 2, none⟩) (World.block_lt_of_cell? w _ h3)).trans h3, RdL.grew stays_ints h4 g⟩⟩
/-- The first i parts that part k calls. -/
def needsN (c : Int → List Int) (parts : List (List Int)) (k i : Nat) : List Int := ((List.range i).filter fun o => o != k && needB c parts k o).map fun o : Nat => (o : Int)
theorem needsN_succ (c : Int → List Int) (parts : List (List Int)) (k i : Nat) : needsN c parts k (i + 1) = needsN c parts k i ++ if (i != k && needB c parts k i) then [(i : Int)] else [] := by
  unfold needsN
  rw [List.range_succ, List.filter_append, List.map_append]
  congr 1
  cases h : (i != k && needB c parts k i) <;> simp [h]
theorem needsN_len (c : Int → List Int) (parts : List (List Int)) (k i : Nat) : (needsN c parts k i).length ≤ i := by
  unfold needsN
  rw [List.length_map]
  exact Nat.le_trans (List.length_filter_le _ _) (by simp)

set_option maxRecDepth 100000 in
set_option maxHeartbeats 4000000 in
theorem implNeeds (gb k : Nat) (cs parts : List (List Int)) (w : World) (h : GrR w gb cs parts) (hk : k < parts.length) (hp4 : parts.length ≤ 4) (hq4 : ∀ q, q ∈ parts → q.length ≤ 4) (hqb : ∀ q, q ∈ parts → ∀ x, x ∈ q → 0 ≤ x ∧ x < cs.length) (hc4 : cs.length ≤ 4) (hcl : ∀ l, l ∈ cs → l.length ≤ 10) :
    Calls Tryz.prog 60 #[.pointer (some ⟨gb, 0, none⟩), .int .i64 k] w (RetIs (needsI (cOf' cs) parts k) w) := by
  have HG := Lib.hid h
  obtain ⟨⟨ca, cc, hc1, -⟩, ⟨pa, pc, hc2, hpr⟩⟩ := h
  have HPR := Lib.hid hpr
  have HC2 := Lib.hid hc2
  have HC1 := Lib.hid hc1
  have lgb := World.block_lt_of_cell? w _ hc1
  simp only at lgb
  clear hpr hc1
  go_enter Tryz.func60, Tryz.ntmps60
  go_wp2
  clear hc2
  go_loopw [5, 15] (fun v i wr => ∃ m : Nat, m ≤ parts.length ∧ i = .int .i64 m ∧ Grew w wr ∧ wr.ownsRow w.heap.size 3 1 v (needsN (cOf' cs) parts k m).length (ints .i64 (needsN (cOf' cs) parts k m))) (fun _ i _ => parts.length - (Go.RowKit.intOf i).toNat)
  case atStart => exact ⟨0, Nat.zero_le _, rfl, Below.refl _ _, by simpa [needsN, ints] using World.ownsRow_nil _ _ _ _⟩
  case round =>
    obtain ⟨m, hm, rfl, hg, ho⟩ := hrel
    have hnl := needsN_len (cOf' cs) parts k m
    have hns := Lib.hid (needsN_succ (cOf' cs) parts k m)
    obtain ⟨oa, oc, rfl⟩ := owns_slice ho
    have hsz := hg.size
    have hgne : ¬ gb = wr.heap.size := by omega
    have hq2 : wr.cell? ⟨gb, 2, none⟩ = some (.slice pa parts.length pc) := (hg.cell (p := ⟨gb, 2, none⟩) lgb).trans HC2.out
    have hq1 : wr.cell? ⟨gb, 1, none⟩ = some (.slice ca cs.length cc) := (hg.cell (p := ⟨gb, 1, none⟩) lgb).trans HC1.out
    by_cases hlt : m < parts.length
    · have hns0 := hns.out
      obtain ⟨N, hNd⟩ : ∃ N, needsN (cOf' cs) parts k m = N := ⟨_, rfl⟩
      rw [hNd] at hnl hns0 ho
      clear hns
      have hns := Lib.hid hns0
      have HND := Lib.hid hNd
      simp only [hNd]
      clear hns0 hNd
      obtain ⟨pb, poff, q, la, lc, rfl, hx, hcell, hrd, h1, h2⟩ := rdLL_at (RdL.grew stays_ints HPR.out hg) hlt
      obtain ⟨pb2, poff2, Q, Qa, Qc, e2, hxQ, hcellQ, hrdQ, h3, h4⟩ := rdLL_at (RdL.grew stays_ints HPR.out hg) hk
      obtain ⟨rfl, rfl⟩ : pb2 = pb ∧ poff2 = poff := by simpa [eq_comm] using e2
      clear e2
      have hql := hq4 q (List.mem_of_getElem? hx)
      have hQl := hq4 Q (List.mem_of_getElem? hxQ)
      have hQb := hqb Q (List.mem_of_getElem? hxQ)
      have lpb := World.block_lt_of_cell? wr _ hcell
      simp only at lpb
      have hpne : ¬ pb2 = wr.heap.size := by omega
      have hqe : parts.getD m [] = q := by simp [hx]
      have hQe : parts.getD k [] = Q := by simp [hxQ]
      have hg2 : Grew wr (wr.alloc (.cells #[.slice la q.length lc] 26)) := grew_al (Below.refl _ _) _
      have HGW := Lib.hid (grew_tr hg hg2)
      have HO := Lib.hid (owns_grew ho hg2)
      have HRQ := Lib.hid (hrdQ.grew hg2)
      have HRq := Lib.hid (hrd.grew hg2)
      have HG2 := Lib.hid (HG.out.grew (grew_tr hg hg2))
      have hbx : (wr.alloc (.cells #[.slice la q.length lc] 26)).cell? ⟨wr.heap.size, 0, none⟩ = some (.slice la q.length lc) := by simp [go_sem]
      have HBX := Lib.hid hbx
      have hle := hg2.size
      by_cases hmk : m = k
      · subst hmk
        have HN : Hid (needsN (cOf' cs) parts m (m + 1) = N) := Lib.hid (by rw [hns.out]; simp)
        have b1 : ((m : Int) == (m : Int)) = true := by simp
        clear hx hrd hxQ hrdQ hg ho hns HRQ HRq hbx hcellQ
        go_wp2
        go_roundw
        case rel => exact ⟨m + 1, by omega, by go_num, HGW.out, by rw [HN.out]; exact HO.out⟩
        case measure => simp [Go.RowKit.intOf]; omega
      · have HN : Hid (needsN (cOf' cs) parts k (m + 1) = N ++ if (Q.any fun x => (cOf' cs x).any fun y => decide (y ∈ q)) then [(m : Int)] else []) := Lib.hid (by rw [hns.out, needB, hqe, hQe]; simp [hmk])
        have HQB := Lib.hid hQb
        have b1 : ((m : Int) == (k : Int)) = false := by simp; omega
        have f1 : (wr.alloc (.cells #[.slice la q.length lc] 26)).cell? ⟨gb, 1, none⟩ = some (.slice ca cs.length cc) := by rw [World.cell?_alloc_old _ _ _ hgne]; exact hq1
        have f2 : (wr.alloc (.cells #[.slice la q.length lc] 26)).cell? ⟨gb, 2, none⟩ = some (.slice (some ⟨pb2, poff2, none⟩) parts.length pc) := by rw [World.cell?_alloc_old _ _ _ hgne]; exact hq2
        have f3 : (wr.alloc (.cells #[.slice la q.length lc] 26)).cell? ⟨pb2, poff2 + k, none⟩ = some (.slice Qa Q.length Qc) := by rw [World.cell?_alloc_old _ _ _ hpne]; exact hcellQ
        clear hx hrd hxQ hrdQ hg ho hns hqe hQe hQb
        go_wp2
        go_loop [5, 31] (fun v i => ∃ j : Nat, j ≤ Q.length ∧ i = .int .i64 j ∧ v = .slice oa N.length oc ∧ ∀ x, x ∈ Q.take j → ((cOf' cs x).any fun y => decide (y ∈ q)) = false) (fun _ i => Q.length - (Go.RowKit.intOf i).toNat)
        case atStart => exact ⟨0, Nat.zero_le _, rfl, rfl, by simp⟩
        case round =>
          obtain ⟨j, hj, rfl, rfl, hall⟩ := hrel
          have HA := Lib.hid hall; clear hall
          by_cases hlj : j < Q.length
          · obtain ⟨qb, qoff, x, rfl, hxj, hcx⟩ := HRQ.out.at1 hlj
            obtain ⟨hx0, hx1⟩ := HQB.out x (List.mem_of_getElem? hxj)
            obtain ⟨xn, rfl⟩ := Int.eq_ofNat_of_zero_le hx0
            obtain ⟨⟨ca', cc', e1, hcr⟩, -⟩ := HG2.out
            rw [f1, Option.some.injEq, Value.slice.injEq] at e1
            obtain ⟨rfl, -, rfl⟩ := e1
            obtain ⟨cb, coff, r, ra, rc, rfl, hxr, hcr2, hrdr, h5, h6⟩ := rdLL_at hcr (k := xn) (by omega)
            have hre : cOf' cs (xn : Int) = r := by simp [cOf', hxr]
            have hrl := hcl r (List.mem_of_getElem? hxr)
            have C := Lib.hid (containsFunc ra r.length rc r wr.heap.size la q.length lc q _ hrdr (by omega) HBX.out HRq.out (by omega))
            have HXJ := Lib.hid hxj
            have HRE := Lib.hid hre
            obtain ⟨T, hT⟩ : ∃ T, (r.any fun y => decide (y ∈ q)) = T := ⟨_, rfl⟩
            rw [hT] at C
            have HT := Lib.hid hT
            clear hxj hre hT hrdr hxr hcr
            cases T
            · go_wp2_with fail
              refine C.out.mono ?_
              rintro e w5 ⟨rfl, rfl⟩
              go_wp2
              go_round
              case rel =>
                refine ⟨j + 1, by omega, by go_num, rfl, fun y hy => ?_⟩
                rw [take_get HXJ.out] at hy
                rcases List.mem_append.1 hy with hy | hy
                · exact HA.out y hy
                · rw [List.mem_singleton.1 hy, HRE.out]
                  exact HT.out
              case measure => simp [Go.RowKit.intOf]; omega
            · have HF : Hid (needsN (cOf' cs) parts k (m + 1) = N ++ [(m : Int)]) := Lib.hid (by
                rw [HN.out, if_pos]
                exact List.any_eq_true.2 ⟨(xn : Int), List.mem_of_getElem? HXJ.out, by rw [HRE.out]; exact HT.out⟩)
              obtain ⟨a2, c2, w2, r2, o2, g2⟩ := appOne (w := w) (m : Int) HO.out (by omega) HGW.out
              simp only [World.size_alloc] at r2
              have R2 := Lib.hid r2
              have O2 := Lib.hid o2
              have G2 := Lib.hid g2
              clear r2 o2 g2
              go_wp2_with fail
              refine C.out.mono ?_
              rintro e w5 ⟨rfl, rfl⟩
              clear C HRQ HRq HG2 f1 f2 f3 hq1 hq2 HBX HXJ HRE HT HA HN
              go_wp2_with (at_builtin; refine wpList_append_run rfl _ _ rfl rfl rfl rfl R2.out ?_; clear R2)
              go_roundw
              case rel => exact ⟨m + 1, by omega, by go_num, G2.out, by rw [HF.out, List.length_append]; exact O2.out⟩
              case measure => simp [Go.RowKit.intOf]; omega
          · obtain rfl : j = Q.length := by omega
            have hA := HA.out
            rw [List.take_length] at hA
            have HF : Hid (needsN (cOf' cs) parts k (m + 1) = N) := Lib.hid (by
              rw [HN.out, if_neg, List.append_nil]
              rw [Bool.not_eq_true, List.any_eq_false]
              intro x hx
              rw [hA x hx]
              simp)
            clear hA
            go_wp2
            go_roundw
            case rel => exact ⟨m + 1, by omega, by go_num, HGW.out, by rw [HF.out]; exact HO.out⟩
            case measure => simp [Go.RowKit.intOf]; omega
    · obtain rfl : m = parts.length := by omega
      have HO := Lib.hid ho
      have HGW := Lib.hid hg
      clear ho hg hq1 hq2
      go_wp2
      go_ret
      exact ⟨oa, oc, rfl, HO.out, HGW.out⟩
end Go.Proofs.YtmcfengnihomcaaGreat

/- What a part needs, the reference's side. No condition. -/
namespace Go.Proofs.YtmcfengnihomcaaGreat
open Go.RowKit
set_option linter.unusedVariables false
set_option linter.unusedSimpArgs false
attribute [local go_sem] ext_cell ext_frozen ext_lt ext_le ext_le1 lt_s2 lt_s3 lt_s4 lt_s5 lt_s6 ext_lt1 ext_lt2 ext_lt3

theorem needP_len (parts : List (List Int)) (k : Int) (out : List Int) (y : Int) : (needP parts k out y).length ≤ out.length + 2 := by
  unfold needP
  split
  · exact putF_len _ _
  · omega

set_option maxRecDepth 100000 in
set_option maxHeartbeats 4000000 in
theorem l6Needs (a : Option Addr) (n cap : Nat) (ps : List Prc) (pa : Option Addr) (pn pc : Nat) (parts : List (List Int)) (k : Nat) (w : World) (hr : RdP w a n ps) (hn : n ≤ 9223372036854775807) (hB : prgOkB ps = true)
    (hpr : RdLL w pa pn parts) (hk : k < parts.length) (hp4 : pn ≤ 4) (hq4 : ∀ q, q ∈ parts → q.length ≤ 4) (hqb : ∀ q, q ∈ parts → ∀ x, x ∈ q → 0 ≤ x ∧ x < n) :
    Calls Tryz.prog 27 #[.agg #[.slice a n cap], .slice pa pn pc, .int .i64 k] w (RetIs (needsS (cOf' (csOf ps)) parts k) w) := by
  have HCL := Lib.hid (fun k => cs_len hB k)
  have HC := Lib.hid (fun (proc : Int) (hp : 0 ≤ proc ∧ proc < n) W (g : Grew w W) => l6Calls a n cap ps proc W (hr.grew g) hn hB hp)
  have hpl := hpr.len
  have HOf := Lib.hid (fun (x : Int) W (g : Grew w W) => l6Of pa pn pc parts x W (RdL.grew stays_ints hpr g) (by omega) (fun l hl => Nat.le_trans (hq4 l hl) (by omega)))
  obtain ⟨c, hcc⟩ : ∃ c, cOf' (csOf ps) = c := ⟨_, rfl⟩
  rw [hcc] at HC HCL
  rw [hcc]
  obtain ⟨pb, poff, Q, Qa, Qc, rfl, hxQ, hcellQ, hrdQ, h3, h4⟩ := rdLL_at hpr (k := k) (by omega)
  have HQB := Lib.hid (hqb Q (List.mem_of_getElem? hxQ))
  have hQl := hq4 Q (List.mem_of_getElem? hxQ)
  have HE := Lib.hid (show needsS c parts k = Q.foldl (fun out i => (c i).foldl (needP parts k) out) [] from by simp [needsS, hxQ])
  obtain ⟨P, hP⟩ : ∃ P, needP parts (k : Int) = P := ⟨_, rfl⟩
  have HPL := Lib.hid (fun out y => needP_len parts (k : Int) out y)
  have HPE := Lib.hid (fun out y (h : ofL parts y = (k : Int)) => show needP parts (k : Int) out y = out from by simp [needP, h])
  have HPN := Lib.hid (fun out y (h : ¬ ofL parts y = (k : Int)) => show needP parts (k : Int) out y = putF out (ofL parts y) from by simp [needP, h])
  have HOB := Lib.hid (fun y => ofL_ge parts y)
  rw [hP] at HE HPL HPE HPN
  have HRQ := Lib.hid hrdQ
  have H0 := Lib.hid (show ((w.alloc (.cells #[.slice a n cap] 30)).alloc (.cells #[] 3)).ownsRow w.heap.size 3 1 (.slice (some ⟨w.heap.size + 1, 0, none⟩) 0 0) 0 (ints .i64 []) from by
    simpa [ints] using World.ownsRow_lit (w.alloc (.cells #[.slice a n cap] 30)) (e := 3) (size := 1) #[] 0 (base := w.heap.size) (by simp) (Nat.zero_le _) rfl)
  have HCQ := Lib.hid hcellQ
  have lpb := World.block_lt_of_cell? w _ hcellQ
  simp only at lpb
  clear hr hB hcc hpr hxQ hrdQ hP hq4 hqb hcellQ
  go_enter Tryz.func27, Tryz.ntmps27
  go_wp2
  go_loopw [7, 8] (fun v i wr => ∃ m : Nat, m ≤ Q.length ∧ i = .int .i64 m ∧ Grew (w.alloc (.cells #[.slice a n cap] 30)) wr ∧ ((Q.take m).foldl (fun out i => (c i).foldl P out) []).length ≤ 20 * m ∧ wr.ownsRow w.heap.size 3 1 v ((Q.take m).foldl (fun out i => (c i).foldl P out) []).length (ints .i64 ((Q.take m).foldl (fun out i => (c i).foldl P out) []))) (fun _ i _ => Q.length - (Go.RowKit.intOf i).toNat)
  case atStart => exact ⟨0, Nat.zero_le _, rfl, grew_al (Below.refl _ _) _, Nat.le_refl _, H0.out⟩
  case round =>
    clear H0
    obtain ⟨m, hm, rfl, hg, hS20, ho⟩ := hrel
    obtain ⟨oa, oc, rfl⟩ := owns_slice ho
    have hb0 : wr.cell? ⟨w.heap.size, 0, none⟩ = some (.slice a n cap) := (hg.cell (p := ⟨w.heap.size, 0, none⟩) (by simp)).trans (by simp [go_sem])
    have hG := grew_tr (grew_al (Below.refl _ _) _) hg
    have hq0 : wr.cell? ⟨pb, poff + k, none⟩ = some (.slice Qa Q.length Qc) := (hG.cell (p := ⟨pb, poff + k, none⟩) lpb).trans HCQ.out
    by_cases hlt : m < Q.length
    · obtain ⟨b, off, y, rfl, hy, hcell⟩ := (HRQ.out.grew hG).at1 hlt
      have hyb := HQB.out y (List.mem_of_getElem? hy)
      have HR2 := Lib.hid (show (Q.take (m + 1)).foldl (fun out i => (c i).foldl P out) [] = (c y).foldl P ((Q.take m).foldl (fun out i => (c i).foldl P out) []) from by rw [take_get hy, List.foldl_append]; rfl)
      have HC2 := Lib.hid (fun W (g : Grew wr W) => HC.out y hyb W (grew_tr hG g))
      have hcl := HCL.out y
      obtain ⟨R, hR⟩ : ∃ R, (Q.take m).foldl (fun out i => (c i).foldl P out) [] = R := ⟨_, rfl⟩
      rw [hR] at HR2 ho hS20
      rw [hR]
      obtain ⟨Y, hY⟩ : ∃ Y, c y = Y := ⟨_, rfl⟩
      rw [hY] at HR2 HC2 hcl
      have HG2 := Lib.hid hG
      have HG3 := Lib.hid hg
      have HO2 := Lib.hid ho
      clear hR hY hg ho hy hG
      have HSG : Hid (∀ W, Grew wr W → W.cell? ⟨w.heap.size, 0, none⟩ = some (.slice a n cap) ∧ W.cell? ⟨pb, poff + k, none⟩ = some (.slice (some ⟨b, off, none⟩) Q.length Qc) ∧ W.cell? ⟨b, off + m, none⟩ = some (.int .i64 y)) := Lib.hid (fun W g => ⟨(g.cell (p := ⟨w.heap.size, 0, none⟩) (World.block_lt_of_cell? wr _ hb0)).trans hb0, (g.cell (p := ⟨pb, poff + k, none⟩) (World.block_lt_of_cell? wr _ hq0)).trans hq0, (g.cell (p := ⟨b, off + m, none⟩) (World.block_lt_of_cell? wr _ hcell)).trans hcell⟩)
      have i1 : (0 : Int) ≤ (k : Int) := by omega
      have i2 : (k : Int) < (pn : Int) := by omega
      have i3 : (0 : Int) ≤ (m : Int) := by omega
      have i4 : (m : Int) < (Q.length : Int) := by omega
      go_wp2_with fail
      go_region_held3 (fun W => W.cell? ⟨w.heap.size, 0, none⟩ = some (.slice a n cap) ∧ W.cell? ⟨pb, poff + k, none⟩ = some (.slice (some ⟨b, off, none⟩) Q.length Qc) ∧ W.cell? ⟨b, off + m, none⟩ = some (.int .i64 y)) (with_reducible (first | assumption | exact HSG.out _ (grew_d (Below.refl _ _))))
        ((go_at_call 40; (with_reducible refine (HC2.out _ (grew_d (Below.refl _ _))).mono ?_); rintro e w5 ⟨A5, c5, rfl, o5, g5⟩; have t5 := HSG.out _ (grew_tr (grew_d (Below.refl _ _)) g5)))
      have hww : w.heap.size ≤ wr.heap.size := HG2.out.size
      have O5 := Lib.hid (owns_mono o5 (show w.heap.size ≤ _ from by first | exact hww | (simp; omega)))
      have G5 := Lib.hid (grew_tr HG3.out (grew_tr (grew_d (Below.refl _ _)) g5))
      have OR := Lib.hid (owns_grew HO2.out (grew_tr (grew_d (Below.refl _ _)) g5))
      have hY9 : Y.length ≤ 9223372036854775807 := by omega
      clear HSG hb0 hq0 hcell o5 g5 HO2 HG2 HG3
      go_wp2
      obtain ⟨w6, hw6⟩ : ∃ w6, w5 = w6 := ⟨_, rfl⟩
      rw [hw6] at O5 G5 OR
      have HW6 := Lib.hid hw6
      clear hw6 t5
      go_loopw [7, 10] (fun v i wr => ∃ q : Nat, q ≤ Y.length ∧ i = .int .i64 q ∧ Grew w6 wr ∧ ((Y.take q).foldl P R).length ≤ 20 * m + 2 * q ∧ wr.ownsRow w.heap.size 3 1 v ((Y.take q).foldl P R).length (ints .i64 ((Y.take q).foldl P R))) (fun _ i _ => Y.length - (Go.RowKit.intOf i).toNat)
      case atStart => exact ⟨0, Nat.zero_le _, rfl, by rw [HW6.out]; exact Below.refl _ _, by simpa using hS20, by rw [HW6.out]; exact OR.out⟩
      case round =>
        obtain ⟨q, hq, rfl, hg, hl20, ho⟩ := hrel
        obtain ⟨xa, xc, rfl⟩ := owns_slice ho
        by_cases hlt3 : q < Y.length
        · obtain ⟨b3, off3, z, rfl, hz, hzc⟩ := ((owns_rd O5.out).grew hg).at1 hlt3
          have HE3 := Lib.hid (show (Y.take (q + 1)).foldl P R = P ((Y.take q).foldl P R) z from by rw [take_get hz, List.foldl_append]; rfl)
          have HL3 := HPL.out ((Y.take q).foldl P R) z
          have hzb := HOB.out z
          have hGw := grew_tr (grew_tr (grew_al (Below.refl _ _) _) G5.out) hg
          have C2 := Lib.hid (HOf.out z wr hGw)
          have hsz := hGw.size
          by_cases he : ofL parts z = (k : Int)
          · have HP := Lib.hid (HPE.out ((Y.take q).foldl P R) z he)
            rw [he] at C2
            have G6 := Lib.hid hg
            have O6 := Lib.hid ho
            have b1 : ((k : Int) == (k : Int)) = true := by simp
            clear hz ho hg he hGw
            go_wp2_with fail
            refine C2.out.mono ?_
            rintro e w7 ⟨rfl, rfl⟩
            clear hzc
            go_wp2
            go_roundw
            case rel => exact ⟨q + 1, by omega, by go_num, G6.out, by rw [HE3.out, HP.out]; omega, by rw [HE3.out, HP.out]; exact O6.out⟩
            case measure => simp [Go.RowKit.intOf]; omega
          · have HP := Lib.hid (HPN.out ((Y.take q).foldl P R) z he)
            have C3 := Lib.hid (l6Put xa _ xc ((Y.take q).foldl P R) (ofL parts z) wr (owns_rd ho) (by omega))
            obtain ⟨Z, hZ⟩ : ∃ Z, ofL parts z = Z := ⟨_, rfl⟩
            rw [hZ] at C2 C3 HP he hzb
            have b1 : (Z == (k : Int)) = false := by simp; exact he
            have G6 := Lib.hid hg
            clear hz ho hg he hGw hZ
            go_wp2_with fail
            refine C2.out.mono ?_
            rintro e w7 ⟨rfl, rfl⟩
            clear hzc
            go_wp2_with fail
            refine C3.out.mono ?_
            rintro e w7 ⟨A7, c7, rfl, o7, g7⟩
            have O7 := Lib.hid (owns_mono o7 hsz)
            have G7 := Lib.hid (grew_tr G6.out g7)
            clear o7 g7
            go_wp2
            go_roundw
            case rel => exact ⟨q + 1, by omega, by go_num, G7.out, by rw [HE3.out]; omega, by rw [HE3.out, HP.out]; exact O7.out⟩
            case measure => simp [Go.RowKit.intOf]; omega
        · obtain rfl : q = Y.length := by omega
          rw [List.take_length] at ho hl20 ⊢
          have O7 := Lib.hid ho
          have G7 := Lib.hid (grew_tr G5.out hg)
          clear ho hg
          go_wp2
          go_roundw
          case rel => exact ⟨m + 1, by omega, by go_num, G7.out, by rw [HR2.out]; omega, by rw [HR2.out]; exact O7.out⟩
          case measure => simp [Go.RowKit.intOf]; omega
    · obtain rfl : m = Q.length := by omega
      rw [List.take_length] at ho hS20 ⊢
      have O7 := Lib.hid ho
      have G7 := Lib.hid hG
      clear ho hg
      go_wp2
      go_ret
      rw [HE.out]
      exact ⟨oa, oc, rfl, O7.out, G7.out⟩
end Go.Proofs.YtmcfengnihomcaaGreat

/- The parts of a program, the reference's side. No condition. -/
namespace Go.Proofs.YtmcfengnihomcaaGreat
open Go.RowKit
set_option linter.unusedVariables false
set_option linter.unusedSimpArgs false
attribute [local go_sem] ext_cell ext_frozen ext_lt ext_le ext_le1 lt_s2 lt_s3 lt_s4 lt_s5 lt_s6 ext_lt1 ext_lt2 ext_lt3

/-- The loop over what procedure 0 reaches: k of them seen. -/
structure LS (w w2 : World) (c : Int → List Int) (N : Nat) (L : List Int) (k : Nat) (wr : World) (v : Value) (ms : List (List Int × Value)) : Prop where
  hc : Chg (fun b => b = w.heap.size + 1) w2 wr
  hv : ∀ b, v.ownBlock = some b → b = w.heap.size + 1 ∨ w2.heap.size ≤ b
  o : OwnLL wr w.heap.size v ms
  m : ms.map (·.1) = partsP c N (L.take k)
theorem LS.len {w w2 wr : World} {c : Int → List Int} {N k : Nat} {L : List Int} {v : Value} {ms : List (List Int × Value)} (h : LS w w2 c N L k wr v ms) : ms.length ≤ L.length := by
  rw [ll_len h.m]
  simp only [partsP, List.length_map]
  exact Nat.le_trans (List.length_filter_le _ _) (List.length_take_le' _ _)
theorem LS.skip {w w2 wr wr' : World} {c : Int → List Int} {N k : Nat} {L : List Int} {v : Value} {ms : List (List Int × Value)} {x : Int} (h : LS w w2 c N L k wr v ms) (hx : L[k]? = some x) (hf : firstB c N x = false) (g : Grew wr wr') : LS w w2 c N L (k + 1) wr' v ms :=
  ⟨h.hc.trans (Chg.of_below (F := fun b => b = w.heap.size + 1) g) (fun _ _ e => e) (fun _ _ e => e), h.hv, h.o.grew g, by rw [take_get hx, partsP_snoc, hf, h.m]; simp⟩
theorem LS.take {w w2 wr w5 w6 : World} {c : Int → List Int} {N k : Nat} {L : List Int} {v v6 u : Value} {ms : List (List Int × Value)} {x : Int} (h : LS w w2 c N L k wr v ms) (hx : L[k]? = some x) (hf : firstB c N x = true) (g : Grew wr w5) (hw : w.heap.size ≤ wr.heap.size)
    (hu : w5.ownsRow wr.heap.size 3 1 u (partL c N x).length (ints .i64 (partL c N x))) (o6 : w6.ownsRow w.heap.size 26 1 v6 (ms.length + 1) (ms.map (·.2) ++ [u])) (g6 : w5.grownBy w6 v.ownBlock) (h6 : v6.ownBlock = v.ownBlock ∨ v6.ownBlock = some (w5.heap.size + 1)) :
    LS w w2 c N L (k + 1) w6 v6 (ms ++ [(partL c N x, u)]) := by
  have c6 := Chg.of_grownBy g6
  refine ⟨(h.hc.trans (Chg.of_below (F := fun b => b = w.heap.size + 1) g) (fun _ _ e => e) (fun _ _ e => e)).trans c6 (fun _ _ e => e) (fun i hi e => by rcases h.hv i e with h | h <;> omega), fun b hb => ?_, h.o.snoc g hu hw o6 g6, by rw [take_get hx, partsP_snoc, hf, List.map_append, h.m]; simp⟩
  rcases h6 with e | e
  · exact h.hv b (by rw [← e]; exact hb)
  · rw [e, Option.some.injEq] at hb
    have h1 := h.hc.size
    have h2 := g.size
    omega

set_option maxRecDepth 100000 in
set_option maxHeartbeats 4000000 in
theorem specGrfParts (a : Option Addr) (n cap : Nat) (ps : List Prc) (w : World) (hr : RdP w a n ps) (hn : n ≤ 9223372036854775807) :
    Calls Tryz.prog 20 #[.agg #[.slice a n cap]] w (RetLL (grfParts ps) w) := by
  have hl := hr.len
  have C := fun W (g : Grew w W) => specPrgOk a n cap ps W (hr.grew g) hn
  have H0 := Lib.hid (show OwnLL ((w.alloc (.cells #[.slice a n cap] 30)).alloc (.cells #[] 26)) w.heap.size (.slice (some ⟨w.heap.size + 1, 0, none⟩) 0 0) [] from
    ⟨by simpa using World.ownsRow_lit (w.alloc (.cells #[.slice a n cap] 30)) (e := 26) (size := 1) #[] 0 (base := w.heap.size) (by simp) (Nat.zero_le _) rfl, fun m hm => (by cases hm), List.Pairwise.nil⟩)
  cases hB : prgOkB ps
  · rw [hB] at C
    have HC := Lib.hid C; clear C
    have HE := Lib.hid (show grfParts ps = [] from by simp [grfParts, hB])
    clear hB hr hl
    go_enter Tryz.func20, Tryz.ntmps20
    go_wp2_with fail
    refine (HC.out _ (by repeat (first | with_reducible exact Below.refl _ _ | with_reducible assumption | with_reducible apply grew_ext | with_reducible apply grew_al | with_reducible apply grew_dn | with_reducible apply grew_d | (with_reducible refine grew_set ?_ (by first | omega | (repeat (first | with_reducible exact Nat.le_refl _ | with_reducible apply le_pl | with_reducible apply le_ext | with_reducible apply le_al))) _)))).mono ?_
    rintro e w1 ⟨rfl, g1⟩
    have O1 := Lib.hid (H0.out.grew g1)
    have G1 := Lib.hid (show Grew w w1 from grew_tr (grew_al (grew_al (Below.refl _ _) _) _) g1)
    clear g1
    go_wp2
    go_ret
    rw [HE.out]
    exact ⟨_, _, [], rfl, O1.out, rfl, G1.out⟩
  · rw [hB] at C
    have HC := Lib.hid C; clear C
    have HE := Lib.hid (show grfParts ps = partsP (cOf' (csOf ps)) (csOf ps).length (reachL (cOf' (csOf ps)) (csOf ps).length 0) from by rw [grfParts, if_pos hB, ptOf, partsL, csOf_len])
    have hN : (csOf ps).length = n := by rw [csOf_len, hl]
    have hok := gok_of hB
    have hn4 := prg_len hB
    rw [hl] at hn4
    have HD := Lib.hid (fun W (g : Grew w W) => l6Reach a n cap ps 0 W (hr.grew g) hn hB (by omega))
    have HP := Lib.hid (fun (x : Int) (hx : 0 ≤ x ∧ x < n) W (g : Grew w W) => l6Part a n cap ps x W (hr.grew g) hn hB hx)
    have HH := Lib.hid (fun (x : Int) (hx : 0 ≤ x ∧ x < n) => part_head hok (a := x) (by rw [hN]; exact hx))
    have HPL := Lib.hid (fun (x : Int) (hx : 0 ≤ x ∧ x < n) => part_pl hok (a := x) (by rw [hN]; exact hx))
    have HLP := Lib.hid (reach_pl hok (a := 0) (by omega))
    rw [hN] at HPL HLP
    clear hB hr hl hok
    go_enter Tryz.func20, Tryz.ntmps20
    go_wp2_with fail
    refine (HC.out _ (by repeat (first | with_reducible exact Below.refl _ _ | with_reducible assumption | with_reducible apply grew_ext | with_reducible apply grew_al | with_reducible apply grew_dn | with_reducible apply grew_d | (with_reducible refine grew_set ?_ (by first | omega | (repeat (first | with_reducible exact Nat.le_refl _ | with_reducible apply le_pl | with_reducible apply le_ext | with_reducible apply le_al))) _)))).mono ?_
    rintro e w1 ⟨rfl, g1⟩
    have hb1 : w1.cell? ⟨w.heap.size, 0, none⟩ = some (.slice a n cap) := (g1.cell (p := ⟨w.heap.size, 0, none⟩) (by simp; omega)).trans (by simp [go_sem])
    have O1 := Lib.hid (H0.out.grew g1)
    have hG1 := show Grew w w1 from grew_tr (grew_al (grew_al (Below.refl _ _) _) _) g1
    have lb1 : w.heap.size + 1 < w1.heap.size := Nat.lt_of_lt_of_le (by simp) g1.size
    clear g1 H0
    go_wp2_with fail
    refine (HD.out _ hG1).mono ?_
    rintro e w2 ⟨A, c, rfl, o2, g2⟩
    have hb2 : w2.cell? ⟨w.heap.size, 0, none⟩ = some (.slice a n cap) := (g2.cell (p := ⟨w.heap.size, 0, none⟩) (by simp only; omega)).trans hb1
    have HB2 := Lib.hid hb2
    have O2 := Lib.hid (O1.out.grew g2)
    have G2 := Lib.hid (grew_tr hG1 g2)
    rw [hN] at o2 ⊢
    rw [hN] at HE HP HH
    obtain ⟨C0, hC0⟩ : ∃ C0, cOf' (csOf ps) = C0 := ⟨_, rfl⟩
    rw [hC0] at o2 HE HP HH HPL HLP ⊢
    obtain ⟨L, hL⟩ : ∃ L, reachL C0 n 0 = L := ⟨_, rfl⟩
    rw [hL] at o2 HE HLP ⊢
    have HRO := Lib.hid (show w2.ownsRow (w.heap.size + 1 + 1) 3 1 (.slice A L.length c) L.length (ints .i64 L) from owns_mono o2 (by omega))
    have hLl := HLP.out.len
    have hL9 : L.length ≤ 9223372036854775807 := by omega
    have lb2 : w.heap.size + 1 < w2.heap.size := Nat.lt_of_lt_of_le lb1 g2.size
    clear hL o2 g2 hG1 hb1 hb2 O1 HC HD hC0 lb1
    go_wp2
    go_loopw [3, 5] (fun v i wr => ∃ (k : Nat) (ms : List (List Int × Value)), k ≤ L.length ∧ i = .int .i64 k ∧ LS w w2 C0 n L k wr v ms) (fun _ i _ => L.length - (Go.RowKit.intOf i).toNat)
    case atStart => exact ⟨0, [], Nat.zero_le _, rfl, Chg.refl _ _, fun b hb => .inl (by simp only [Value.ownBlock, Option.some.injEq] at hb; omega), O2.out, by simp [partsP]⟩
    case round =>
      clear O2
      obtain ⟨k, ms, hk, rfl, h⟩ := hrel
      have hb0 : wr.cell? ⟨w.heap.size, 0, none⟩ = some (.slice a n cap) := (World.cell?_of_block (w := w2) (w' := wr) (a := ⟨w.heap.size, 0, none⟩) (h.hc.block w.heap.size (by omega) (by omega))).trans HB2.out
      have gw : Grew w wr := G2.out.trans ⟨h.hc.os, h.hc.tape, h.hc.output, h.hc.size, fun k hk => h.hc.block k (by omega) (by omega)⟩
      by_cases hlt : k < L.length
      · have hro := owns_chg HRO.out h.hc (fun b hb e => by have := (HRO.out.lt b hb).1; omega)
        obtain ⟨b, off, x, rfl, hx, hcell⟩ := (owns_rd hro).at1 hlt
        have hxb := HLP.out.b x (List.mem_of_getElem? hx)
        have hpl := (HPL.out x hxb).len
        have C := Lib.hid (HP.out x hxb)
        obtain ⟨hd, tl, hpe, hle, hiff⟩ := HH.out x hxb
        have hml := h.len
        obtain ⟨oa, oc, rfl⟩ := owns_slice h.o.row
        have HS := Lib.hid (fun wr' (g : Grew wr wr') (hf : firstB C0 n x = false) => h.skip hx hf g)
        have HT := Lib.hid (fun w5 w6 v6 u (g : Grew wr w5) (hf : firstB C0 n x = true) hu o6 g6 h6 => h.take (w5 := w5) (w6 := w6) (v6 := v6) (u := u) hx hf g gw.size hu o6 g6 h6)
        have HO := Lib.hid h.o
        obtain ⟨F, hF⟩ : ∃ F, firstB C0 n x = F := ⟨_, rfl⟩
        obtain ⟨X, hX⟩ : ∃ X, partL C0 n x = X := ⟨_, rfl⟩
        rw [hX] at HT C hpl hpe
        rw [hF] at HS HT hiff
        have hX0 : 0 < X.length := by rw [hpe]; simp
        have HX0 := Lib.hid (show X[0]? = some hd from by rw [hpe]; rfl)
        have HSG : Hid (∀ W, Grew wr W → W.cell? ⟨w.heap.size, 0, none⟩ = some (.slice a n cap) ∧ W.cell? ⟨b, off + k, none⟩ = some (.int .i64 x)) := Lib.hid (fun W g => ⟨(g.cell (p := ⟨w.heap.size, 0, none⟩) (World.block_lt_of_cell? wr _ hb0)).trans hb0, (g.cell (p := ⟨b, off + k, none⟩) (World.block_lt_of_cell? wr _ hcell)).trans hcell⟩)
        have HG := Lib.hid gw
        clear hF hX hro hx gw h hpe hle
        cases F
        · have hne : (hd == x) = false := by
            rw [beq_eq_false_iff_ne]
            exact fun e => by have := hiff.2 e; cases this
          clear hiff
          go_wp2_with fail
          go_region_held3 (fun W => W.cell? ⟨w.heap.size, 0, none⟩ = some (.slice a n cap) ∧ W.cell? ⟨b, off + k, none⟩ = some (.int .i64 x)) (with_reducible (first | assumption | exact HSG.out _ (grew_d (Below.refl _ _))))
            ((go_at_call 31; (with_reducible refine (C.out _ (grew_tr HG.out (grew_d (Below.refl _ _)))).mono ?_); rintro e w5 ⟨A5, c5, rfl, o5, g5⟩; have t5 := HSG.out _ (grew_tr (grew_d (Below.refl _ _)) g5); have R5 := Lib.hid o5; have G5 := Lib.hid (grew_tr (grew_d (Below.refl _ _)) g5); clear o5 g5))
          obtain ⟨b5, off5, y5, rfl, hy5, hcell5⟩ := (owns_rd R5.out).at1 hX0
          obtain rfl : y5 = hd := Option.some.inj (hy5.symm.trans HX0.out)
          rw [Nat.add_zero] at hcell5
          clear hy5
          go_wp2_with fail
          go_quiet (fail)
          have HN := Lib.hid (HS.out _ (grew_tr G5.out (grew_drewN _ nq)) trivial)
          clear t5 HSG hb0 hcell hcell5
          go_wp2
          go_roundw
          case rel => exact ⟨k + 1, ms, by omega, by go_num, HN.out⟩
          case measure => simp [Go.RowKit.intOf]; omega
        · obtain rfl : hd = x := hiff.1 rfl
          clear hiff
          go_wp2_with fail
          go_region_held3 (fun W => W.cell? ⟨w.heap.size, 0, none⟩ = some (.slice a n cap) ∧ W.cell? ⟨b, off + k, none⟩ = some (.int .i64 hd)) (with_reducible (first | assumption | exact HSG.out _ (grew_d (Below.refl _ _))))
            ((go_at_call 31; (with_reducible refine (C.out _ (grew_tr HG.out (grew_d (Below.refl _ _)))).mono ?_); rintro e w5 ⟨A5, c5, rfl, o5, g5⟩; have t5 := HSG.out _ (grew_tr (grew_d (Below.refl _ _)) g5); have R5 := Lib.hid (owns_mono o5 (show wr.heap.size ≤ _ from by simp)); have G5 := Lib.hid (grew_tr (grew_d (Below.refl _ _)) g5); clear o5 g5))
          obtain ⟨b5, off5, y5, rfl, hy5, hcell5⟩ := (owns_rd R5.out).at1 hX0
          obtain rfl : y5 = hd := Option.some.inj (hy5.symm.trans HX0.out)
          rw [Nat.add_zero] at hcell5
          clear hy5
          go_wp2_with fail
          go_quiet (fail)
          have hg6 := grew_tr G5.out (grew_drewN _ nq)
          obtain ⟨v7, w7, hr7, o7, g7, hv7⟩ := owns_append_lit (P := Tryz.prog) _ llEl (HO.out.grew hg6).row 1 [.slice (some ⟨b5, off5, none⟩) X.length c5] rfl (by simp [Value.oneCell']) (by omega) (by omega) (Nat.le_trans HG.out.size hg6.size)
          have HN := Lib.hid (HT.out _ _ _ _ hg6 trivial (owns_grew R5.out (grew_drewN _ nq)) o7 g7 hv7)
          have R7 := Lib.hid hr7
          clear t5 HSG hb0 hcell hcell5 o7 g7 hr7 hv7 hg6
          go_wp2_with (at_builtin; refine wpList_append_run rfl _ _ rfl rfl rfl rfl R7.out ?_)
          go_roundw
          case rel => exact ⟨k + 1, _, by omega, by go_num, HN.out⟩
          case measure => simp [Go.RowKit.intOf]; omega
      · obtain rfl : k = L.length := by omega
        have hm := h.m
        rw [List.take_length] at hm
        obtain ⟨oa, oc, rfl⟩ := owns_slice h.o.row
        have hlen := ll_len hm
        have HO := Lib.hid h.o
        have HG := Lib.hid gw
        have HM := Lib.hid hm
        clear h gw hb0 hm
        go_wp2
        go_ret
        rw [HE.out]
        exact ⟨oa, oc, ms, by rw [← hlen]; rfl, by rw [← hlen]; exact HO.out, HM.out, HG.out⟩
end Go.Proofs.YtmcfengnihomcaaGreat

/- Rows of rows as results of a law: below a bound, compared, marked, held. No condition. -/
namespace Go.Proofs.YtmcfengnihomcaaGreat
open Go.RowKit
set_option linter.unusedVariables false
set_option linter.unusedSimpArgs false

/-- Such a row whose blocks all lie below N. -/
structure OwnLN (w : World) (B N : Nat) (v : Value) (ms : List (List Int × Value)) : Prop where
  o : OwnLL w B v ms
  t : ∀ b, v.ownBlock = some b → b < N
  r : ∀ m, m ∈ ms → ∀ b, m.2.ownBlock = some b → b < N
section
variable {w w' : World} {B N : Nat} {v : Value} {ms : List (List Int × Value)}
theorem OwnLN.of (h : OwnLL w B v ms) : OwnLN w B w.heap.size v ms := ⟨h, fun b e => (h.row.lt b e).2, fun m hm b e => ((h.each m hm).lt b e).2⟩
theorem OwnLN.chg {F : Nat → Prop} (h : OwnLN w B N v ms) (c : Chg F w w') (hF : ∀ b, B ≤ b → b < N → ¬ F b) : OwnLN w' B N v ms :=
  ⟨⟨owns_chg h.o.row c (fun b hb => hF b (h.o.row.lt b hb).1 (h.t b hb)), fun m hm => owns_chg (h.o.each m hm) c (fun b hb => hF b ((h.o.each m hm).lt b hb).1 (h.r m hm b hb)), h.o.apart⟩, h.t, h.r⟩
theorem OwnLN.grew (h : OwnLN w B N v ms) (g : Grew w w') : OwnLN w' B N v ms := h.chg (Chg.of_below (F := fun _ => False) g) (fun _ _ _ e => e)
theorem OwnLN.rd {a : Option Addr} {c : Nat} {S : List (List Int)} (h : OwnLN w B N (.slice a S.length c) ms) (hm : ms.map (·.1) = S) : RdLL w a S.length S := by
  have := h.o.rd (ll_len hm)
  rwa [hm] at this
theorem ll_bd {S : List (List Int)} (hm : ms.map (·.1) = S) (hb : ∀ l, l ∈ S → l.length ≤ 4) : ∀ m, m ∈ ms → m.1.length ≤ 1000 := fun m h => by
  have := hb m.1 (by rw [← hm]; exact List.mem_map_of_mem h)
  omega
end
theorem rdLL_grew {w w' : World} {a : Option Addr} {n : Nat} {S : List (List Int)} (h : RdLL w a n S) (g : Grew w w') : RdLL w' a n S := RdL.grew stays_ints h g
theorem grfParts_bd (ps : List Prc) : (grfParts ps).length ≤ 4 ∧ ∀ l, l ∈ grfParts ps → l.length ≤ 4 := by
  cases hB : prgOkB ps
  · simp [grfParts, hB]
  · rw [grfParts, if_pos hB]
    exact ptOf_bd hB
end Go.Proofs.YtmcfengnihomcaaGreat

/- What a part needs: GrfNeeds on both sides. No condition. -/
namespace Go.Proofs.YtmcfengnihomcaaGreat
open Go.RowKit
set_option linter.unusedVariables false
set_option linter.unusedSimpArgs false
attribute [local go_sem] ext_cell ext_frozen ext_lt ext_le ext_le1 lt_s2 lt_s3 lt_s4 lt_s5 lt_s6 ext_lt1 ext_lt2 ext_lt3

/-- GrfNeeds. -/
def grfNeeds (ps : List Prc) (k : Int) : List Int := if 0 ≤ k ∧ k < ((grfParts ps).length : Int) then needsI (cOf' (csOf ps)) (grfParts ps) k.toNat else []
theorem grfNeeds_no {ps : List Prc} {k : Int} (h : ¬ (0 ≤ k ∧ k < ((grfParts ps).length : Int))) : grfNeeds ps k = [] := by
  unfold grfNeeds
  rw [if_neg h]
theorem grfNeeds_yes {ps : List Prc} {k : Nat} (h : k < (grfParts ps).length) : grfNeeds ps k = needsI (cOf' (csOf ps)) (grfParts ps) k := by
  unfold grfNeeds
  rw [if_pos (by omega)]
  rfl
theorem parts_ok {ps : List Prc} (h : 0 < (grfParts ps).length) : prgOkB ps = true ∧ grfParts ps = partsL (cOf' (csOf ps)) (csOf ps).length := by
  cases hB : prgOkB ps
  · rw [grfParts, hB] at h
    simp at h
  · exact ⟨rfl, by rw [grfParts, if_pos hB, ptOf, csOf_len]⟩
theorem parts_in {ps : List Prc} (hB : prgOkB ps = true) : ∀ q, q ∈ ptOf ps → ∀ x, x ∈ q → 0 ≤ x ∧ x < (csOf ps).length := by
  intro q hq x hx
  have hok := gok_of hB
  have h4 := prg_len hB
  have hn : 0 < (csOf ps).length := by rw [csOf_len]; omega
  obtain ⟨k, hk, rfl⟩ := List.mem_iff_getElem.1 hq
  have hx0 : x ∈ (ptOf ps).getD k [] := by rw [List.getD_eq_getElem?_getD, List.getElem?_eq_getElem hk]; exact hx
  have hk' : k < (partsL (cOf' (csOf ps)) (csOf ps).length).length := by rw [csOf_len]; exact hk
  have hx' : x ∈ (partsL (cOf' (csOf ps)) (csOf ps).length).getD k [] := by rw [csOf_len]; exact hx0
  have h1 := ((parts_mem hok hn hk' x).1 hx').1
  exact rch_bd hok (heads_rch hok hn (heads_get hk')).2.1 h1
theorem grfNeeds_len (ps : List Prc) (k : Int) : (grfNeeds ps k).length ≤ 10 := by
  unfold grfNeeds
  split
  · have h1 := needsN_len (cOf' (csOf ps)) (grfParts ps) k.toNat (grfParts ps).length
    have h2 := (grfParts_bd ps).1
    have h3 : needsI (cOf' (csOf ps)) (grfParts ps) k.toNat = needsN (cOf' (csOf ps)) (grfParts ps) k.toNat (grfParts ps).length := rfl
    rw [h3]
    omega
  · simp

end Go.Proofs.YtmcfengnihomcaaGreat

/- Slices of booleans: read, copied, compared, measured, marked. No condition. -/
namespace Go.Proofs.YtmcfengnihomcaaGreat
open Go.RowKit
set_option linter.unusedVariables false
set_option linter.unusedSimpArgs false
attribute [local go_sem] ext_cell ext_frozen ext_lt ext_le ext_le1 lt_s2 lt_s3 lt_s4 lt_s5 lt_s6 ext_lt1 ext_lt2 ext_lt3

def bools (zs : List Bool) : List Value := zs.map Value.bool
theorem bools_length (zs : List Bool) : (bools zs).length = zs.length := by simp [bools]
theorem bools_get {zs : List Bool} {i : Nat} {x : Bool} (h : zs[i]? = some x) : (bools zs)[i]? = some (.bool x) := by simp [bools, h]
theorem bools_append (xs ys : List Bool) : bools (xs ++ ys) = bools xs ++ bools ys := by simp [bools]
theorem bools_set (xs : List Bool) (i : Nat) (b : Bool) : (bools xs).set i (.bool b) = bools (xs.set i b) := by simp [bools, List.map_set]
theorem Rd.lenB {w : World} {a : Option Addr} {n : Nat} {zs : List Bool} (h : Rd w a n 1 (bools zs)) : zs.length = n := by
  have := h.1; simpa [bools] using this
theorem Rd.atB {w : World} {a : Option Addr} {n : Nat} {zs : List Bool} {i : Nat} (h : Rd w a n 1 (bools zs)) (hi : i < n) :
    ∃ b off x, a = some ⟨b, off, none⟩ ∧ zs[i]? = some x ∧ w.cell? ⟨b, off + i, none⟩ = some (.bool x) := by
  have hl := h.lenB
  obtain ⟨x, hx⟩ : ∃ x, zs[i]? = some x := ⟨zs[i]'(by omega), List.getElem?_eq_getElem (by omega)⟩
  rcases h.2 with h2 | ⟨b, off, rfl, hc⟩
  · have : zs.length = 0 := by rw [← bools_length zs, h2]; rfl
    omega
  · exact ⟨b, off, x, rfl, hx, hc i _ (bools_get hx)⟩
theorem boolInfo : (Tryz.prog.info? 4).map (fun i => (i.zero, i.size, i.bytes)) = some (some (.bool false), 1, 1) := by kernel_rfl
theorem boolEl : El Tryz.prog 37 4 (.bool false) 1 1 := El.mk' boolInfo Tryz.underlying37 rfl (by omega)

theorem toBoolS (a : Option Addr) (n cap : Nat) (zs : List Bool) (w : World) (hr : Rd w a n 1 (bools zs)) (hm : n ≤ 1099511627776) :
    Calls Tryz.prog 15 #[.slice a n cap] w fun e w' => ∃ v, e = .returned v ∧ w'.ownsRow w.heap.size 4 1 v n (bools zs) ∧ Grew w w' := by
  have hl := hr.lenB
  obtain ⟨i0, hi, hz0, hz1, hz2⟩ := info_parts boolInfo
  obtain ⟨w1, hmk, hown, hgr⟩ := run_make_full (P := Tryz.prog) w w.heap.size 37 4 i0 (.bool false) 1 Tryz.underlying37 hi hz0 hz1 .i64 .i64 n (by rw [hz2]; omega) (by unfold maxLen; omega) (Nat.le_refl _)
  have HB := Lib.hid (Below.of_grownBy hgr (Nat.le_refl _) (fun k e => nomatch e)); clear hgr
  have HR := Lib.hid hr; clear hr
  have HL := Lib.hid hl; clear hl
  have HO := Lib.hid hown; clear hown
  clear hi hz0 hz1 hz2
  go_enter Tryz.func15, Tryz.ntmps15
  go_wp2
  clear hmk
  go_loopw [4] (fun i wr => ∃ k : Nat, k ≤ n ∧ i = .int .i64 k ∧ Grew w wr ∧ ∃ ys, wr.ownsRow w.heap.size 4 1 (.slice (some ⟨w.heap.size, 0, none⟩) n n) n ys ∧ ∀ j, j < k → ys[j]? = (bools zs)[j]?) (fun i _ => n - (Go.RowKit.intOf i).toNat)
  case atStart => exact ⟨0, Nat.zero_le _, rfl, HB.out, _, HO.out, fun j hj => absurd hj (Nat.not_lt_zero _)⟩
  case round =>
    obtain ⟨k, hk, rfl, hg, ys, how, hys⟩ := hrel
    by_cases hlt : k < n
    · obtain ⟨b, off, x, rfl, hx, hcell⟩ := (HR.out.grew hg).atB hlt
      have hc2 := how.cellAt k (by omega)
      have hf2 := how.frozenAt k
      obtain ⟨y, hy⟩ : ∃ y, ys[k]? = some y := ⟨ys[k]'(by have := how.1; omega), List.getElem?_eq_getElem _⟩
      rw [hy] at hc2
      have HX := Lib.hid hx; clear hx
      have HY := Lib.hid hy; clear hy
      have HH := Lib.hid hys; clear hys
      have HG := Lib.hid hg; clear hg
      have HW := Lib.hid how; clear how
      go_wp2
      go_roundw
      case rel =>
        obtain ⟨ho', hg'⟩ := HW.out.stored k (.bool x)
        refine ⟨k + 1, by omega, by go_num, HG.out.setCell (by simp) _, _, ho', fun j hj => ?_⟩
        by_cases e : j = k
        · subst e
          rw [List.getElem?_set_self (by have := HW.out.1; omega), bools_get HX.out]
        · rw [List.getElem?_set_ne (by omega)]
          exact HH.out j (by omega)
      case measure => simp [Go.RowKit.intOf]; omega
    · have hfin : ys = bools zs := by
        have h1 := how.1
        have h2 := HL.out
        apply List.ext_getElem?
        intro j
        by_cases hj : j < n
        · exact hys j (by omega)
        · rw [List.getElem?_eq_none (by omega), List.getElem?_eq_none (by rw [bools_length]; omega)]
      subst hfin
      clear hys
      have HO := Lib.hid how; clear how
      have HG := Lib.hid hg; clear hg
      go_wp2
      go_ret
      exact ⟨_, rfl, HO.out, HG.out⟩

theorem eqBoolS (a : Option Addr) (n cap : Nat) (a' : Option Addr) (cap' : Nat) (zs : List Bool) (w : World) (hr : Rd w a n 1 (bools zs)) (hr' : Rd w a' n 1 (bools zs))
    (hm : n ≤ 140737488351232) :
    Calls Tryz.prog 17 #[.slice a n cap, .slice a' n cap'] w fun e w' => e = .returned (.bool true) ∧ Grew w w' := by
  have HR := Lib.hid hr; clear hr
  have HR' := Lib.hid hr'; clear hr'
  go_enter Tryz.func17, Tryz.ntmps17
  go_wp2
  go_loopw [5] (fun i wr => ∃ k : Nat, k ≤ n ∧ i = .int .i64 k ∧ (∃ q, wr = w.drewN q)) (fun i _ => n - (Go.RowKit.intOf i).toNat)
  case atStart => exact ⟨0, Nat.zero_le _, rfl, ⟨0, rfl⟩⟩
  case round =>
    obtain ⟨k, hk, rfl, ⟨q, rfl⟩⟩ := hrel
    by_cases hlt : k < n
    · obtain ⟨b, off, x, rfl, hx, hcell⟩ := HR.out.atB hlt
      obtain ⟨b', off', y, rfl, hy, hcell'⟩ := HR'.out.atB hlt
      rw [hx] at hy
      obtain rfl := Option.some.inj hy
      have bx : (x != x) = false := by simp
      clear hx hy
      go_wp2
      go_quiet (fail)
      go_wp2
      go_roundw
      case rel => exact ⟨k + 1, by omega, by go_num, ⟨_, rfl⟩⟩
      case measure => simp [Go.RowKit.intOf]; omega
    · go_wp2
      go_ret
      exact ⟨rfl, grew_drewN _ _⟩

set_option maxHeartbeats 2000000 in
theorem markBoolS (a : Option Addr) (n cap : Nat) (k0 : Nat) (cs : List Bool) (B : Nat) (w : World) (ho : w.ownsRow B 4 1 (.slice a n cap) n (bools cs)) (hk0 : k0 ≤ 11000000000000) (hm : n ≤ 1099511627776) :
    Calls Tryz.prog 18 #[.slice a n cap, .int .i64 k0] w fun e w' => e = .returned (.int .i64 ((k0 + n : Nat) : Int)) ∧
      (∃ ys, w'.ownsRow B 4 1 (.slice a n cap) n (bools ys)) ∧ Chg (fun b => (Value.slice a n cap).ownBlock = some b) w w' := by
  have HO := Lib.hid ho; clear ho
  go_enter Tryz.func18, Tryz.ntmps18
  go_wp2
  go_loopw [1, 5] (fun kk i wr => ∃ k K : Nat, k ≤ n ∧ K = k0 + k ∧ i = .int .i64 k ∧ kk = .int .i64 K ∧ Chg (fun b => (Value.slice a n cap).ownBlock = some b) w wr ∧
    ∃ ys, wr.ownsRow B 4 1 (.slice a n cap) n (bools ys)) (fun _ i _ => n - (Go.RowKit.intOf i).toNat)
  case atStart => exact ⟨0, k0, Nat.zero_le _, by omega, rfl, rfl, Chg.refl _ _, _, HO.out⟩
  case round =>
    obtain ⟨k, K, hk, hK, rfl, rfl, hg, ys, how⟩ := hrel
    have hK1 : K ≤ 13000000000000 := by omega
    have HK := Lib.hid hK; clear hK
    by_cases hlt : k < n
    · obtain ⟨g, rfl⟩ : ∃ g, a = some ⟨g, 0, none⟩ := by
        rcases how.2 with ⟨h1, h2⟩ | ⟨g, cap', cur, h1, _⟩
        · omega
        · simp only [Value.slice.injEq] at h1
          exact ⟨g, h1.1⟩
      have hcell := how.cellAt k (by omega)
      have hl := how.1
      obtain ⟨y, hy⟩ : ∃ y, (bools ys)[k]? = some y := ⟨(bools ys)[k]'(by omega), List.getElem?_eq_getElem _⟩
      rw [hy] at hcell
      have hfz := how.frozenAt k
      have HG := Lib.hid hg; clear hg
      have HW := Lib.hid how; clear how
      clear hy hl
      go_wp2
      go_roundw
      case rel =>
        obtain ⟨ho', hg'⟩ := HW.out.stored k (.bool _)
        rw [bools_set] at ho'
        refine ⟨k + 1, K + 1, by omega, by have := HK.out; omega, by go_num, by go_num, (HG.out.trans (Chg.of_grownBy hg') (fun _ _ h => h) (fun i _ h => ?_)), _, ho'⟩
        simpa [Value.ownBlock, eq_comm] using h
      case measure => simp [Go.RowKit.intOf]; omega
    · obtain rfl : k = n := by omega
      have HW := Lib.hid how; clear how
      have HG := Lib.hid hg; clear hg
      go_wp2
      go_ret
      exact ⟨by rw [HK.out]; rfl, ⟨ys, HW.out⟩, HG.out⟩
end Go.Proofs.YtmcfengnihomcaaGreat

/- Whether all that a part needs is done, the program's side. No condition. -/
namespace Go.Proofs.YtmcfengnihomcaaGreat
open Go.RowKit
set_option linter.unusedVariables false
set_option linter.unusedSimpArgs false
attribute [local go_sem] ext_cell ext_frozen ext_lt ext_le ext_le1 lt_s2 lt_s3 lt_s4 lt_s5 lt_s6 ext_lt1 ext_lt2 ext_lt3

/-- Whether a part is not done. -/
def ndB (P : List Bool) (y : Int) : Bool := !(P.getD y.toNat false)
theorem ndB_at {P : List Bool} {k : Nat} {x : Bool} (h : P[k]? = some x) : ndB P (k : Int) = !x := by simp [ndB, h]
theorem met1 (y : Int) (pb : Nat) (pa : Option Addr) (pn pc : Nat) (P : List Bool) (w : World) (hc : w.cell? ⟨pb, 0, none⟩ = some (.slice pa pn pc)) (hr : Rd w pa pn 1 (bools P)) (hn : pn ≤ 1000) (hy : 0 ≤ y ∧ y < pn) :
    Calls Tryz.prog 61 #[.int .i64 y, .pointer (some ⟨pb, 0, none⟩)] w (RetT (ndB P y) w) := by
  obtain ⟨k, rfl⟩ := Int.eq_ofNat_of_zero_le hy.1
  obtain ⟨b, off, x, rfl, hx, hcell⟩ := hr.atB (i := k) (by omega)
  have HE := Lib.hid (ndB_at hx)
  have hk : k < pn := by omega
  clear hr hx hy
  go_enter Tryz.func61, Tryz.ntmps61
  go_wp2
  go_ret
  rw [HE.out]
  exact ⟨rfl, rfl⟩
theorem indexMet (a : Option Addr) (n cap : Nat) (zs : List Int) (pb : Nat) (pa : Option Addr) (pn pc : Nat) (P : List Bool) (w : World) (hz : Rd w a n 1 (ints .i64 zs)) (hnz : n ≤ 9223372036854775807) (hc : w.cell? ⟨pb, 0, none⟩ = some (.slice pa pn pc)) (hr : Rd w pa pn 1 (bools P)) (hn : pn ≤ 1000) (hb : ∀ y, y ∈ zs → 0 ≤ y ∧ y < pn) :
    Calls Tryz.prog 77 #[.slice a n cap, .func (.func 61) #[] #[.pointer (some ⟨pb, 0, none⟩)]] w (RetIx (zs.any (ndB P)) w) := by
  have HL := Lib.hid hz.len1
  have HR := Lib.hid hz; clear hz
  have HC := Lib.hid (fun y hy => met1 y pb pa pn pc P w hc hr hn hy)
  have HB := Lib.hid hb
  clear hc hr hb
  go_enter Tryz.func77, Tryz.ntmps77
  go_wp2
  go_loop [8] (fun i => ∃ k : Nat, k ≤ n ∧ i = .int .i64 k ∧ ∀ y, y ∈ zs.take k → ndB P y = false) (fun i => n - (Go.RowKit.intOf i).toNat)
  case atStart => exact ⟨0, Nat.zero_le _, rfl, by simp⟩
  case round =>
    obtain ⟨k, hk, rfl, hall⟩ := hrel
    have HA := Lib.hid hall; clear hall
    by_cases hlt : k < n
    · obtain ⟨b, off, z0, rfl, hx, c0⟩ := HR.out.at1 hlt
      have HX := Lib.hid hx; clear hx
      have HC0 := Lib.hid (HC.out z0 (HB.out z0 (List.mem_of_getElem? HX.out)))
      cases hq : ndB P z0
      · rw [hq] at HC0
        have HQ := Lib.hid hq; clear hq
        go_wp2_with (go_at_call 61; refine HC0.out.mono ?_; rintro e w1 ⟨rfl, rfl⟩)
        go_round
        case rel =>
          refine ⟨k + 1, by omega, by go_num, fun y hy => ?_⟩
          rw [take_get HX.out] at hy
          rcases List.mem_append.1 hy with hy | hy
          · exact HA.out y hy
          · rw [List.mem_singleton.1 hy]
            exact HQ.out
        case measure => simp [Go.RowKit.intOf]; omega
      · rw [hq] at HC0
        have HQ := Lib.hid hq; clear hq
        go_wp2_with (go_at_call 61; refine HC0.out.mono ?_; rintro e w1 ⟨rfl, rfl⟩)
        go_ret
        refine ⟨k, rfl, ?_, rfl⟩
        rw [decide_eq_true (by omega)]
        exact (List.any_eq_true.2 ⟨z0, List.mem_of_getElem? HX.out, HQ.out⟩).symm
    · go_wp2
      go_ret
      refine ⟨-1, rfl, ?_, rfl⟩
      rw [decide_eq_false (by omega)]
      symm
      rw [List.any_eq_false]
      have := HA.out
      rw [List.take_of_length_le (by have := HL.out; omega)] at this
      exact fun y hy => by simp [this y hy]
theorem containsMet (a : Option Addr) (n cap : Nat) (zs : List Int) (pb : Nat) (pa : Option Addr) (pn pc : Nat) (P : List Bool) (w : World) (hz : Rd w a n 1 (ints .i64 zs)) (hnz : n ≤ 9223372036854775807) (hc : w.cell? ⟨pb, 0, none⟩ = some (.slice pa pn pc)) (hr : Rd w pa pn 1 (bools P)) (hn : pn ≤ 1000) (hb : ∀ y, y ∈ zs → 0 ≤ y ∧ y < pn) :
    Calls Tryz.prog 59 #[.slice a n cap, .func (.func 61) #[] #[.pointer (some ⟨pb, 0, none⟩)]] w (RetT (zs.any (ndB P)) w) := by
  have C := Lib.hid (indexMet a n cap zs pb pa pn pc P w hz hnz hc hr hn hb)
  clear hz hc hr
  go_enter Tryz.func59, Tryz.ntmps59
  go_wp2_with fail
  refine C.out.mono ?_
  rintro e w1 ⟨z, rfl, hz, rfl⟩
  have HZ := Lib.hid hz; clear hz
  go_wp2
  go_ret
  exact ⟨by rw [← HZ.out]; rfl, rfl⟩

theorem met_nd (c : Int → List Int) (parts : List (List Int)) (done : List Bool) (k : Nat) : metB c parts done k = !((needsI c parts k).any (ndB done)) := by
  unfold metB
  rw [List.not_any_eq_all_not]
  congr 1
  funext y
  simp [ndB]
theorem needsI_bd (c : Int → List Int) (parts : List (List Int)) (k : Nat) : ∀ y, y ∈ needsI c parts k → 0 ≤ y ∧ y < parts.length := fun y hy => by
  obtain ⟨o, rfl, h, _⟩ := (needsI_mem _ _ _ _).1 hy
  omega
theorem needsI_len (c : Int → List Int) (parts : List (List Int)) (k : Nat) : (needsI c parts k).length ≤ parts.length := needsN_len c parts k parts.length

set_option maxHeartbeats 1000000 in
theorem implMet (gb k : Nat) (cs parts : List (List Int)) (da : Option Addr) (dn dc : Nat) (done : List Bool) (w : World) (h : GrR w gb cs parts) (hd : Rd w da dn 1 (bools done)) (hdn : dn = parts.length) (hk : k < parts.length) (hp4 : parts.length ≤ 4) (hq4 : ∀ q, q ∈ parts → q.length ≤ 4) (hqb : ∀ q, q ∈ parts → ∀ x, x ∈ q → 0 ≤ x ∧ x < cs.length) (hc4 : cs.length ≤ 4) (hcl : ∀ l, l ∈ cs → l.length ≤ 10) :
    Calls Tryz.prog 37 #[.pointer (some ⟨gb, 0, none⟩), .int .i64 k, .slice da dn dc] w (RetTG (metB (cOf' cs) parts done k) w) := by
  subst hdn
  have hml := met_nd (cOf' cs) parts done k
  have hnl := needsI_len (cOf' cs) parts k
  have hnb := needsI_bd (cOf' cs) parts k
  have HN := Lib.hid (fun W (g : Grew w W) => implNeeds gb k cs parts W (h.grew g) hk hp4 hq4 hqb hc4 hcl)
  obtain ⟨L, hL⟩ : ∃ L, needsI (cOf' cs) parts k = L := ⟨_, rfl⟩
  rw [hL] at HN hml hnl hnb
  have HML := Lib.hid hml
  have HNB := Lib.hid hnb
  have HD := Lib.hid hd
  clear h hd hL hml hnb hqb hq4 hcl
  go_enter Tryz.func37, Tryz.ntmps37
  go_wp2_with fail
  refine (HN.out _ (by repeat (first | with_reducible exact Below.refl _ _ | with_reducible assumption | with_reducible apply grew_ext | with_reducible apply grew_al | with_reducible apply grew_dn | with_reducible apply grew_d | (with_reducible refine grew_set ?_ (by first | omega | (repeat (first | with_reducible exact Nat.le_refl _ | with_reducible apply le_pl | with_reducible apply le_ext | with_reducible apply le_al))) _)))).mono ?_
  rintro e w1 ⟨A, c, rfl, o1, g1⟩
  have hbx : w1.cell? ⟨w.heap.size, 0, none⟩ = some (.slice da parts.length dc) := (g1.cell (p := ⟨w.heap.size, 0, none⟩) (by simp)).trans (by simp [go_sem])
  have hG : Grew w w1 := grew_tr (by repeat (first | with_reducible exact Below.refl _ _ | with_reducible assumption | with_reducible apply grew_ext | with_reducible apply grew_al | with_reducible apply grew_dn | with_reducible apply grew_d | (with_reducible refine grew_set ?_ (by first | omega | (repeat (first | with_reducible exact Nat.le_refl _ | with_reducible apply le_pl | with_reducible apply le_ext | with_reducible apply le_al))) _))) g1
  have C := Lib.hid (containsMet A L.length c L w.heap.size da parts.length dc done w1 (owns_rd o1) (by omega) hbx (HD.out.grew hG) (by omega) (fun y hy => by have := HNB.out y hy; omega))
  have HG := Lib.hid hG
  clear o1 g1 hG
  go_wp2_with fail
  refine C.out.mono ?_
  rintro e w2 ⟨rfl, rfl⟩
  clear C hbx
  have HML2 := HML.out
  obtain ⟨T, hT⟩ : ∃ T, L.any (ndB done) = T := ⟨_, rfl⟩
  rw [hT] at HML2 ⊢
  have HM := Lib.hid HML2
  clear HML2 hT
  go_wp2
  go_ret
  rw [HM.out]
  exact ⟨rfl, HG.out⟩
end Go.Proofs.YtmcfengnihomcaaGreat

/- What is ready: GrfReady on both sides. No condition. -/
namespace Go.Proofs.YtmcfengnihomcaaGreat
open Go.RowKit
set_option linter.unusedVariables false
set_option linter.unusedSimpArgs false
attribute [local go_sem] ext_cell ext_frozen ext_lt ext_le ext_le1 lt_s2 lt_s3 lt_s4 lt_s5 lt_s6 ext_lt1 ext_lt2 ext_lt3

/-- The first i parts' ready ones. -/
def readyN (c : Int → List Int) (parts : List (List Int)) (done : List Bool) (i : Nat) : List Int := ((List.range i).filter fun k => !done.getD k false && metB c parts done k).map fun o : Nat => (o : Int)
theorem readyN_all (c : Int → List Int) (parts : List (List Int)) (done : List Bool) : readyN c parts done parts.length = readyL c parts done := rfl
theorem readyN_succ (c : Int → List Int) (parts : List (List Int)) (done : List Bool) (i : Nat) : readyN c parts done (i + 1) = readyN c parts done i ++ if (!done.getD i false && metB c parts done i) then [(i : Int)] else [] := by
  unfold readyN
  rw [List.range_succ, List.filter_append, List.map_append]
  congr 1
  simp only [List.filter_cons, List.filter_nil]
  by_cases h : (!done.getD i false && metB c parts done i) = true
  · rw [if_pos h, if_pos h]
    rfl
  · rw [if_neg h, if_neg h]
    rfl
theorem readyN_len (c : Int → List Int) (parts : List (List Int)) (done : List Bool) (i : Nat) : (readyN c parts done i).length ≤ i := by
  unfold readyN
  rw [List.length_map]
  exact Nat.le_trans (List.length_filter_le _ _) (by simp)
theorem readyL_len (c : Int → List Int) (parts : List (List Int)) (done : List Bool) : (readyL c parts done).length ≤ parts.length := readyN_len c parts done parts.length
theorem readyN_no {c : Int → List Int} {parts : List (List Int)} {done : List Bool} {i : Nat} (h : (!done.getD i false && metB c parts done i) = false) : readyN c parts done (i + 1) = readyN c parts done i := by
  rw [readyN_succ, h]
  simp
theorem readyN_yes {c : Int → List Int} {parts : List (List Int)} {done : List Bool} {i : Nat} (h : (!done.getD i false && metB c parts done i) = true) : readyN c parts done (i + 1) = readyN c parts done i ++ [(i : Int)] := by
  rw [readyN_succ, h]
  simp

set_option maxRecDepth 100000 in
set_option maxHeartbeats 4000000 in
theorem implReady (gb : Nat) (cs parts : List (List Int)) (da : Option Addr) (dn dc : Nat) (done : List Bool) (w : World) (h : GrR w gb cs parts) (hd : Rd w da dn 1 (bools done)) (hdn : dn = parts.length) (hp4 : parts.length ≤ 4) (hq4 : ∀ q, q ∈ parts → q.length ≤ 4) (hqb : ∀ q, q ∈ parts → ∀ x, x ∈ q → 0 ≤ x ∧ x < cs.length) (hc4 : cs.length ≤ 4) (hcl : ∀ l, l ∈ cs → l.length ≤ 10) :
    Calls Tryz.prog 23 #[.pointer (some ⟨gb, 0, none⟩), .slice da dn dc] w (RetIs (readyL (cOf' cs) parts done) w) := by
  subst hdn
  have HM := Lib.hid (fun k (hk : k < parts.length) W (g : Grew w W) => implMet gb k cs parts da parts.length dc done W (h.grew g) (hd.grew g) rfl hk hp4 hq4 hqb hc4 hcl)
  have HD := Lib.hid hd
  obtain ⟨-, ⟨pa, pc, hc2, -⟩⟩ := h
  have HC2 := Lib.hid hc2
  have lgb := World.block_lt_of_cell? w _ hc2
  simp only at lgb
  clear hd hqb hq4 hcl
  obtain ⟨c, hcc⟩ : ∃ c, cOf' cs = c := ⟨_, rfl⟩
  rw [hcc] at HM ⊢
  clear hcc
  go_enter Tryz.func23, Tryz.ntmps23
  go_wp2
  clear hc2
  go_loopw [5, 12] (fun v i wr => ∃ m : Nat, m ≤ parts.length ∧ i = .int .i64 m ∧ Grew w wr ∧ wr.ownsRow w.heap.size 3 1 v (readyN c parts done m).length (ints .i64 (readyN c parts done m))) (fun _ i _ => parts.length - (Go.RowKit.intOf i).toNat)
  case atStart => exact ⟨0, Nat.zero_le _, rfl, Below.refl _ _, by simpa [readyN, ints] using World.ownsRow_nil _ _ _ _⟩
  case round =>
    obtain ⟨m, hm, rfl, hg, ho⟩ := hrel
    have hnl := readyN_len c parts done m
    obtain ⟨oa, oc, rfl⟩ := owns_slice ho
    have hsz := hg.size
    by_cases hlt : m < parts.length
    · obtain ⟨b, off, x, rfl, hx, hcell⟩ := (HD.out.grew hg).atB (i := m) (by omega)
      have hxg : done.getD m false = x := by simp [hx]
      have HO := Lib.hid ho
      have HG := Lib.hid hg
      cases x
      · have HMm := Lib.hid (HM.out m hlt wr hg)
        cases hmb : metB c parts done m
        · have HF := Lib.hid (readyN_no (c := c) (parts := parts) (done := done) (i := m) (by rw [hxg, hmb]; rfl))
          rw [hmb] at HMm
          clear hx ho hg hmb hxg
          go_wp2_with fail
          refine HMm.out.mono ?_
          rintro e w2 ⟨rfl, g2⟩
          have HG2 := Lib.hid (grew_tr HG.out g2)
          have HO2 := Lib.hid (owns_grew HO.out g2)
          clear g2 hcell
          go_wp2
          go_roundw
          case rel => exact ⟨m + 1, by omega, by go_num, HG2.out, by rw [HF.out]; exact HO2.out⟩
          case measure => simp [Go.RowKit.intOf]; omega
        · have HF := Lib.hid (readyN_yes (c := c) (parts := parts) (done := done) (i := m) (by rw [hxg, hmb]; rfl))
          rw [hmb] at HMm
          clear hx ho hg hmb hxg
          go_wp2_with fail
          refine HMm.out.mono ?_
          rintro e w2 ⟨rfl, g2⟩
          have HG2 := Lib.hid (grew_tr HG.out g2)
          have HO2 := Lib.hid (owns_grew HO.out g2)
          clear g2 hcell
          obtain ⟨a2, c2, w3, r3, o3, g3⟩ := appOne (w := w) (m : Int) HO2.out (by omega) HG2.out
          have R3 := Lib.hid r3
          have O3 := Lib.hid o3
          have G3 := Lib.hid g3
          clear r3 o3 g3
          go_wp2_with (at_builtin; refine wpList_append_run rfl _ _ rfl rfl rfl rfl R3.out ?_; clear R3)
          go_roundw
          case rel => exact ⟨m + 1, by omega, by go_num, G3.out, by rw [HF.out, List.length_append]; exact O3.out⟩
          case measure => simp [Go.RowKit.intOf]; omega
      · have HF := Lib.hid (readyN_no (c := c) (parts := parts) (done := done) (i := m) (by rw [hxg]; rfl))
        clear hx ho hg hxg
        go_wp2
        go_roundw
        case rel => exact ⟨m + 1, by omega, by go_num, HG.out, by rw [HF.out]; exact HO.out⟩
        case measure => simp [Go.RowKit.intOf]; omega
    · obtain rfl : m = parts.length := by omega
      rw [readyN_all] at ho hnl
      have HO := Lib.hid ho
      have HG := Lib.hid hg
      clear ho hg
      go_wp2
      go_ret
      exact ⟨oa, oc, rfl, HO.out, HG.out⟩

/-- GrfReady. -/
def grfReady (ps : List Prc) (done : List Bool) : List Int := if done.length = (grfParts ps).length then readyL (cOf' (csOf ps)) (grfParts ps) done else []
theorem grfReady_len (ps : List Prc) (done : List Bool) : (grfReady ps done).length ≤ 10 := by
  unfold grfReady
  split
  · have h1 := readyL_len (cOf' (csOf ps)) (grfParts ps) done
    have h2 := (grfParts_bd ps).1
    omega
  · simp

set_option maxHeartbeats 2000000 in
theorem implGrfReady (a : Option Addr) (n cap : Nat) (ps : List Prc) (da : Option Addr) (dn dc : Nat) (done : List Bool) (w : World) (hr : RdP w a n ps) (hn : n ≤ 9223372036854775807) (hd : Rd w da dn 1 (bools done)) :
    Calls Tryz.prog 16 #[.agg #[.slice a n cap], .slice da dn dc] w (RetIs (grfReady ps done) w) := by
  have hl := hr.len
  have hdl := hd.lenB
  cases hB : prgOkB ps
  · have HC := Lib.hid (fun W (g : Grew w W) => readGraphNo a n cap ps W (hr.grew g) hn hB)
    have HE := Lib.hid (show grfReady ps done = [] from by
      have : grfParts ps = [] := by rw [grfParts, if_neg (by simp [hB])]
      simp only [grfReady, this, readyL, List.length_nil, List.range_zero, List.filter_nil, List.map_nil, ite_self])
    clear hB hr hl hd hdl
    go_enter Tryz.func16, Tryz.ntmps16
    go_wp2_with fail
    refine (HC.out _ (by repeat (first | with_reducible exact Below.refl _ _ | with_reducible assumption | with_reducible apply grew_ext | with_reducible apply grew_al | with_reducible apply grew_dn | with_reducible apply grew_d | (with_reducible refine grew_set ?_ (by first | omega | (repeat (first | with_reducible exact Nat.le_refl _ | with_reducible apply le_pl | with_reducible apply le_ext | with_reducible apply le_al))) _)))).mono ?_
    rintro e w1 ⟨rfl, g1⟩
    go_wp2
    go_ret
    rw [HE.out]
    exact retIs_nil (grew_tr (by repeat (first | with_reducible exact Below.refl _ _ | with_reducible assumption | with_reducible apply grew_ext | with_reducible apply grew_al | with_reducible apply grew_dn | with_reducible apply grew_d | (with_reducible refine grew_set ?_ (by first | omega | (repeat (first | with_reducible exact Nat.le_refl _ | with_reducible apply le_pl | with_reducible apply le_ext | with_reducible apply le_al))) _))) g1)
  · have HC := Lib.hid (fun W (g : Grew w W) => readGraphYes a n cap ps W (hr.grew g) hn hB)
    have hpt : grfParts ps = ptOf ps := by rw [grfParts, if_pos hB]
    have hbd := grfParts_bd ps
    rw [hpt] at hbd
    have h900 : (ptOf ps).length ≤ 900 := by omega
    by_cases hp : dn = (ptOf ps).length
    · have HE := Lib.hid (show grfReady ps done = readyL (cOf' (csOf ps)) (ptOf ps) done from by rw [grfReady, hpt, if_pos (by omega)])
      have HN := Lib.hid (fun gb W (g : Grew w W) (h : GrR W gb (csOf ps) (ptOf ps)) => implReady gb (csOf ps) (ptOf ps) da dn dc done W h (hd.grew g) hp hbd.1 hbd.2 (parts_in hB) (by rw [csOf_len]; exact (prg_len hB).2) (fun l hl => by
        obtain ⟨j, hj, rfl⟩ := List.mem_iff_getElem.1 hl
        have := cs_len hB (j : Int)
        simpa [cOf', hj] using this))
      obtain ⟨S, hS⟩ : ∃ S, ptOf ps = S := ⟨_, rfl⟩
      rw [hS] at HE HN HC hp h900
      subst hp
      have b1 : ((S.length : Int) != (S.length : Int)) = false := by simp
      clear hr hl hB hpt hbd hS hd hdl
      go_enter Tryz.func16, Tryz.ntmps16
      go_wp2_with fail
      refine (HC.out _ (by repeat (first | with_reducible exact Below.refl _ _ | with_reducible assumption | with_reducible apply grew_ext | with_reducible apply grew_al | with_reducible apply grew_dn | with_reducible apply grew_d | (with_reducible refine grew_set ?_ (by first | omega | (repeat (first | with_reducible exact Nat.le_refl _ | with_reducible apply le_pl | with_reducible apply le_ext | with_reducible apply le_al))) _)))).mono ?_
      rintro e w1 ⟨gb, rfl, hg, g1⟩
      have hrd := hg.rd
      obtain ⟨pa, pc, q2, -⟩ := hrd.p
      have HR := Lib.hid hrd
      have HG1 := Lib.hid (grew_tr (show Grew w (w.alloc (.cells #[.slice a n cap] 30)) from grew_al (Below.refl _ _) _) g1)
      clear hg g1 hrd
      go_wp2_with fail
      refine (HN.out gb _ HG1.out HR.out).mono ?_
      rintro e w2 ⟨A2, c2, rfl, o2, g2⟩
      have O2 := Lib.hid (owns_mono o2 HG1.out.size)
      have G2 := Lib.hid (grew_tr HG1.out g2)
      clear o2 g2
      go_wp2
      go_ret
      rw [HE.out]
      exact ⟨A2, c2, rfl, O2.out, G2.out⟩
    · have HE := Lib.hid (show grfReady ps done = [] from by rw [grfReady, hpt, if_neg (by omega)])
      obtain ⟨S, hS⟩ : ∃ S, ptOf ps = S := ⟨_, rfl⟩
      rw [hS] at HC hp h900
      have b1 : ((dn : Int) != (S.length : Int)) = true := by simp; omega
      clear hr hl hB hpt hbd hd hdl hS
      go_enter Tryz.func16, Tryz.ntmps16
      go_wp2_with fail
      refine (HC.out _ (by repeat (first | with_reducible exact Below.refl _ _ | with_reducible assumption | with_reducible apply grew_ext | with_reducible apply grew_al | with_reducible apply grew_dn | with_reducible apply grew_d | (with_reducible refine grew_set ?_ (by first | omega | (repeat (first | with_reducible exact Nat.le_refl _ | with_reducible apply le_pl | with_reducible apply le_ext | with_reducible apply le_al))) _)))).mono ?_
      rintro e w1 ⟨gb, rfl, hg, g1⟩
      obtain ⟨pa, pc, q2, -⟩ := hg.rd.p
      have HG1 := Lib.hid (grew_tr (show Grew w (w.alloc (.cells #[.slice a n cap] 30)) from grew_al (Below.refl _ _) _) g1)
      clear hg g1
      go_wp2
      go_ret
      rw [HE.out]
      exact retIs_nil HG1.out
end Go.Proofs.YtmcfengnihomcaaGreat

/- What is ready, the reference's side. No condition. -/
namespace Go.Proofs.YtmcfengnihomcaaGreat
open Go.RowKit
set_option linter.unusedVariables false
set_option linter.unusedSimpArgs false
attribute [local go_sem] ext_cell ext_frozen ext_lt ext_le ext_le1 lt_s2 lt_s3 lt_s4 lt_s5 lt_s6 ext_lt1 ext_lt2 ext_lt3

/-- Whether all of these are done. -/
def allD (done : List Bool) (zs : List Int) : Bool := zs.all fun m => done.getD m.toNat false
theorem allD_no {done : List Bool} {zs : List Int} {k : Nat} {m : Nat} (hx : zs[k]? = some (m : Int)) (h : done.getD m false = false) : allD done zs = false := by
  unfold allD
  rw [List.all_eq_false]
  exact ⟨_, List.mem_of_getElem? hx, by rw [Int.toNat_natCast, h]; simp⟩
theorem l6All (a : Option Addr) (n cap : Nat) (zs : List Int) (da : Option Addr) (dn dc : Nat) (done : List Bool) (w : World) (hr : Rd w a n 1 (ints .i64 zs)) (hn : n ≤ 1000) (hd : Rd w da dn 1 (bools done)) (hdn : dn ≤ 1000) (hb : ∀ y, y ∈ zs → 0 ≤ y ∧ y < dn) :
    Calls Tryz.prog 26 #[.slice a n cap, .slice da dn dc] w (RetT (allD done zs) w) := by
  have HL := Lib.hid hr.len1
  have HR := Lib.hid hr; clear hr
  have HD := Lib.hid hd; clear hd
  have HB := Lib.hid hb; clear hb
  go_enter Tryz.func26, Tryz.ntmps26
  go_wp2
  go_loop [5] (fun i => ∃ k : Nat, k ≤ n ∧ i = .int .i64 k ∧ ∀ y, y ∈ zs.take k → done.getD y.toNat false = true) (fun i => n - (Go.RowKit.intOf i).toNat)
  case atStart => exact ⟨0, Nat.zero_le _, rfl, by simp⟩
  case round =>
    obtain ⟨k, hk, rfl, hall⟩ := hrel
    have HA := Lib.hid hall; clear hall
    by_cases hlt : k < n
    · obtain ⟨b, off, z0, rfl, hx, c0⟩ := HR.out.at1 hlt
      obtain ⟨hz0, hz1⟩ := HB.out z0 (List.mem_of_getElem? hx)
      obtain ⟨m, rfl⟩ := Int.eq_ofNat_of_zero_le hz0
      have HX := Lib.hid hx; clear hx
      obtain ⟨b2, off2, x, rfl, hx2, c2⟩ := HD.out.atB (i := m) (by omega)
      have HXG := Lib.hid (show done.getD m false = x from by simp [hx2])
      clear hx2
      cases x
      · go_wp2
        go_ret
        exact ⟨by rw [allD_no HX.out HXG.out]; rfl, rfl⟩
      · go_wp2
        go_round
        case rel =>
          refine ⟨k + 1, by omega, by go_num, fun y hy => ?_⟩
          rw [take_get HX.out] at hy
          rcases List.mem_append.1 hy with hy | hy
          · exact HA.out y hy
          · rw [List.mem_singleton.1 hy]
            exact HXG.out
        case measure => simp [Go.RowKit.intOf]; omega
    · go_wp2
      go_ret
      refine ⟨?_, rfl⟩
      have h := HA.out
      rw [List.take_of_length_le (by have := HL.out; omega)] at h
      rw [show allD done zs = true from List.all_eq_true.2 h]
      rfl

/-- One number is put behind a row; what changes. -/
theorem appOneC {W : World} {B : Nat} {vs : List Int} {n : Nat} {a1 : Option Addr} {c1 : Nat} (z : Int) (h1 : W.ownsRow B 3 1 (.slice a1 n c1) n (ints .i64 vs)) (h2 : n ≤ 1048580) (h3 : B ≤ W.heap.size) :
    ∃ a2 c2 W2, (Builtin.append_ #[26, 26] 26 #[.slice a1 n c1, .slice (some ⟨W.heap.size, 0, none⟩) 1 1]).run Tryz.prog (W.alloc (.cells #[.int .i64 z] 3)) = .ok (.slice a2 (n + 1) c2) W2 ∧ W2.ownsRow B 3 1 (.slice a2 (n + 1) c2) (n + 1) (ints .i64 (vs ++ [z])) ∧ Chg (fun b => (Value.slice a1 n c1).ownBlock = some b) W W2 ∧ ((Value.slice a2 (n + 1) c2).ownBlock = (Value.slice a1 n c1).ownBlock ∨ (Value.slice a2 (n + 1) c2).ownBlock = some (W.heap.size + 1)) := by
  obtain ⟨v3, w3, hrun3, o3, g3, hv⟩ := owns_append_lit (P := Tryz.prog) W intEl h1 1 [.int .i64 z] rfl (by simp [Value.oneCell']) (by omega) (by omega) h3
  obtain ⟨a2, c2, rfl⟩ := owns_slice o3
  exact ⟨a2, c2, w3, hrun3, by rw [ints_append]; exact o3, Chg.of_grownBy g3, hv⟩

set_option maxRecDepth 100000 in
set_option maxHeartbeats 4000000 in
theorem specGrfReady (a : Option Addr) (n cap : Nat) (ps : List Prc) (da : Option Addr) (dn dc : Nat) (done : List Bool) (w : World) (hr : RdP w a n ps) (hn : n ≤ 9223372036854775807) (hd : Rd w da dn 1 (bools done)) :
    Calls Tryz.prog 14 #[.agg #[.slice a n cap], .slice da dn dc] w (RetIs (grfReady ps done) w) := by
  have hl := hr.len
  have hdl := hd.lenB
  have HC := Lib.hid (fun W (g : Grew w W) => specGrfParts a n cap ps W (hr.grew g) hn)
  have h4 := (grfParts_bd ps).1
  by_cases hp : dn = (grfParts ps).length
  · have HE := Lib.hid (show grfReady ps done = readyL (cOf' (csOf ps)) (grfParts ps) done from by rw [grfReady, if_pos (by omega)])
    have HN := Lib.hid (fun (m : Nat) (hm : m < (grfParts ps).length) (pa : Option Addr) (pc : Nat) (W : World) (g : Grew w W) (hpr : RdLL W pa (grfParts ps).length (grfParts ps)) => by
      have hB := (parts_ok (by omega : 0 < (grfParts ps).length)).1
      have hpe := (parts_ok (by omega : 0 < (grfParts ps).length)).2
      have hok := gok_of hB
      have hn0 : 0 < (csOf ps).length := by rw [csOf_len]; have := prg_len hB; omega
      have h := l6Needs a n cap ps pa (grfParts ps).length pc (grfParts ps) m W (hr.grew g) hn hB hpr hm h4 (grfParts_bd ps).2 (by
        have h := parts_in hB
        rw [csOf_len, hl] at h
        rw [grfParts, if_pos hB]
        exact h)
      have he : needsS (cOf' (csOf ps)) (grfParts ps) m = needsI (cOf' (csOf ps)) (grfParts ps) m := by
        rw [hpe]
        exact needs_eq hok hn0 (by rw [← hpe]; exact hm)
      rw [he] at h
      exact h)
    have HNB := Lib.hid (fun k => needsI_bd (cOf' (csOf ps)) (grfParts ps) k)
    have HNL := Lib.hid (fun k => needsI_len (cOf' (csOf ps)) (grfParts ps) k)
    obtain ⟨c, hcc⟩ : ∃ c, cOf' (csOf ps) = c := ⟨_, rfl⟩
    obtain ⟨S, hS⟩ : ∃ S, grfParts ps = S := ⟨_, rfl⟩
    rw [hcc] at HE HN HNB HNL
    rw [hS] at HE HN HC hp h4 HNB HNL
    have HMe := Lib.hid (fun k => show metB c S done k = allD done (needsI c S k) from rfl)
    subst hp
    have HD := Lib.hid hd
    have b1 : ((S.length : Int) != (S.length : Int)) = false := by simp
    clear hr hl hS hcc hd hdl
    go_enter Tryz.func14, Tryz.ntmps14
    go_wp2_with fail
    refine (HC.out _ (by repeat (first | with_reducible exact Below.refl _ _ | with_reducible assumption | with_reducible apply grew_ext | with_reducible apply grew_al | with_reducible apply grew_dn | with_reducible apply grew_d | (with_reducible refine grew_set ?_ (by first | omega | (repeat (first | with_reducible exact Nat.le_refl _ | with_reducible apply le_pl | with_reducible apply le_ext | with_reducible apply le_al))) _)))).mono ?_
    rintro e w1 ⟨pa, pc, ms, rfl, o1, hms, g1⟩
    have hGw1 : Grew w w1 := grew_tr (by repeat (first | with_reducible exact Below.refl _ _ | with_reducible assumption | with_reducible apply grew_ext | with_reducible apply grew_al | with_reducible apply grew_dn | with_reducible apply grew_d | (with_reducible refine grew_set ?_ (by first | omega | (repeat (first | with_reducible exact Nat.le_refl _ | with_reducible apply le_pl | with_reducible apply le_ext | with_reducible apply le_al))) _))) g1
    have hB1 : Blk w1 w.heap.size 30 #[.slice a n cap] := ((Blk.new w _ _).alloc _).grew g1
    have HO1 := Lib.hid (OwnLN.of o1)
    have HMS := Lib.hid hms
    have H0 := Lib.hid (show w1.ownsRow (w.heap.size + 1) 3 1 (.slice (some ⟨w.heap.size + 1, 0, none⟩) 0 0) 0 (ints .i64 []) from owns_grew (by
      simpa [ints] using World.ownsRow_lit (w.alloc (.cells #[.slice a n cap] 30)) (e := 3) (size := 1) #[] 0 (base := w.heap.size + 1) (by simp) (Nat.zero_le _) rfl) g1)
    have HG1 := Lib.hid hGw1
    have HB1 := Lib.hid hB1
    have hs1 := g1.size
    simp only [World.size_alloc] at hs1
    clear o1 hms g1 hGw1 hB1
    go_wp2
    go_loopw [5, 7] (fun v i wr => ∃ m : Nat, m ≤ S.length ∧ i = .int .i64 m ∧ Chg (fun b => b = w.heap.size + 1) w1 wr ∧ wr.ownsRow (w.heap.size + 1) 3 1 v (readyN c S done m).length (ints .i64 (readyN c S done m)) ∧ ∀ b, v.ownBlock = some b → b = w.heap.size + 1 ∨ w1.heap.size ≤ b) (fun _ i _ => S.length - (Go.RowKit.intOf i).toNat)
    case atStart => exact ⟨0, Nat.zero_le _, rfl, Chg.refl _ _, H0.out, fun b hb => .inl (by simpa [Value.ownBlock, eq_comm] using hb)⟩
    case round =>
      clear H0
      obtain ⟨m, hm, rfl, hc, ho, hob⟩ := hrel
      have hnl := readyN_len c S done m
      obtain ⟨oa, oc, rfl⟩ := owns_slice ho
      have hGw : Grew w wr := HG1.out.trans (hc.belowB HG1.out.size (fun k e => by omega))
      have hsz := hGw.size
      have hsz1 := hc.size
      have hb0 : wr.cell? ⟨w.heap.size, 0, none⟩ = some (.slice a n cap) := (HB1.out.chg hc (by omega)).cell 0
      by_cases hlt : m < S.length
      · obtain ⟨b, off, x, rfl, hx, hcell⟩ := (HD.out.grew hGw).atB (i := m) (by omega)
        have hxg : done.getD m false = x := by simp [hx]
        have HO := Lib.hid ho
        have HC1 := Lib.hid hc
        have HOB := Lib.hid hob
        cases x
        · have HNm := Lib.hid (HN.out m hlt pa pc wr hGw ((HO1.out.chg hc (fun b h1 h2 e => by simp only [World.size_alloc] at h1; omega)).rd HMS.out))
          have hnb := HNB.out m
          have hnm := HNL.out m
          have HDg := Lib.hid (HD.out.grew hGw)
          have hme := HMe.out m
          obtain ⟨L, hL⟩ : ∃ L, needsI c S m = L := ⟨_, rfl⟩
          rw [hL] at HNm hnb hnm hme
          have HNb := Lib.hid hnb
          have HGw := Lib.hid hGw
          cases hmb : metB c S done m
          · have HF := Lib.hid (readyN_no (c := c) (parts := S) (done := done) (i := m) (by rw [hxg, hmb]; rfl))
            rw [hmb] at hme
            have HME := Lib.hid hme.symm
            clear hx ho hc hob hmb hxg hL hme hnb hGw
            go_wp2_with fail
            refine HNm.out.mono ?_
            rintro e w2 ⟨A2, c2, rfl, o2, g2⟩
            have C := Lib.hid (l6All A2 L.length c2 L _ S.length dc done w2 (owns_rd o2) (by omega) (HDg.out.grew g2) (by omega) (fun y hy => by have := HNb.out y hy; omega))
            rw [HME.out] at C
            have HC2 := Lib.hid (HC1.out.trans (Chg.of_below (F := fun _ => False) g2) (fun _ _ h => h) (fun _ _ h => absurd h id))
            have HO2 := Lib.hid (owns_grew HO.out g2)
            clear o2 g2 hcell hb0
            go_wp2_with fail
            refine C.out.mono ?_
            rintro e w3 ⟨rfl, rfl⟩
            go_wp2
            go_roundw
            case rel => exact ⟨m + 1, by omega, by go_num, HC2.out, by rw [HF.out]; exact HO2.out, HOB.out⟩
            case measure => simp [Go.RowKit.intOf]; omega
          · have HF := Lib.hid (readyN_yes (c := c) (parts := S) (done := done) (i := m) (by rw [hxg, hmb]; rfl))
            rw [hmb] at hme
            have HME := Lib.hid hme.symm
            clear hx ho hc hob hmb hxg hL hme hnb hGw
            go_wp2_with fail
            refine HNm.out.mono ?_
            rintro e w2 ⟨A2, c2, rfl, o2, g2⟩
            have C := Lib.hid (l6All A2 L.length c2 L _ S.length dc done w2 (owns_rd o2) (by omega) (HDg.out.grew g2) (by omega) (fun y hy => by have := HNb.out y hy; omega))
            rw [HME.out] at C
            have HC2 := Lib.hid (HC1.out.trans (Chg.of_below (F := fun _ => False) g2) (fun _ _ h => h) (fun _ _ h => absurd h id))
            have HO2 := Lib.hid (owns_grew HO.out g2)
            have hs2 := g2.size
            clear o2 g2 hcell hb0
            obtain ⟨a2, c3, w4, r3, o3, k3, v3⟩ := appOneC (m : Int) HO2.out (by omega) (by omega)
            have R3 := Lib.hid r3
            have O3 := Lib.hid o3
            have HC3 := Lib.hid (HC2.out.trans k3 (fun _ _ h => h) (fun i hi e => by have := HOB.out i e; omega))
            have HV3 := Lib.hid (fun b (hb : (Value.slice a2 ((readyN c S done m).length + 1) c3).ownBlock = some b) => show b = w.heap.size + 1 ∨ w1.heap.size ≤ b from by
              rcases v3 with h | h
              · rw [h] at hb
                exact HOB.out b hb
              · rw [h, Option.some.injEq] at hb
                omega)
            clear r3 o3 k3 v3
            go_wp2_with fail
            refine C.out.mono ?_
            rintro e w3 ⟨rfl, rfl⟩
            go_wp2_with (at_builtin; refine wpList_append_run rfl _ _ rfl rfl rfl rfl R3.out ?_; clear R3)
            go_roundw
            case rel => exact ⟨m + 1, by omega, by go_num, HC3.out, by rw [HF.out, List.length_append]; exact O3.out, HV3.out⟩
            case measure => simp [Go.RowKit.intOf]; omega
        · have HF := Lib.hid (readyN_no (c := c) (parts := S) (done := done) (i := m) (by rw [hxg]; rfl))
          clear hx ho hc hob hxg hb0 hGw
          go_wp2
          go_roundw
          case rel => exact ⟨m + 1, by omega, by go_num, HC1.out, by rw [HF.out]; exact HO.out, HOB.out⟩
          case measure => simp [Go.RowKit.intOf]; omega
      · obtain rfl : m = S.length := by omega
        rw [readyN_all] at ho hnl
        have HO := Lib.hid ho
        have HG := Lib.hid hGw
        clear ho hc hob hb0 hGw
        go_wp2
        go_ret
        rw [HE.out]
        exact ⟨oa, oc, rfl, owns_mono HO.out (by omega), HG.out⟩
  · have HE := Lib.hid (show grfReady ps done = [] from by rw [grfReady, if_neg (by omega)])
    obtain ⟨S, hS⟩ : ∃ S, grfParts ps = S := ⟨_, rfl⟩
    rw [hS] at HC h4 hp
    have b1 : ((dn : Int) != (S.length : Int)) = true := by simp; omega
    clear hr hl hS hd hdl
    go_enter Tryz.func14, Tryz.ntmps14
    go_wp2_with fail
    refine (HC.out _ (by repeat (first | with_reducible exact Below.refl _ _ | with_reducible assumption | with_reducible apply grew_ext | with_reducible apply grew_al | with_reducible apply grew_dn | with_reducible apply grew_d | (with_reducible refine grew_set ?_ (by first | omega | (repeat (first | with_reducible exact Nat.le_refl _ | with_reducible apply le_pl | with_reducible apply le_ext | with_reducible apply le_al))) _)))).mono ?_
    rintro e w1 ⟨pa, pc, ms, rfl, o1, hms, g1⟩
    have H0 := Lib.hid (show w1.ownsRow w.heap.size 3 1 (.slice (some ⟨w.heap.size + 1, 0, none⟩) 0 0) 0 (ints .i64 []) from owns_grew (by
      simpa [ints] using World.ownsRow_lit (w.alloc (.cells #[.slice a n cap] 30)) (e := 3) (size := 1) #[] 0 (base := w.heap.size) (by simp) (Nat.zero_le _) rfl) g1)
    have HG := Lib.hid (show Grew w w1 from grew_tr (by repeat (first | with_reducible exact Below.refl _ _ | with_reducible assumption | with_reducible apply grew_ext | with_reducible apply grew_al | with_reducible apply grew_dn | with_reducible apply grew_d | (with_reducible refine grew_set ?_ (by first | omega | (repeat (first | with_reducible exact Nat.le_refl _ | with_reducible apply le_pl | with_reducible apply le_ext | with_reducible apply le_al))) _))) g1)
    clear o1 hms g1
    go_wp2
    go_ret
    rw [HE.out]
    exact ⟨_, _, rfl, H0.out, HG.out⟩
end Go.Proofs.YtmcfengnihomcaaGreat

/- The order of the parts: GrfOrder on both sides. No condition. -/
namespace Go.Proofs.YtmcfengnihomcaaGreat
open Go.RowKit
set_option linter.unusedVariables false
set_option linter.unusedSimpArgs false
attribute [local go_sem] ext_cell ext_frozen ext_lt ext_le ext_le1 lt_s2 lt_s3 lt_s4 lt_s5 lt_s6 ext_lt1 ext_lt2 ext_lt3

/-- Two rows of different types are different blocks. -/
theorem own_neX {w : World} {B1 B2 s1 s2 n1 n2 : Nat} {e1 e2 : TypeId} {v1 v2 : Value} {xs1 xs2 : List Value} (h1 : w.ownsRow B1 e1 s1 v1 n1 xs1) (h2 : w.ownsRow B2 e2 s2 v2 n2 xs2) (hne : e1 ≠ e2) {b : Nat} (hb1 : v1.ownBlock = some b) (hb2 : v2.ownBlock = some b) : False := by
  rcases h1.2 with ⟨rfl, _⟩ | ⟨g1, cap1, cur1, rfl, _, k1, _⟩
  · cases hb1
  rcases h2.2 with ⟨rfl, _⟩ | ⟨g2, cap2, cur2, rfl, _, k2, _⟩
  · cases hb2
  simp only [Value.ownBlock, Option.some.injEq] at hb1 hb2
  subst hb1
  subst hb2
  rw [k1] at k2
  simp only [Option.some.injEq, Obj.cells.injEq] at k2
  exact hne k2.2.1
theorem bool_one (zs : List Bool) : ∀ u ∈ bools zs, u.oneCell' = true := by
  intro u hu
  simp only [bools, List.mem_map] at hu
  obtain ⟨b, _, rfl⟩ := hu
  rfl
/-- One truth is put behind a row of the call's own. -/
theorem appOneB {w W : World} {vs : List Bool} {n : Nat} {a1 : Option Addr} {c1 : Nat} (z : Bool) (h1 : W.ownsRow w.heap.size 4 1 (.slice a1 n c1) n (bools vs)) (h2 : n ≤ 1048580) (h3 : Grew w W) :
    ∃ a2 c2 W2, (Builtin.append_ #[37, 37] 37 #[.slice a1 n c1, .slice (some ⟨W.heap.size, 0, none⟩) 1 1]).run Tryz.prog (W.alloc (.cells #[.bool z] 4)) = .ok (.slice a2 (n + 1) c2) W2 ∧ W2.ownsRow w.heap.size 4 1 (.slice a2 (n + 1) c2) (n + 1) (bools (vs ++ [z])) ∧ Chg (fun b => (Value.slice a1 n c1).ownBlock = some b) W W2 ∧ ((Value.slice a2 (n + 1) c2).ownBlock = (Value.slice a1 n c1).ownBlock ∨ (Value.slice a2 (n + 1) c2).ownBlock = some (W.heap.size + 1)) := by
  obtain ⟨v3, w3, hrun3, o3, g3, hv⟩ := owns_append_lit (P := Tryz.prog) W boolEl h1 1 [.bool z] rfl (by simp [Value.oneCell']) (by omega) (by omega) h3.size
  obtain ⟨a2, c2, rfl⟩ := owns_slice o3
  refine ⟨a2, c2, w3, hrun3, by rw [bools_append]; exact o3, Chg.of_grownBy g3, hv⟩
/-- A list's own length, out of its value. -/
def lenV : Value → Nat
  | .slice _ n _ => n
  | _ => 0

/-- GrfOrder. -/
def grfOrder (ps : List Prc) : List Int := (ordN (cOf' (csOf ps)) (grfParts ps) (grfParts ps).length).2
theorem ordN_done (c : Int → List Int) (parts : List (List Int)) : ∀ j, (ordN c parts j).1.length = parts.length
  | 0 => by simp [ordN]
  | j + 1 => by simp [ordN, ordS, ordN_done c parts j]
theorem ordN_out (c : Int → List Int) (parts : List (List Int)) : ∀ j, (ordN c parts j).2.length = j
  | 0 => by simp [ordN]
  | j + 1 => by simp [ordN, ordS, ordN_out c parts j]
theorem grfOrder_len (ps : List Prc) : (grfOrder ps).length ≤ 10 := by
  unfold grfOrder
  rw [ordN_out]
  have := (grfParts_bd ps).1
  omega
theorem ordN_next {c : Int → List Int} {parts : List (List Int)} {j : Nat} {x : Int} {t : List Int} (h : readyL c parts (ordN c parts j).1 = x :: t) : ordN c parts (j + 1) = ((ordN c parts j).1.set x.toNat true, (ordN c parts j).2 ++ [x]) := by
  rw [ordN, ordS, h]
  rfl
theorem ready_bd {c : Int → List Int} {parts : List (List Int)} {done : List Bool} : ∀ x, x ∈ readyL c parts done → 0 ≤ x ∧ x < parts.length := fun x hx => by
  obtain ⟨k, rfl, hk, _⟩ := (readyL_mem _ _ _ _).1 hx
  omega
theorem replicate_snoc (k : Nat) : List.replicate k false ++ [false] = List.replicate (k + 1) false := (List.replicate_succ' ..).symm
end Go.Proofs.YtmcfengnihomcaaGreat

/- The order of the parts, the program's side. No condition. -/
namespace Go.Proofs.YtmcfengnihomcaaGreat
open Go.RowKit
set_option linter.unusedVariables false
set_option linter.unusedSimpArgs false
attribute [local go_sem] ext_cell ext_frozen ext_lt ext_le ext_le1 lt_s2 lt_s3 lt_s4 lt_s5 lt_s6 ext_lt1 ext_lt2 ext_lt3

theorem made_bools (n : Nat) : (madeCells (Value.bool false).cells n).toList = bools (List.replicate n false) := by
  have h : (Value.bool false).cells = #[.bool false] := rfl
  rw [h]
  apply List.ext_getElem
  · simp [madeCells, bools]
  · intro i h1 h2
    simp [madeCells, bools, Nat.mod_one]
set_option maxRecDepth 100000 in
set_option maxHeartbeats 4000000 in
theorem implGrfOrder (a : Option Addr) (n cap : Nat) (ps : List Prc) (w : World) (hr : RdP w a n ps) (hn : n ≤ 9223372036854775807) :
    Calls Tryz.prog 8 #[.agg #[.slice a n cap]] w (RetIs (grfOrder ps) w) := by
  have hl := hr.len
  cases hB : prgOkB ps
  · have HC := Lib.hid (fun W (g : Grew w W) => readGraphNo a n cap ps W (hr.grew g) hn hB)
    have HE := Lib.hid (show grfOrder ps = [] from by
      have : grfParts ps = [] := by rw [grfParts, if_neg (by simp [hB])]
      rw [grfOrder, this]
      rfl)
    clear hB hr hl
    go_enter Tryz.func8, Tryz.ntmps8
    go_wp2_with fail
    refine (HC.out _ (by repeat (first | with_reducible exact Below.refl _ _ | with_reducible assumption | with_reducible apply grew_ext | with_reducible apply grew_al | with_reducible apply grew_dn | with_reducible apply grew_d | (with_reducible refine grew_set ?_ (by first | omega | (repeat (first | with_reducible exact Nat.le_refl _ | with_reducible apply le_pl | with_reducible apply le_ext | with_reducible apply le_al))) _)))).mono ?_
    rintro e w1 ⟨rfl, g1⟩
    go_wp2
    go_ret
    rw [HE.out]
    exact retIs_nil (grew_tr (by repeat (first | with_reducible exact Below.refl _ _ | with_reducible assumption | with_reducible apply grew_ext | with_reducible apply grew_al | with_reducible apply grew_dn | with_reducible apply grew_d | (with_reducible refine grew_set ?_ (by first | omega | (repeat (first | with_reducible exact Nat.le_refl _ | with_reducible apply le_pl | with_reducible apply le_ext | with_reducible apply le_al))) _))) g1)
  · have HC := Lib.hid (fun W (g : Grew w W) => readGraphYes a n cap ps W (hr.grew g) hn hB)
    have hpt : grfParts ps = ptOf ps := by rw [grfParts, if_pos hB]
    have hbd := grfParts_bd ps
    rw [hpt] at hbd
    have h4 := hbd.1
    have hok := gok_of hB
    have hn0 : 0 < (csOf ps).length := by rw [csOf_len]; have := prg_len hB; omega
    have hpe : ptOf ps = partsL (cOf' (csOf ps)) (csOf ps).length := by rw [ptOf, csOf_len]
    have HInv := Lib.hid (fun j (hj : j ≤ (ptOf ps).length) => by
      have h := ord_inv hok hn0 j (by rw [← hpe]; exact hj)
      rw [← hpe] at h
      exact h)
    have HEnd := Lib.hid (show readyL (cOf' (csOf ps)) (ptOf ps) (ordN (cOf' (csOf ps)) (ptOf ps) (ptOf ps).length).1 = [] from by
      have h := ord_end hok hn0
      rw [← hpe] at h
      exact h)
    have HE := Lib.hid (show grfOrder ps = (ordN (cOf' (csOf ps)) (ptOf ps) (ptOf ps).length).2 from by rw [grfOrder, hpt])
    have HN := Lib.hid (fun gb (da : Option Addr) (dc : Nat) (done : List Bool) W (h : GrR W gb (csOf ps) (ptOf ps)) (hd : Rd W da (ptOf ps).length 1 (bools done)) => implReady gb (csOf ps) (ptOf ps) da (ptOf ps).length dc done W h hd rfl hbd.1 hbd.2 (parts_in hB) (by rw [csOf_len]; exact (prg_len hB).2) (fun l hl => by
      obtain ⟨j, hj, rfl⟩ := List.mem_iff_getElem.1 hl
      have := cs_len hB (j : Int)
      simpa [cOf', hj] using this))
    have HBD := Lib.hid (fun done => @ready_bd (cOf' (csOf ps)) (ptOf ps) done)
    have HRL := Lib.hid (fun done => readyL_len (cOf' (csOf ps)) (ptOf ps) done)
    have HNX := Lib.hid (fun j x t h => @ordN_next (cOf' (csOf ps)) (ptOf ps) j x t h)
    have HO0 := Lib.hid (show ordN (cOf' (csOf ps)) (ptOf ps) 0 = (List.replicate (ptOf ps).length false, []) from rfl)
    have HDn := Lib.hid (fun j => ordN_done (cOf' (csOf ps)) (ptOf ps) j)
    have HOut := Lib.hid (fun j => ordN_out (cOf' (csOf ps)) (ptOf ps) j)
    obtain ⟨O, hO⟩ : ∃ O, ordN (cOf' (csOf ps)) (ptOf ps) = O := ⟨_, rfl⟩
    obtain ⟨RL, hRL⟩ : ∃ RL, readyL (cOf' (csOf ps)) (ptOf ps) = RL := ⟨_, rfl⟩
    rw [hRL] at HInv HEnd HN HBD HRL HNX
    rw [hO] at HInv HEnd HE HNX HO0 HDn HOut
    obtain ⟨S, hS⟩ : ∃ S, ptOf ps = S := ⟨_, rfl⟩
    rw [hS] at HInv HEnd HE HN HC HBD HRL HO0 HDn h4
    obtain ⟨CS, hCS⟩ : ∃ CS, csOf ps = CS := ⟨_, rfl⟩
    rw [hCS] at HN HC
    clear hr hl hB hpt hbd hS hok hn0 hpe hO hRL hCS
    go_enter Tryz.func8, Tryz.ntmps8
    go_wp2_with fail
    refine (HC.out _ (by repeat (first | with_reducible exact Below.refl _ _ | with_reducible assumption | with_reducible apply grew_ext | with_reducible apply grew_al | with_reducible apply grew_dn | with_reducible apply grew_d | (with_reducible refine grew_set ?_ (by first | omega | (repeat (first | with_reducible exact Nat.le_refl _ | with_reducible apply le_pl | with_reducible apply le_ext | with_reducible apply le_al))) _)))).mono ?_
    rintro e w1 ⟨gb, rfl, hg, g1⟩
    have hrd := hg.rd
    obtain ⟨pa, pc, q2, -⟩ := hrd.p
    have HR := Lib.hid hrd
    have HG1 := Lib.hid (grew_tr (show Grew w (w.alloc (.cells #[.slice a n cap] 30)) from grew_al (Below.refl _ _) _) g1)
    clear hg g1 hrd
    obtain ⟨i0, hi, hz0, hz1, hz2⟩ := info_parts boolInfo
    obtain ⟨w2, hmk, hown, hgr⟩ := run_make_full (P := Tryz.prog) w1 w1.heap.size 37 4 i0 (.bool false) 1 Tryz.underlying37 hi hz0 hz1 .i64 .i64 S.length (by rw [hz2]; omega) (by unfold maxLen; omega) (Nat.le_refl _)
    have HB2 := Lib.hid (Below.of_grownBy hgr (Nat.le_refl _) (fun k e => nomatch e)); clear hgr
    have HD2 := Lib.hid (show w2.ownsRow w1.heap.size 4 1 (.slice (some ⟨w1.heap.size, 0, none⟩) S.length S.length) S.length (bools (O 0).1) from by rw [HO0.out, ← made_bools]; simpa using hown)
    clear hown hi hz0 hz1 hz2
    go_wp2_with fail
    refine (HN.out gb _ _ (O 0).1 _ (HR.out.grew HB2.out) (owns_rd HD2.out)).mono ?_
    rintro e w3 ⟨A3, c3, rfl, o3, g3⟩
    have HL3 := Lib.hid (owns_mono o3 HB2.out.size)
    have HD3 := Lib.hid (owns_grew HD2.out g3)
    have HB3 := Lib.hid (grew_tr HB2.out g3)
    clear o3 g3 hmk
    go_wp2
    go_loopw [6, 7] (fun v l wr => ∃ j : Nat, j ≤ S.length ∧ Grew w1 wr ∧ wr.ownsRow w1.heap.size 4 1 (.slice (some ⟨w1.heap.size, 0, none⟩) S.length S.length) S.length (bools (O j).1) ∧ wr.ownsRow w1.heap.size 3 1 v j (ints .i64 (O j).2) ∧ wr.ownsRow w1.heap.size 3 1 l (RL (O j).1).length (ints .i64 (RL (O j).1))) (fun v _ _ => S.length - lenV v)
    case atStart => exact ⟨0, Nat.zero_le _, HB3.out, HD3.out, by rw [HO0.out]; exact World.ownsRow_nil _ _ _ _, HL3.out⟩
    case round =>
      obtain ⟨j, hj, hg, hd, ho, hll⟩ := hrel
      obtain ⟨oa, oc, rfl⟩ := owns_slice ho
      obtain ⟨la, lc, rfl⟩ := owns_slice hll
      by_cases hlt : j < S.length
      · have hne := (HInv.out j hj).2.2.2 hlt
        have hrl := HRL.out (O j).1
        have hbd := HBD.out (O j).1
        obtain ⟨x, t, hxt⟩ : ∃ x t, RL (O j).1 = x :: t := by
          cases h : RL (O j).1 with
          | nil => exact absurd h hne
          | cons x t => exact ⟨x, t, rfl⟩
        have hnx := HNX.out j x t hxt
        rw [hxt] at hll hrl hbd ⊢
        obtain ⟨hx0, hx1⟩ := hbd x (by simp)
        obtain ⟨k, rfl⟩ := Int.eq_ofNat_of_zero_le hx0
        obtain ⟨lb, loff, x', rfl, hx', hcl⟩ := (owns_rd hll).at1 (show 0 < ((k : Int) :: t).length from by simp)
        obtain rfl : (k : Int) = x' := by simpa using hx'
        have hcl0 : wr.cell? ⟨lb, loff, none⟩ = some (.int .i64 (k : Int)) := by simpa using hcl
        have hcd := hd.cellAt k (by omega)
        have hfd := hd.frozenAt k
        have hdl := HDn.out j
        obtain ⟨y, hy⟩ : ∃ y, (bools (O j).1)[k]? = some y := ⟨(bools (O j).1)[k]'(by rw [bools_length]; omega), List.getElem?_eq_getElem _⟩
        rw [hy] at hcd
        obtain ⟨hd2, hgd⟩ := hd.stored k (.bool true)
        have hcg : Chg (fun b => (Value.slice (some ⟨w1.heap.size, 0, none⟩) S.length S.length).ownBlock = some b) wr (wr.setCell ⟨w1.heap.size, k, none⟩ (.bool true)) := Chg.of_grownBy hgd
        have ho2 := owns_chg ho hcg (fun b hb e => own_neX ho hd (by decide) hb e)
        have hl2 := owns_chg hll hcg (fun b hb e => own_neX hll hd (by decide) hb e)
        have hg2 : Grew w1 (wr.setCell ⟨w1.heap.size, k, none⟩ (.bool true)) := hg.trans (hcg.belowB hg.size (fun i e => by simp only [Value.ownBlock, Option.some.injEq] at e; omega))
        obtain ⟨a4, c4, w4, r4, o4, k4, v4⟩ := appOneC (k : Int) ho2 (by omega) hg2.size
        have hd4 := owns_chg hd2 k4 (fun b hb e => own_neX hd2 ho2 (by decide) hb e)
        have hg4 := hg2.trans (k4.belowB hg2.size (fun i e => (ho2.lt i e).1))
        rw [bools_set] at hd4
        have e1 : (O (j + 1)).1 = (O j).1.set k true := by rw [hnx]; rfl
        have e2 : (O (j + 1)).2 = (O j).2 ++ [(k : Int)] := by rw [hnx]
        rw [← e1] at hd4
        rw [← e2] at o4
        have CN := Lib.hid (HN.out gb _ S.length (O (j + 1)).1 w4 (HR.out.grew hg4) (owns_rd hd4))
        have hcl2 : (wr.setCell ⟨w1.heap.size, k, none⟩ (.bool true)).cell? ⟨lb, loff, none⟩ = some (.int .i64 (k : Int)) := by
          obtain ⟨lb', loff', x2, e, hx2, hc2⟩ := (owns_rd hl2).at1 (show 0 < ((k : Int) :: t).length from by simp)
          obtain ⟨rfl, rfl⟩ : lb' = lb ∧ loff' = loff := by simpa [eq_comm] using e
          obtain rfl : (k : Int) = x2 := by simpa using hx2
          simpa using hc2
        simp only [World.size_alloc, World.size_setCell] at r4
        have HR4 := Lib.hid r4
        have HO4 := Lib.hid o4
        have HD4 := Lib.hid hd4
        have HG4 := Lib.hid hg4
        have hlen : 0 < ((k : Int) :: t).length := by simp
        have hlen2 : decide ((((k : Int) :: t).length : Int) > 0) = true := by simp
        obtain ⟨LL, hLL⟩ : ∃ LL : Nat, ((k : Int) :: t).length = LL := ⟨_, rfl⟩
        rw [hLL] at hlen hlen2 ⊢
        have hk1 : k < S.length := by omega
        clear hll hrl hbd hnx hxt hne hx' hd hd2 hgd hcg ho ho2 hl2 hg hg2 r4 o4 k4 v4 hd4 hg4 e1 e2 hy hLL hcl hx0 hx1 hdl
        go_wp2_with (at_builtin; refine wpList_append_run rfl _ _ rfl rfl rfl rfl HR4.out ?_; clear HR4)
        refine CN.out.mono ?_
        rintro e w5 ⟨A5, c5, rfl, o5, g5⟩
        have HL5 := Lib.hid (owns_mono o5 HG4.out.size)
        have HD5 := Lib.hid (owns_grew HD4.out g5)
        have HO5 := Lib.hid (owns_grew HO4.out g5)
        have HG5 := Lib.hid (grew_tr HG4.out g5)
        clear o5 g5 hcl0 hcl2 hcd hfd
        go_wp2
        go_roundw
        case rel => exact ⟨j + 1, by omega, HG5.out, HD5.out, HO5.out, HL5.out⟩
        case measure => simp only [lenV]; omega
      · obtain rfl : j = S.length := by omega
        have hz : (RL (O S.length).1).length = 0 := by rw [HEnd.out]; rfl
        have HO5 := Lib.hid ho
        have HG5 := Lib.hid (grew_tr HG1.out hg)
        have hof := HOut.out S.length
        have HS1 := HG1.out.size
        rw [hz]
        clear ho hg hd hll
        go_wp2
        go_ret
        rw [HE.out]
        refine ⟨oa, oc, ?_, ?_, HG5.out⟩
        · rw [hof]
          rfl
        · rw [hof]
          exact owns_mono HO5.out HS1
end Go.Proofs.YtmcfengnihomcaaGreat
