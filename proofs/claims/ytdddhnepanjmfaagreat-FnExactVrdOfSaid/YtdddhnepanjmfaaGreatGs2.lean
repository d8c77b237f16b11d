/- The call graph, the reference's side: calls, what can be come to, parts. No condition. -/
import Derived.Test.YtdddhnepanjmfaaGreatGs
namespace Go.Proofs.YtdddhnepanjmfaaGreat
open Go.RowKit
set_option linter.unusedVariables false
set_option linter.unusedSimpArgs false
attribute [local go_sem] ext_cell ext_frozen ext_lt ext_le ext_le1 lt_s2 lt_s3 lt_s4 lt_s5 lt_s6 ext_lt1 ext_lt2 ext_lt3

theorem cs_get {ps : List Prc} {k : Nat} {p : Prc} (h : ps[k]? = some p) : cOf' (csOf ps) (k : Int) = callsL p.code := by
  simp [cOf', csOf, h]
theorem cs_len {ps : List Prc} (hB : prgOkB ps = true) (k : Int) : (cOf' (csOf ps) k).length ≤ 10 := by
  unfold cOf'
  rw [List.getD_eq_getElem?_getD]
  cases hk : (csOf ps)[k.toNat]? with
  | none => simp
  | some l =>
    rw [csOf, List.getElem?_map, Option.map_eq_some_iff] at hk
    obtain ⟨p, hp, rfl⟩ := hk
    simp only [Option.getD_some, callsL]
    have h1 : (scomp (callTo p.code)).length ≤ (callTo p.code).length := by
      refine nodup_sub _ _ (srt_nodup (scomp_srt _)) (fun x hx => (scomp_mem _ x).1 hx)
    have := callTo_len p.code
    have := (prg_code hB (List.mem_of_getElem? hp)).2.1
    omega

set_option maxRecDepth 100000 in
set_option maxHeartbeats 2000000 in
theorem l6Calls (a : Option Addr) (n cap : Nat) (ps : List Prc) (proc : Int) (w : World) (hr : RdP w a n ps) (hn : n ≤ 9223372036854775807) (hB : prgOkB ps = true) (hp : 0 ≤ proc ∧ proc < n) :
    Calls Tryz.prog 71 #[.agg #[.slice a n cap], .int .i64 proc] w (RetIs (cOf' (csOf ps) proc) w) := by
  obtain ⟨k, rfl⟩ := Int.eq_ofNat_of_zero_le hp.1
  have hk : k < n := by omega
  obtain ⟨b, off, lo, hi, is, ia, ic, rfl, hx, c0, c1, c2, hbl, hi1, hi2, hi3⟩ := rdP_at hr hk
  have HX := Lib.hid (cs_get hx)
  have hcode : is.length ≤ 10 := (prg_code hB (List.mem_of_getElem? hx)).2.1
  have hic : is.length ≤ 9223372036854775807 := by omega
  have HI := Lib.hid hi1
  have H0 := Lib.hid (show ((w.alloc (.cells #[.slice (some ⟨b, off, none⟩) n cap] 34)).alloc (.cells #[] 3)).ownsRow w.heap.size 3 1 (.slice (some ⟨w.heap.size + 1, 0, none⟩) 0 0) 0 (ints .i64 []) from by
    simpa [ints] using World.ownsRow_lit (w.alloc (.cells #[.slice (some ⟨b, off, none⟩) n cap] 34)) (e := 3) (size := 1) #[] 0 (base := w.heap.size) (by simp) (Nat.zero_le _) rfl)
  clear hr hx hi1 hB
  go_enter Tryz.func71, Tryz.ntmps71
  go_wp2
  go_loopw [5, 7] (fun v i wr => ∃ m : Nat, m ≤ is.length ∧ i = .int .i64 m ∧ Grew w wr ∧ wr.ownsRow w.heap.size 3 1 v (putA [] (callTo (is.take m))).length (ints .i64 (putA [] (callTo (is.take m))))) (fun _ i _ => is.length - (Go.RowKit.intOf i).toNat)
  case atStart => exact ⟨0, Nat.zero_le _, rfl, gr, H0.out⟩
  case round =>
    clear H0
    obtain ⟨m, hm, rfl, hg, ho⟩ := hrel
    have hlen := putA_len (callTo (is.take m)) []
    have hlen2 := callTo_len (is.take m)
    have hlen3 := List.length_take_le m is
    simp only [List.length_nil] at hlen
    obtain ⟨oa, oc, rfl⟩ := owns_slice ho
    by_cases hlt : m < is.length
    · obtain ⟨b2, off2, op, d, ja, jb, rel, lo', hi', to, rfl, hy, d0, d1, d2, d3, d4, d5, d6, d7, hb2⟩ := rdI_at (HI.out.grew stays_ins hg) hlt
      have HT := Lib.hid (show callTo (is.take (m + 1)) = _ from by rw [take_get hy, callTo_snoc])
      clear hy
      by_cases hop : op = 10
      · subst hop
        have HE : Hid (putA [] (callTo (is.take (m + 1))) = putF (putA [] (callTo (is.take m))) to) := Lib.hid (by
          have h := HT.out
          dsimp only at h
          rw [if_pos rfl] at h
          rw [h, putA_snoc])
        have C := Lib.hid (fun W (g : Grew wr W) => l6Put oa _ oc (putA [] (callTo (is.take m))) to W ((owns_rd ho).grew g) (by omega))
        have HG := Lib.hid hg
        clear HT ho hg
        go_wp2_with fail
        refine (C.out _ (Below.refl _ _)).mono ?_
        rintro e w3 ⟨A3, c3, rfl, o3, g3⟩
        have O3 := Lib.hid (owns_mono o3 HG.out.size)
        have G3 := Lib.hid (grew_tr HG.out g3)
        clear o3 g3
        go_wp2
        go_roundw
        case rel => exact ⟨m + 1, by omega, by go_num, G3.out, by rw [HE.out]; exact O3.out⟩
        case measure => simp [Go.RowKit.intOf]; omega
      · have HE : Hid (putA [] (callTo (is.take (m + 1))) = putA [] (callTo (is.take m))) := Lib.hid (by
          have h := HT.out
          dsimp only at h
          rw [if_neg hop, List.append_nil] at h
          rw [h])
        have b1 : (op == 10) = false := by simp [hop]
        have HG := Lib.hid hg
        have HO := Lib.hid ho
        clear HT ho hg hop
        go_wp2
        go_roundw
        case rel => exact ⟨m + 1, by omega, by go_num, HG.out, by rw [HE.out]; exact HO.out⟩
        case measure => simp [Go.RowKit.intOf]; omega
    · have hE : putA [] (callTo (is.take m)) = cOf' (csOf ps) (k : Int) := by rw [HX.out, List.take_of_length_le (by omega), putA_scomp]; rfl
      rw [hE] at ho
      rw [hE]
      have HG := Lib.hid hg
      have HO := Lib.hid ho
      clear hE ho hg hlen
      go_wp2
      go_ret
      exact ⟨oa, oc, rfl, HO.out, HG.out⟩

/-- A rising list of procedures. -/
structure Pl (N : Nat) (l : List Int) : Prop where
  s : Srt l
  b : ∀ x, x ∈ l → 0 ≤ x ∧ x < N
theorem Pl.len {N : Nat} {l : List Int} (h : Pl N l) : l.length ≤ N := srt_len _ _ (srt_nodup h.s) h.b
theorem Pl.putA {N : Nat} {l ns : List Int} (h : Pl N l) (hn : ∀ x, x ∈ ns → 0 ≤ x ∧ x < N) : Pl N (putA l ns) := by
  obtain ⟨h1, h2⟩ := putA_spec ns l h.s
  exact ⟨h1, fun x hx => ((h2 x).1 hx).elim (h.b x) (hn x)⟩
theorem Pl.roundA {N : Nat} {c : Int → List Int} (hc : ∀ k x, x ∈ c k → 0 ≤ x ∧ x < N) {l sn : List Int} (h : Pl N l) : Pl N (roundA c l sn) := by
  obtain ⟨h1, h2⟩ := roundA_spec c sn l h.s
  exact ⟨h1, fun x hx => ((h2 x).1 hx).elim (h.b x) (fun ⟨i, _, hi⟩ => hc i x hi)⟩
theorem Pl.iterA {N : Nat} {c : Int → List Int} (hc : ∀ k x, x ∈ c k → 0 ≤ x ∧ x < N) : ∀ (m : Nat) {l : List Int}, Pl N l → Pl N (iterA c m l)
  | 0, _, h => h
  | m + 1, _, h => Pl.iterA hc m (h.roundA hc)
theorem pl_one {N : Nat} {a : Int} (h : 0 ≤ a ∧ a < N) : Pl N [a] := ⟨by simp, fun x hx => by
  obtain rfl : x = a := by simpa using hx
  exact h⟩

set_option maxRecDepth 100000 in
set_option maxHeartbeats 4000000 in
theorem l6Reach (a : Option Addr) (n cap : Nat) (ps : List Prc) (proc : Int) (w : World) (hr : RdP w a n ps) (hn : n ≤ 9223372036854775807) (hB : prgOkB ps = true) (hp : 0 ≤ proc ∧ proc < n) :
    Calls Tryz.prog 40 #[.agg #[.slice a n cap], .int .i64 proc] w (RetIs (reachL (cOf' (csOf ps)) (csOf ps).length proc) w) := by
  have hl := hr.len
  have hN : (csOf ps).length = n := by rw [csOf_len, hl]
  have hok := gok_of hB
  have hn4 := (prg_len hB).2
  rw [hl] at hn4
  rw [hN]
  have hc : ∀ k x, x ∈ cOf' (csOf ps) k → 0 ≤ x ∧ x < n := fun k x hx => by rw [← hN]; exact hok k x hx
  have HCL := Lib.hid (fun k => cs_len hB k)
  have HC := Lib.hid (fun (proc : Int) (hp : 0 ≤ proc ∧ proc < n) W (g : Grew w W) => l6Calls a n cap ps proc W (hr.grew g) hn hB hp)
  obtain ⟨c, hcc⟩ : ∃ c, cOf' (csOf ps) = c := ⟨_, rfl⟩
  rw [hcc] at HC hc HCL
  rw [hcc]
  have HK := Lib.hid hc
  have H0 := Lib.hid (show ((w.alloc (.cells #[.slice a n cap] 34)).alloc (.cells #[.int .i64 proc] 3)).ownsRow w.heap.size 3 1 (.slice (some ⟨w.heap.size + 1, 0, none⟩) 1 1) 1 (ints .i64 [proc]) from by
    simpa [ints] using World.ownsRow_lit (w.alloc (.cells #[.slice a n cap] 34)) (e := 3) (size := 1) #[.int .i64 proc] 1 (base := w.heap.size) (by simp) (by unfold maxLen; omega) rfl)
  clear hr hl hN hok hB hcc hc
  go_enter Tryz.func40, Tryz.ntmps40
  go_wp2
  go_loopw [5, 6] (fun v i wr => ∃ m : Nat, m ≤ n ∧ i = .int .i64 m ∧ Grew (w.alloc (.cells #[.slice a n cap] 34)) wr ∧ wr.ownsRow w.heap.size 3 1 v (iterA c m [proc]).length (ints .i64 (iterA c m [proc]))) (fun _ i _ => n - (Go.RowKit.intOf i).toNat)
  case atStart => exact ⟨0, Nat.zero_le _, rfl, grew_al (Below.refl _ _) _, H0.out⟩
  case round =>
    clear H0
    obtain ⟨m, hm, rfl, hg, ho⟩ := hrel
    have hpl := Pl.iterA HK.out m (pl_one hp)
    obtain ⟨oa, oc, rfl⟩ := owns_slice ho
    have hb0 : wr.cell? ⟨w.heap.size, 0, none⟩ = some (.slice a n cap) := (hg.cell (p := ⟨w.heap.size, 0, none⟩) (by simp)).trans (by simp [go_sem])
    by_cases hlt : m < n
    · have HE := Lib.hid (iterA_succ c m [proc])
      obtain ⟨S, hS⟩ : ∃ S, iterA c m [proc] = S := ⟨_, rfl⟩
      rw [hS] at HE ho hpl
      rw [hS]
      have HPL := Lib.hid hpl
      have hSl := hpl.len
      have HG := Lib.hid hg
      have HO := Lib.hid ho
      have HRd := Lib.hid (owns_rd ho)
      have hS9 : S.length ≤ 9223372036854775807 := by omega
      clear hS hpl ho hg
      go_wp2
      obtain ⟨wo, hwo⟩ : ∃ wo, wr = wo := ⟨_, rfl⟩
      rw [hwo] at HG HO HRd
      have HWO := Lib.hid hwo
      clear hwo hb0
      go_loopw [5, 8] (fun v i wr => ∃ j : Nat, j ≤ S.length ∧ i = .int .i64 j ∧ Grew wo wr ∧ wr.ownsRow w.heap.size 3 1 v (roundA c S (S.take j)).length (ints .i64 (roundA c S (S.take j)))) (fun _ i _ => S.length - (Go.RowKit.intOf i).toNat)
      case atStart => exact ⟨0, Nat.zero_le _, rfl, by rw [HWO.out]; exact Below.refl _ _, by rw [HWO.out]; exact HO.out⟩
      case round =>
        obtain ⟨j, hj, rfl, hg, ho⟩ := hrel
        obtain ⟨ra, rc, rfl⟩ := owns_slice ho
        have hb0 : wr.cell? ⟨w.heap.size, 0, none⟩ = some (.slice a n cap) := ((grew_tr HG.out hg).cell (p := ⟨w.heap.size, 0, none⟩) (by simp)).trans (by simp [go_sem])
        by_cases hlt2 : j < S.length
        · obtain ⟨b, off, y, rfl, hy, hcell⟩ := (HRd.out.grew hg).at1 hlt2
          have hyb := HPL.out.b y (List.mem_of_getElem? hy)
          have HR2 := Lib.hid (show roundA c S (S.take (j + 1)) = putA (roundA c S (S.take j)) (c y) from by rw [take_get hy, roundA_snoc])
          have HPR := Lib.hid (HPL.out.roundA HK.out (sn := S.take j))
          have HC2 := Lib.hid (fun W (g : Grew wr W) => HC.out y hyb W (grew_tr (grew_tr (grew_al (Below.refl _ _) _) (grew_tr HG.out hg)) g))
          have hcl := HCL.out y
          obtain ⟨R, hR⟩ : ∃ R, roundA c S (S.take j) = R := ⟨_, rfl⟩
          rw [hR] at HR2 HPR ho
          rw [hR]
          obtain ⟨Y, hY⟩ : ∃ Y, c y = Y := ⟨_, rfl⟩
          have HYB := Lib.hid (fun x hx => HK.out y x hx)
          rw [hY] at HR2 HC2 hcl HYB
          have HG2 := Lib.hid hg
          have HO2 := Lib.hid ho
          clear hR hY hg ho hy
          have HSG : Hid (∀ W, Grew wr W → W.cell? ⟨w.heap.size, 0, none⟩ = some (.slice a n cap) ∧ W.cell? ⟨b, off + j, none⟩ = some (.int .i64 y)) := Lib.hid (fun W g => ⟨(g.cell (p := ⟨w.heap.size, 0, none⟩) (World.block_lt_of_cell? wr _ hb0)).trans hb0, (g.cell (p := ⟨b, off + j, none⟩) (World.block_lt_of_cell? wr _ hcell)).trans hcell⟩)
          go_wp2_with fail
          go_region_held3 (fun W => W.cell? ⟨w.heap.size, 0, none⟩ = some (.slice a n cap) ∧ W.cell? ⟨b, off + j, none⟩ = some (.int .i64 y)) (with_reducible (first | assumption | exact HSG.out _ (grew_d (Below.refl _ _))))
            ((go_at_call 71; (with_reducible refine (HC2.out _ (grew_d (Below.refl _ _))).mono ?_); rintro e w5 ⟨A5, c5, rfl, o5, g5⟩; have t5 := HSG.out _ (grew_tr (grew_d (Below.refl _ _)) g5)))
          have O5 := Lib.hid (owns_mono o5 (Nat.le_trans HG.out.size (by have := HG2.out.size; first | exact this | (simp; omega))))
          have G5 := Lib.hid (grew_tr HG2.out (grew_tr (grew_d (Below.refl _ _)) g5))
          have OR := Lib.hid (owns_grew HO2.out (grew_tr (grew_d (Below.refl _ _)) g5))
          have hY9 : Y.length ≤ 9223372036854775807 := by omega
          have hRl := HPR.out.len
          clear HSG hb0 hcell o5 g5 HO2 HG2
          go_wp2
          obtain ⟨w6, hw6⟩ : ∃ w6, w5 = w6 := ⟨_, rfl⟩
          rw [hw6] at O5 G5 OR
          have HW6 := Lib.hid hw6
          clear hw6 t5
          go_loopw [5, 10] (fun v i wr => ∃ q : Nat, q ≤ Y.length ∧ i = .int .i64 q ∧ Grew w6 wr ∧ wr.ownsRow w.heap.size 3 1 v (putA R (Y.take q)).length (ints .i64 (putA R (Y.take q)))) (fun _ i _ => Y.length - (Go.RowKit.intOf i).toNat)
          case atStart => exact ⟨0, Nat.zero_le _, rfl, by rw [HW6.out]; exact Below.refl _ _, by rw [HW6.out]; exact OR.out⟩
          case round =>
            obtain ⟨q, hq, rfl, hg, ho⟩ := hrel
            obtain ⟨xa, xc, rfl⟩ := owns_slice ho
            have hpl3 := (HPR.out.putA (ns := Y.take q) (fun x hx => HYB.out x (List.mem_of_mem_take hx))).len
            by_cases hlt3 : q < Y.length
            · obtain ⟨b3, off3, z, rfl, hz, hzc⟩ := ((owns_rd O5.out).grew hg).at1 hlt3
              have HE3 := Lib.hid (show putA R (Y.take (q + 1)) = putF (putA R (Y.take q)) z from by rw [take_get hz, putA_snoc])
              have C3 := Lib.hid (l6Put xa _ xc (putA R (Y.take q)) z wr (owns_rd ho) (by omega))
              have G6 := Lib.hid hg
              clear hz ho hg
              go_wp2_with fail
              refine C3.out.mono ?_
              rintro e w7 ⟨A7, c7, rfl, o7, g7⟩
              have O7 := Lib.hid (owns_mono o7 (Nat.le_trans (Nat.le_trans (show w.heap.size ≤ wo.heap.size from by have := HG.out.size; simp at this; omega) G5.out.size) G6.out.size))
              have G7 := Lib.hid (grew_tr G6.out g7)
              clear o7 g7 hzc
              go_wp2
              go_roundw
              case rel => exact ⟨q + 1, by omega, by go_num, G7.out, by rw [HE3.out]; exact O7.out⟩
              case measure => simp [Go.RowKit.intOf]; omega
            · obtain rfl : q = Y.length := by omega
              rw [List.take_length] at ho ⊢
              have O7 := Lib.hid ho
              have G7 := Lib.hid (grew_tr G5.out hg)
              clear ho hg
              go_wp2
              go_roundw
              case rel => exact ⟨j + 1, by omega, by go_num, G7.out, by rw [HR2.out]; exact O7.out⟩
              case measure => simp [Go.RowKit.intOf]; omega
        · obtain rfl : j = S.length := by omega
          rw [List.take_length] at ho ⊢
          have O7 := Lib.hid ho
          have G7 := Lib.hid (grew_tr HG.out hg)
          clear ho hg hb0
          go_wp2
          go_roundw
          case rel => exact ⟨m + 1, by omega, by go_num, G7.out, by rw [HE.out]; exact O7.out⟩
          case measure => simp [Go.RowKit.intOf]; omega
    · obtain rfl : m = n := by omega
      have O7 := Lib.hid ho
      have G7 := Lib.hid (grew_tr (grew_al (Below.refl _ _) _) hg)
      clear ho hg
      go_wp2
      go_ret
      exact ⟨oa, oc, rfl, O7.out, G7.out⟩
end Go.Proofs.YtdddhnepanjmfaaGreat
