/- Lemmas and walks of this proof, some texts one behind the other. No condition. -/
import Derived.Test.YtdddhnepanjmfaaGreatTrav
import Derived.Test.YtdddhnepanjmfaaGreatSt
import Derived.Sort.LoopGhostIn
import Derived.Test.YtdddhnepanjmfaaGreatPrgOkI
import Derived.Test.YtdddhnepanjmfaaGreatBlk
set_option linter.unusedSimpArgs false
set_option linter.unusedVariables false
/- The call graph, the program's side: what can be come to from a procedure, and its part. No condition. -/
namespace Go.Proofs.YtdddhnepanjmfaaGreat
open Go.RowKit Go.Shelf Go.Maps
set_option linter.unusedVariables false
set_option linter.unusedSimpArgs false
attribute [local go_sem] ext_cell ext_frozen ext_lt ext_le ext_le1 lt_s2 lt_s3 lt_s4 lt_s5 lt_s6 ext_lt1 ext_lt2 ext_lt3

/-- An index is found just if so. -/
def RetIx (b : Bool) (w : World) (e : Ending) (w' : World) : Prop := ∃ z : Int, e = .returned (.int .i64 z) ∧ decide (0 ≤ z) = b ∧ w = w'
theorem indexInt (a : Option Addr) (n cap : Nat) (zs : List Int) (x : Int) (w : World) (hr : Rd w a n 1 (ints .i64 zs)) (hn : n ≤ 9223372036854775807) :
    Calls Tryz.prog 126 #[.slice a n cap, .int .i64 x] w (RetIx (decide (x ∈ zs)) w) := by
  have HL := Lib.hid hr.len1
  have HR := Lib.hid hr; clear hr
  go_enter Tryz.func126, Tryz.ntmps126
  go_wp2
  go_loop [8] (fun i => ∃ k : Nat, k ≤ n ∧ i = .int .i64 k ∧ ¬ x ∈ zs.take k) (fun i => n - (Go.RowKit.intOf i).toNat)
  case atStart => exact ⟨0, Nat.zero_le _, rfl, by simp⟩
  case round =>
    obtain ⟨k, hk, rfl, hall⟩ := hrel
    have HA := Lib.hid hall; clear hall
    by_cases hlt : k < n
    · obtain ⟨b, off, z0, rfl, hx, c0⟩ := HR.out.at1 hlt
      have HX := Lib.hid hx; clear hx
      by_cases hq : x = z0
      · subst hq
        have b1 : (x == x) = true := by simp
        go_wp2
        go_ret
        refine ⟨k, rfl, ?_, rfl⟩
        rw [decide_eq_true (by omega), decide_eq_true (List.mem_of_getElem? HX.out)]
      · have b1 : (x == z0) = false := by simp [hq]
        have HQ := Lib.hid hq; clear hq
        go_wp2
        go_round
        case rel =>
          refine ⟨k + 1, by omega, by go_num, fun hz => ?_⟩
          rw [take_get HX.out] at hz
          rcases List.mem_append.1 hz with hz | hz
          · exact HA.out hz
          · exact HQ.out (List.mem_singleton.1 hz)
        case measure => simp [Go.RowKit.intOf]; omega
    · go_wp2
      go_ret
      refine ⟨-1, rfl, ?_, rfl⟩
      rw [decide_eq_false (by omega), decide_eq_false]
      have := HA.out
      rwa [List.take_of_length_le (by have := HL.out; omega)] at this
theorem containsInt (a : Option Addr) (n cap : Nat) (zs : List Int) (x : Int) (w : World) (hr : Rd w a n 1 (ints .i64 zs)) (hn : n ≤ 9223372036854775807) :
    Calls Tryz.prog 96 #[.slice a n cap, .int .i64 x] w fun e w' => e = .returned (.bool (decide (x ∈ zs))) ∧ w = w' := by
  have C := Lib.hid (indexInt a n cap zs x w hr hn)
  clear hr
  go_enter Tryz.func96, Tryz.ntmps96
  go_wp2_with fail
  refine C.out.mono ?_
  rintro e w1 ⟨z, rfl, hz, rfl⟩
  have HZ := Lib.hid hz; clear hz
  go_wp2
  go_ret
  exact ⟨by rw [← HZ.out]; rfl, rfl⟩

/-- A graph in memory: its calls. -/
structure Gr (w : World) (gb : Nat) (cs : List (List Int)) : Prop where
  c : ∃ ca cc, w.cell? ⟨gb, 1, none⟩ = some (.slice ca cs.length cc) ∧ RdLL w ca cs.length cs ∧ cs.length ≤ cc
  ok : Gok cs
  sz : cs.length ≤ 900
theorem Gr.grew {w w' : World} {gb : Nat} {cs : List (List Int)} (h : Gr w gb cs) (g : Grew w w') : Gr w' gb cs := by
  obtain ⟨⟨ca, cc, h1, h2, h3⟩, h4, h5⟩ := h
  exact ⟨⟨ca, cc, (g.cell (p := ⟨gb, 1, none⟩) (World.block_lt_of_cell? w _ h1)).trans h1, RdL.grew stays_ints h2 g, h3⟩, h4, h5⟩
theorem traverse (gb : Nat) (a : Int) (w : World) :
    Calls Tryz.prog 95 #[.pointer (some ⟨gb, 0, none⟩), .int .i64 a] w fun e w' => e = .returned (.func (.func 125) #[] #[.pointer (some ⟨w.heap.size + 1, 0, none⟩), .pointer (some ⟨w.heap.size, 0, none⟩)]) ∧
      w' = (w.alloc (.cells #[.pointer (some ⟨gb, 0, none⟩)] 65)).alloc (.cells #[.int .i64 a] 3) := by
  go_enter Tryz.func95, Tryz.ntmps95
  go_wp2
  go_ret
  exact ⟨by simp, by simp⟩
theorem sortsIn (m : Nat) : AnyZI.SortsIn Tryz.prog Tryz.sortedI_ren Fence.wide m :=
  ⟨fun blk off cap ss W hH hblk hsz => callsIn_wide.2 (Tryz.slices_Sort_int blk off cap ss W hH hblk hsz), fun p cap W => callsIn_wide.2 (Tryz.slices_Sort_int_none p cap W)⟩
set_option maxHeartbeats 1000000 in
theorem sortedTrav (gb bp bg : Nat) (a : Int) (cs : List (List Int)) (w : World) (h : Gr w gb cs) (ha : 0 ≤ a ∧ a < cs.length) (hbp : w.cell? ⟨bp, 0, none⟩ = some (.int .i64 a)) (hbg : w.cell? ⟨bg, 0, none⟩ = some (.pointer (some ⟨gb, 0, none⟩))) :
    Calls Tryz.prog 94 #[.func (.func 125) #[] #[.pointer (some ⟨bp, 0, none⟩), .pointer (some ⟨bg, 0, none⟩)]] w (RetIs (reachL (cOf' cs) cs.length a) w) := by
  obtain ⟨⟨ca, cc, h1, h2, h3⟩, hG, hn⟩ := h
  have hseq := trav_own 2 (by omega) bp bg gb a cs ca cc w hbp hbg h1 h2 hG ha hn
  have cS : Calls Tryz.prog 94 #[.func (.func 125) #[] #[.pointer (some ⟨bp, 0, none⟩), .pointer (some ⟨bg, 0, none⟩)]] w _ :=
    callsIn_wide.1 (sorted2 Tryz.sortedI Fence.wide 5 trivial trivial trivial trivial rfl (by omega) (sortsIn _) (enters_of Tryz.func92 (by kernel_rfl) rfl) 125 #[.pointer (some ⟨bp, 0, none⟩), .pointer (some ⟨bg, 0, none⟩)] trivial (enters_of Tryz.func125 (by kernel_rfl) rfl)
      _ cs.length (by unfold maxLen; omega) (by omega) (fun ss hS => srt_len cs.length ss hS.1 (fun x hx => rch_bd hG ha ((hS.2 x).1 hx))) w hseq)
  refine cS.mono ?_
  rintro e w' ⟨v, ss, rfl, hS, ho, hb⟩
  have e1 : ss.mergeSort (fun x y => decide (x ≤ y)) = reachL (cOf' cs) cs.length a := reach_of_dfs hG ha hS
  rw [e1] at ho
  have hl : ss.length = (reachL (cOf' cs) cs.length a).length := by rw [← e1]; simp
  rw [hl] at ho
  obtain ⟨A, c, rfl⟩ := owns_slice ho
  exact ⟨A, c, rfl, ho, hb⟩
set_option maxHeartbeats 1000000 in
theorem reached (gb : Nat) (a : Int) (cs : List (List Int)) (w : World) (h : Gr w gb cs) (ha : 0 ≤ a ∧ a < cs.length) :
    Calls Tryz.prog 52 #[.pointer (some ⟨gb, 0, none⟩), .int .i64 a] w (RetIs (reachL (cOf' cs) cs.length a) w) := by
  have HG := Lib.hid h; clear h
  go_enter Tryz.func52, Tryz.ntmps52
  go_wp2_with fail
  refine (traverse gb a _).mono ?_
  rintro e w1 ⟨rfl, rfl⟩
  have hg : Grew w ((w.alloc (.cells #[.pointer (some ⟨gb, 0, none⟩)] 65)).alloc (.cells #[.int .i64 a] 3)) := gr
  have C := Lib.hid (sortedTrav gb (w.heap.size + 1) w.heap.size a cs _ (HG.out.grew hg) ha (by simp [go_sem]) (by simp [go_sem]))
  have HB := Lib.hid hg; clear hg
  go_wp2_with fail
  refine C.out.mono ?_
  rintro e w2 ⟨A, c, rfl, ho, g2⟩
  have HO := Lib.hid (owns_mono ho (show w.heap.size ≤ _ from by simp; omega))
  have H2 := Lib.hid (grew_tr HB.out g2)
  clear ho g2
  go_wp2
  go_ret
  exact ⟨A, c, rfl, HO.out, H2.out⟩

set_option maxHeartbeats 2000000 in
theorem grPart (gb : Nat) (a : Int) (cs : List (List Int)) (w : World) (h : Gr w gb cs) (ha : 0 ≤ a ∧ a < cs.length) :
    Calls Tryz.prog 53 #[.pointer (some ⟨gb, 0, none⟩), .int .i64 a] w (RetIs (partL (cOf' cs) cs.length a) w) := by
  have hR := reachL_spec h.ok ha
  have hbd : ∀ x, x ∈ reachL (cOf' cs) cs.length a → 0 ≤ x ∧ x < cs.length := fun x hx => rch_bd h.ok ha ((hR.2 x).1 hx)
  have hlen := srt_len _ _ (srt_nodup hR.1) hbd
  have hsz := h.sz
  have HG := Lib.hid h; clear h hR
  have HB := Lib.hid hbd; clear hbd
  go_enter Tryz.func53, Tryz.ntmps53
  go_wp2_with fail
  refine (reached gb a cs w HG.out ha).mono ?_
  rintro e w1 ⟨A, c, rfl, o1, g1⟩
  have HO := Lib.hid o1; clear o1
  have HG1 := Lib.hid g1; clear g1
  obtain ⟨L, hL⟩ : ∃ L, reachL (cOf' cs) cs.length a = L := ⟨_, rfl⟩
  have HL := Lib.hid hL
  have HP : Hid (partL (cOf' cs) cs.length a = L.filter fun o => decide (a ∈ reachL (cOf' cs) cs.length o)) := Lib.hid (by rw [partL, hL])
  rw [hL] at HO HB hlen ⊢
  clear hL
  have R1 := Lib.hid (owns_rd HO.out)
  go_wp2
  go_loopw [5, 12] (fun v i wr => ∃ k : Nat, k ≤ L.length ∧ i = .int .i64 k ∧ Grew w1 wr ∧ wr.ownsRow w1.heap.size 3 1 v ((L.take k).filter fun o => decide (a ∈ reachL (cOf' cs) cs.length o)).length (ints .i64 ((L.take k).filter fun o => decide (a ∈ reachL (cOf' cs) cs.length o)))) (fun _ i _ => L.length - (Go.RowKit.intOf i).toNat)
  case atStart => exact ⟨0, Nat.zero_le _, rfl, Below.refl _ _, by simpa [ints] using World.ownsRow_nil _ _ _ _⟩
  case round =>
    obtain ⟨k, hk, rfl, hg, ho⟩ := hrel
    obtain ⟨oa, oc, rfl⟩ := owns_slice ho
    have hfl : ((L.take k).filter fun o => decide (a ∈ reachL (cOf' cs) cs.length o)).length ≤ 900 := Nat.le_trans (List.length_filter_le _ _) (Nat.le_trans (List.length_take_le _ _) (by omega))
    by_cases hlt : k < L.length
    · obtain ⟨b, off, x, rfl, hx, hcell⟩ := (R1.out.grew hg).at1 hlt
      have hxb := HB.out x (List.mem_of_getElem? hx)
      have HX := Lib.hid hx; clear hx
      have HO2 := Lib.hid ho; clear ho
      have HG2 := Lib.hid hg; clear hg
      go_wp2_with fail
      refine (reached gb x cs _ (HG.out.grew (grew_tr HG1.out HG2.out)) hxb).mono ?_
      rintro e w3 ⟨A3, c3, rfl, o3, g3⟩
      have R3 := Lib.hid (owns_rd o3)
      have hl3 : (reachL (cOf' cs) cs.length x).length ≤ 9223372036854775807 := by
        have := srt_len _ _ (srt_nodup (reachL_spec HG.out.ok hxb).1) (fun y hy => rch_bd HG.out.ok hxb (((reachL_spec HG.out.ok hxb).2 y).1 hy))
        omega
      have C := fun (_ : Nat) => containsInt A3 _ c3 (reachL (cOf' cs) cs.length x) a w3 R3.out hl3
      have HO3 := Lib.hid (owns_grew HO2.out g3)
      have HG3 := Lib.hid (grew_tr HG2.out g3)
      have hft : Hid ((L.take (k + 1)).filter (fun o => decide (a ∈ reachL (cOf' cs) cs.length o)) = (L.take k).filter (fun o => decide (a ∈ reachL (cOf' cs) cs.length o)) ++ if a ∈ reachL (cOf' cs) cs.length x then [x] else []) := Lib.hid (by
        rw [take_get HX.out, List.filter_append]
        congr 1
        by_cases h : a ∈ reachL (cOf' cs) cs.length x <;> simp [h])
      clear o3 g3 hl3
      by_cases hin : a ∈ reachL (cOf' cs) cs.length x
      · rw [decide_eq_true hin] at C
        have HF := hft.out
        rw [if_pos hin] at HF
        have HF := Lib.hid HF
        have HC := Lib.hid C; clear C hft hin
        obtain ⟨v4, w4, hr4, o4, g4, hv4⟩ := owns_append_lit (P := Tryz.prog) w3 intEl HO3.out 1 [.int .i64 x] rfl (by simp [Value.oneCell']) (by omega) (by omega) HG3.out.size
        have R4 := Lib.hid hr4
        have HO4 := Lib.hid o4
        have HG4 := Lib.hid (show Grew w1 w4 from HG3.out.grown g4 HG3.out.size (fun j hj => (HO3.out.lt j hj).1))
        clear hr4 o4 g4 hv4
        go_wp2_with (first | ((with_reducible refine (HC.out 0).mono ?_); rintro e w' ⟨rfl, rfl⟩) | (at_builtin; refine wpList_append_run rfl _ _ rfl rfl rfl rfl R4.out ?_))
        go_roundw
        case rel => exact ⟨k + 1, by omega, by go_num, HG4.out, by rw [HF.out, ints_append, List.length_append]; exact HO4.out⟩
        case measure => simp [Go.RowKit.intOf]; omega
      · rw [decide_eq_false hin] at C
        have HF := hft.out
        rw [if_neg hin, List.append_nil] at HF
        have HF := Lib.hid HF
        have HC := Lib.hid C; clear C hft hin
        go_wp2_with ((with_reducible refine (HC.out 0).mono ?_); rintro e w' ⟨rfl, rfl⟩)
        go_roundw
        case rel => exact ⟨k + 1, by omega, by go_num, HG3.out, by rw [HF.out]; exact HO3.out⟩
        case measure => simp [Go.RowKit.intOf]; omega
    · obtain rfl : k = L.length := by omega
      rw [List.take_length] at ho
      have HO2 := Lib.hid (owns_mono ho HG1.out.size)
      have HG2 := Lib.hid (grew_tr HG1.out hg); clear ho hg hfl
      go_wp2
      go_ret
      rw [List.take_length, HP.out]
      exact ⟨oa, oc, rfl, HO2.out, HG2.out⟩
end Go.Proofs.YtdddhnepanjmfaaGreat

/- The program's call graph is read: what a procedure calls. No condition. -/
namespace Go.Proofs.YtdddhnepanjmfaaGreat
open Go.RowKit Go.Shelf Go.Maps
set_option linter.unusedVariables false
set_option linter.unusedSimpArgs false
attribute [local go_sem] ext_cell ext_frozen ext_lt ext_le ext_le1 lt_s2 lt_s3 lt_s4 lt_s5 lt_s6 ext_lt1 ext_lt2 ext_lt3

/-- Whom the steps call, in their order; each once, rising. -/
def callTo (is : List Ins) : List Int := (is.filter fun i => i.op == 10).map Ins.to
def callsL (is : List Ins) : List Int := scomp (callTo is)
theorem callTo_snoc (is : List Ins) (i : Ins) : callTo (is ++ [i]) = callTo is ++ if i.op = 10 then [i.to] else [] := by
  simp only [callTo, List.filter_append, List.map_append]
  congr 1
  by_cases h : i.op = 10 <;> simp [h]
theorem callTo_len (is : List Ins) : (callTo is).length ≤ is.length := by
  simp only [callTo, List.length_map]
  exact List.length_filter_le _ _

set_option maxHeartbeats 2000000 in
theorem callsOf (lo hi : Int) (a : Option Addr) (n cap : Nat) (is : List Ins) (w : World) (hr : RdL EIns 8 w a n is) (hn : n ≤ 1000) :
    Calls Tryz.prog 51 #[.agg #[.int .i64 lo, .int .i64 hi, .slice a n cap]] w (RetIs (callsL is) w) := by
  have HL := Lib.hid hr.len
  have HR := Lib.hid hr; clear hr
  go_enter Tryz.func51, Tryz.ntmps51
  go_wp2
  go_loopw [3, 9] (fun v i wr => ∃ k : Nat, k ≤ n ∧ i = .int .i64 k ∧ Grew w wr ∧ wr.ownsRow w.heap.size 3 1 v (callTo (is.take k)).length (ints .i64 (callTo (is.take k)))) (fun _ i _ => n - (Go.RowKit.intOf i).toNat)
  case atStart => exact ⟨0, Nat.zero_le _, rfl, gr, by simpa [ints, callTo] using World.ownsRow_nil _ _ _ _⟩
  case round =>
    obtain ⟨k, hk, rfl, hg, ho⟩ := hrel
    obtain ⟨oa, oc, rfl⟩ := owns_slice ho
    have hcl : (callTo (is.take k)).length ≤ 1000 := Nat.le_trans (callTo_len _) (Nat.le_trans (List.length_take_le _ _) (by omega))
    by_cases hlt : k < n
    · obtain ⟨b, off, op, d, ia, ib, rel, lo', hi', to, rfl, hx, c0, c1, c2, c3, c4, c5, c6, c7, hb⟩ := rdI_at (HR.out.grew stays_ins hg) hlt
      have HX := Lib.hid (show callTo (is.take (k + 1)) = _ from by rw [take_get hx, callTo_snoc]); clear hx
      have HG := Lib.hid hg
      have HO := Lib.hid ho
      by_cases hop : op = 10
      · subst hop
        have HT := HX.out
        dsimp only at HT
        rw [if_pos rfl] at HT
        have HT := Lib.hid HT
        obtain ⟨v4, w4, hr4, o4, g4, hv4⟩ := owns_append_lit (P := Tryz.prog) (wr.alloc (.cells #[.int .i64 10, .int .i64 d, .int .i64 ia, .int .i64 ib, .int .i64 rel, .int .i64 lo', .int .i64 hi', .int .i64 to] 103)) intEl (ho.alloc _) 1 [.int .i64 to] rfl (by simp [Value.oneCell']) (by omega) (by omega) (by have := hg.size; simp; omega)
        simp only [World.size_alloc] at hr4
        have R4 := Lib.hid hr4
        have HO4 := Lib.hid o4
        have HG4 := Lib.hid (show Grew w w4 from (hg.alloc hg.size _).grown g4 (by have := hg.size; simp; omega) (fun j hj => (ho.lt j hj).1))
        clear hr4 o4 g4 hv4 ho hg HX
        go_wp2_with (at_builtin; refine wpList_append_run rfl _ _ rfl rfl rfl rfl R4.out ?_)
        go_roundw
        case rel => exact ⟨k + 1, by omega, by go_num, HG4.out, by rw [HT.out, ints_append, List.length_append]; exact HO4.out⟩
        case measure => simp [Go.RowKit.intOf]; omega
      · have HT := HX.out
        dsimp only at HT
        rw [if_neg hop, List.append_nil] at HT
        have HT := Lib.hid HT
        have b1 : (op == 10) = false := by simp [hop]
        have HG4 := Lib.hid (show Grew w (wr.alloc (.cells #[.int .i64 op, .int .i64 d, .int .i64 ia, .int .i64 ib, .int .i64 rel, .int .i64 lo', .int .i64 hi', .int .i64 to] 103)) from hg.alloc hg.size _)
        have HO4 := Lib.hid (ho.alloc (.cells #[.int .i64 op, .int .i64 d, .int .i64 ia, .int .i64 ib, .int .i64 rel, .int .i64 lo', .int .i64 hi', .int .i64 to] 103))
        clear ho hg HX hop
        go_wp2
        go_roundw
        case rel => exact ⟨k + 1, by omega, by go_num, HG4.out, by rw [HT.out]; exact HO4.out⟩
        case measure => simp [Go.RowKit.intOf]; omega
    · have hfin : is.take k = is := List.take_of_length_le (by have := HL.out; omega)
      rw [hfin] at ho hcl
      have HF := Lib.hid hfin; clear hfin
      have HO := Lib.hid ho; clear ho
      have HG := Lib.hid hg; clear hg
      go_wp2_with fail
      rw [HF.out]
      refine (sortInts w.heap.size oa _ oc (callTo is) wr HO.out (by omega)).mono ?_
      rintro e w1 ⟨rfl, o1, g1⟩
      have BW := Lib.hid (Below.trans HG.out (g1.belowB HG.out.size (fun b hF => (HO.out.lt b hF).1)))
      have O1 := Lib.hid o1; clear o1 g1
      go_wp2_with fail
      refine (compactInts w.heap.size oa _ oc _ w1 O1.out (by omega)).mono ?_
      rintro e w2 ⟨m, hm, rfl, o2, g2⟩
      have e1 : Lib.compact ((callTo is).mergeSort fun x y => decide (x ≤ y)) = callsL is := rfl
      rw [e1] at hm o2
      subst hm
      have BW2 := Lib.hid (BW.out.trans (g2.belowB BW.out.size (fun b hF => (O1.out.lt b hF).1)))
      have O2 := Lib.hid o2; clear o2 g2 O1 BW
      go_wp2
      go_ret
      exact ⟨oa, oc, rfl, O2.out, BW2.out⟩
end Go.Proofs.YtdddhnepanjmfaaGreat

/- Rows of rows of numbers that the call owns; one more is put behind. No condition. -/
namespace Go.Proofs.YtdddhnepanjmfaaGreat
open Go.RowKit
set_option linter.unusedVariables false
set_option linter.unusedSimpArgs false

theorem llInfo : (Tryz.prog.info? 54).map (fun i => (i.zero, i.size, i.bytes)) = some (some (.slice none 0 0), 1, 24) := by kernel_rfl
theorem llEl : El Tryz.prog 51 54 (.slice none 0 0) 1 24 := El.mk' llInfo Tryz.underlying51 rfl (by omega)
/-- A row of rows: it, and each of its rows, are the call's own; no two rows share a block. -/
structure OwnLL (w : World) (B : Nat) (v : Value) (ms : List (List Int × Value)) : Prop where
  row : w.ownsRow B 54 1 v ms.length (ms.map (·.2))
  each : ∀ m, m ∈ ms → w.ownsRow B 3 1 m.2 m.1.length (ints .i64 m.1)
  apart : ms.Pairwise fun m m' => ∀ b, m.2.ownBlock = some b → m'.2.ownBlock ≠ some b
section
variable {w w' : World} {B B' : Nat} {v : Value} {ms : List (List Int × Value)}
theorem OwnLL.nil (w : World) (B : Nat) : OwnLL w B (.slice none 0 0) [] := ⟨World.ownsRow_nil _ _ _ _, fun m hm => (by cases hm), List.Pairwise.nil⟩
theorem OwnLL.chg {F : Nat → Prop} (h : OwnLL w B v ms) (c : Chg F w w') (hF : ∀ b, B ≤ b → b < w.heap.size → ¬ F b) : OwnLL w' B v ms :=
  ⟨owns_chg h.row c (fun b hb => hF b (h.row.lt b hb).1 (h.row.lt b hb).2), fun m hm => owns_chg (h.each m hm) c (fun b hb => hF b ((h.each m hm).lt b hb).1 ((h.each m hm).lt b hb).2), h.apart⟩
theorem OwnLL.grew (h : OwnLL w B v ms) (g : Grew w w') : OwnLL w' B v ms := h.chg (Chg.of_below (F := fun _ => False) g) (fun _ _ _ e => e)
theorem OwnLL.mono (h : OwnLL w B v ms) (hB : B' ≤ B) : OwnLL w B' v ms := ⟨owns_mono h.row hB, fun m hm => owns_mono (h.each m hm) hB, h.apart⟩
/-- A change of a block that is no row of it. -/
theorem OwnLL.one {g : Nat} {t : TypeId} {cs : Array Value} (h : OwnLL w B v ms) (hb : Blk w g t cs) (h1 : t ≠ 54) (h2 : t ≠ 3) (c : Chg (fun b => b = g) w w') : OwnLL w' B v ms :=
  ⟨owns_chg h.row c (fun b e1 e2 => blk_row_ne hb h.row h1 (by rw [e1, e2])), fun m hm => owns_chg (h.each m hm) c (fun b e1 e2 => blk_row_ne hb (h.each m hm) h2 (by rw [e1, e2])), h.apart⟩
theorem OwnLL.map_ {m n : Nat} {ks : List Int} (h : OwnLL w B v ms) (hm : SetB Tryz.prog mapK mapE w m ks) (c : Chg (fun b => b = m) w w') : OwnLL w' B v ms := by
  obtain ⟨n', D, ⟨es, clock, hb, _⟩, _⟩ := hm
  have key : ∀ {e : TypeId} {size n : Nat} {u : Value} {xs : List Value}, w.ownsRow B e size u n xs → ∀ b, u.ownBlock = some b → ¬ b = m := fun ho b e1 e2 => by
    subst e2
    rcases ho.2 with ⟨rfl, _⟩ | ⟨g, cap, cur, rfl, h1, h2, _⟩
    · cases e1
    · simp only [Value.ownBlock, Option.some.injEq] at e1
      subst e1
      rw [hb] at h2
      cases h2
  exact ⟨owns_chg h.row c (key h.row), fun u hu => owns_chg (h.each u hu) c (key (h.each u hu)), h.apart⟩
theorem OwnLL.rd {a : Option Addr} {n c : Nat} (h : OwnLL w B (.slice a n c) ms) (hn : ms.length = n) : RdLL w a n (ms.map (·.1)) := by
  subst hn
  have hr := owns_rd h.row
  refine ⟨by simp, ?_⟩
  rcases hr.2 with e | ⟨b, off, rfl, hc⟩
  · left
    have := congrArg List.length e
    simpa using this
  · refine .inr ⟨b, off, rfl, fun k l hl => ?_⟩
    rw [List.getElem?_map, Option.map_eq_some_iff] at hl
    obtain ⟨m, hm, rfl⟩ := hl
    have ho := h.each m (List.mem_of_getElem? hm)
    obtain ⟨la, lc, hv⟩ := owns_slice ho
    have hcap := owns_cap (by rw [← hv]; exact ho)
    rw [hv] at ho
    refine ⟨[m.2], rfl, fun j u hu => ?_, la, lc, by rw [hv], owns_rd ho, hcap.1, hcap.2⟩
    cases j with
    | zero =>
      simp only [List.getElem?_cons_zero, Option.some.injEq] at hu
      subst hu
      rw [Nat.mul_one, Nat.add_zero]
      exact hc k _ (by simp [hm])
    | succ j => simp at hu
/-- One more row, made since, is put behind. -/
theorem OwnLL.snoc {w0 w1 w2 : World} {v2 u : Value} {l : List Int} (h : OwnLL w0 B v ms) (g : Grew w0 w1) (hu : w1.ownsRow w0.heap.size 3 1 u l.length (ints .i64 l)) (hB : B ≤ w0.heap.size)
    (o2 : w2.ownsRow B 54 1 v2 (ms.length + 1) (ms.map (·.2) ++ [u])) (g2 : w1.grownBy w2 v.ownBlock) : OwnLL w2 B v2 (ms ++ [(l, u)]) := by
  have h1 := h.grew g
  have c2 := Chg.of_grownBy g2
  refine ⟨by rw [List.length_append, List.map_append]; exact o2, fun m hm => ?_, ?_⟩
  · rcases List.mem_append.1 hm with hm | hm
    · exact owns_chg (h1.each m hm) c2 (fun b e1 e2 => row_row_ne (h1.each m hm) h1.row (by decide) e1 e2)
    · obtain rfl : m = (l, u) := by simpa using hm
      exact owns_chg (owns_mono hu hB) c2 (fun b e1 e2 => row_row_ne hu h1.row (by decide) e1 e2)
  · refine List.pairwise_append.2 ⟨h.apart, by simp, fun m hm m' hm' b e1 e2 => ?_⟩
    obtain rfl : m' = (l, u) := by simpa using hm'
    have := ((h.each m hm).lt b e1).2
    have := (hu.lt b e2).1
    omega
/-- The same, where other blocks have changed since. -/
theorem OwnLL.snoc2 {w1 w2 : World} {s : Nat} {v2 u : Value} {l : List Int} (h0 : ∀ m, m ∈ ms → ∀ b, m.2.ownBlock = some b → b < s) (h1 : OwnLL w1 B v ms) (hu : w1.ownsRow s 3 1 u l.length (ints .i64 l)) (hB : B ≤ s)
    (o2 : w2.ownsRow B 54 1 v2 (ms.length + 1) (ms.map (·.2) ++ [u])) (g2 : w1.grownBy w2 v.ownBlock) : OwnLL w2 B v2 (ms ++ [(l, u)]) := by
  have c2 := Chg.of_grownBy g2
  refine ⟨by rw [List.length_append, List.map_append]; exact o2, fun m hm => ?_, ?_⟩
  · rcases List.mem_append.1 hm with hm | hm
    · exact owns_chg (h1.each m hm) c2 (fun b e1 e2 => row_row_ne (h1.each m hm) h1.row (by decide) e1 e2)
    · obtain rfl : m = (l, u) := by simpa using hm
      exact owns_chg (owns_mono hu hB) c2 (fun b e1 e2 => row_row_ne hu h1.row (by decide) e1 e2)
  · refine List.pairwise_append.2 ⟨h1.apart, by simp, fun m hm m' hm' b e1 e2 => ?_⟩
    obtain rfl : m' = (l, u) := by simpa using hm'
    have := h0 m hm b e1
    have := (hu.lt b e2).1
    omega
theorem map_ne_blk {m g : Nat} {ks : List Int} {t : TypeId} {cs : Array Value} (h : SetB Tryz.prog mapK mapE w m ks) (hb : Blk w g t cs) : g ≠ m := by
  obtain ⟨n', D, ⟨es, clock, he, _⟩, _⟩ := h
  rintro rfl
  have hb' : w.heap[g]? = _ := hb
  rw [he] at hb'
  cases hb'
end
end Go.Proofs.YtdddhnepanjmfaaGreat
