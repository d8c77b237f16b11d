/- Lemmas and walks of this proof, some texts one behind the other. No condition. -/
import Derived.Test.YtnjoofpllhbccaaGreatTrav
import Derived.Test.YtnjoofpllhbccaaGreatIntsG
import Derived.Sort.LoopGhostIn
import Derived.Test.YtnjoofpllhbccaaGreatPrgOkI
import Derived.Test.YtnjoofpllhbccaaGreatBlk
import Derived.Deep.RegionLaw
set_option linter.unusedSimpArgs false
set_option linter.unusedVariables false
/- The call graph, the program's side: what can be come to from a procedure, and its part. No condition. -/
namespace Go.Proofs.YtnjoofpllhbccaaGreat
open Go.RowKit Go.Shelf Go.Maps
set_option linter.unusedVariables false
set_option linter.unusedSimpArgs false
attribute [local go_sem] ext_cell ext_frozen ext_lt ext_le ext_le1 lt_s2 lt_s3 lt_s4 lt_s5 lt_s6 ext_lt1 ext_lt2 ext_lt3

/-- An index is found just if so. -/
def RetIx (b : Bool) (w : World) (e : Ending) (w' : World) : Prop := ∃ z : Int, e = .returned (.int .i64 z) ∧ decide (0 ≤ z) = b ∧ w = w'
theorem indexInt (a : Option Addr) (n cap : Nat) (zs : List Int) (x : Int) (w : World) (hr : Rd w a n 1 (ints .i64 zs)) (hn : n ≤ 9223372036854775807) :
    Calls Tryz.prog 68 #[.slice a n cap, .int .i64 x] w (RetIx (decide (x ∈ zs)) w) := by
  have HL := Lib.hid hr.len1
  have HR := Lib.hid hr; clear hr
  go_enter Tryz.func68, Tryz.ntmps68
  go_wp2
  go_loop [8] (fun i => ∃ k : Nat, k ≤ n ∧ i = .int .i64 k ∧ ¬ x ∈ zs.take k) (fun i => n - (Go.RowKit.intOf i).toNat)
  case atStart => exact ⟨0, Nat.zero_le _, rfl, by simp⟩
  case round =>
    obtain ⟨k, hk, rfl, hall⟩ := hrel
    have HA := Lib.hid hall; clear hall
    by_cases hlt : k < n
    · obtain ⟨b, off, z0, rfl, hx, c0⟩ := HR.out.at1 hlt
      have HX := Lib.hid hx; clear hx
      by_cases hq : x = z0
      · subst hq
        have b1 : (x == x) = true := by simp
        go_wp2
        go_ret
        refine ⟨k, rfl, ?_, rfl⟩
        rw [decide_eq_true (by omega), decide_eq_true (List.mem_of_getElem? HX.out)]
      · have b1 : (x == z0) = false := by simp [hq]
        have HQ := Lib.hid hq; clear hq
        go_wp2
        go_round
        case rel =>
          refine ⟨k + 1, by omega, by go_num, fun hz => ?_⟩
          rw [take_get HX.out] at hz
          rcases List.mem_append.1 hz with hz | hz
          · exact HA.out hz
          · exact HQ.out (List.mem_singleton.1 hz)
        case measure => simp [Go.RowKit.intOf]; omega
    · go_wp2
      go_ret
      refine ⟨-1, rfl, ?_, rfl⟩
      rw [decide_eq_false (by omega), decide_eq_false]
      have := HA.out
      rwa [List.take_of_length_le (by have := HL.out; omega)] at this
theorem containsInt (a : Option Addr) (n cap : Nat) (zs : List Int) (x : Int) (w : World) (hr : Rd w a n 1 (ints .i64 zs)) (hn : n ≤ 9223372036854775807) :
    Calls Tryz.prog 44 #[.slice a n cap, .int .i64 x] w fun e w' => e = .returned (.bool (decide (x ∈ zs))) ∧ w = w' := by
  have C := Lib.hid (indexInt a n cap zs x w hr hn)
  clear hr
  go_enter Tryz.func44, Tryz.ntmps44
  go_wp2_with fail
  refine C.out.mono ?_
  rintro e w1 ⟨z, rfl, hz, rfl⟩
  have HZ := Lib.hid hz; clear hz
  go_wp2
  go_ret
  exact ⟨by rw [← HZ.out]; rfl, rfl⟩

/-- A graph in memory: its calls. -/
structure Gr (w : World) (gb : Nat) (cs : List (List Int)) : Prop where
  c : ∃ ca cc, w.cell? ⟨gb, 1, none⟩ = some (.slice ca cs.length cc) ∧ RdLL w ca cs.length cs ∧ cs.length ≤ cc
  ok : Gok cs
  sz : cs.length ≤ 900
theorem Gr.grew {w w' : World} {gb : Nat} {cs : List (List Int)} (h : Gr w gb cs) (g : Grew w w') : Gr w' gb cs := by
  obtain ⟨⟨ca, cc, h1, h2, h3⟩, h4, h5⟩ := h
  exact ⟨⟨ca, cc, (g.cell (p := ⟨gb, 1, none⟩) (World.block_lt_of_cell? w _ h1)).trans h1, RdL.grew stays_ints h2 g, h3⟩, h4, h5⟩
theorem traverse (gb : Nat) (a : Int) (w : World) :
    Calls Tryz.prog 66 #[.pointer (some ⟨gb, 0, none⟩), .int .i64 a] w fun e w' => e = .returned (.func (.func 81) #[] #[.pointer (some ⟨w.heap.size + 1, 0, none⟩), .pointer (some ⟨w.heap.size, 0, none⟩)]) ∧
      w' = (w.alloc (.cells #[.pointer (some ⟨gb, 0, none⟩)] 44)).alloc (.cells #[.int .i64 a] 3) := by
  go_enter Tryz.func66, Tryz.ntmps66
  go_wp2
  go_ret
  exact ⟨by simp, by simp⟩
theorem sortsIn (m : Nat) : AnyZI.SortsIn Tryz.prog Tryz.sortedI_ren Fence.wide m :=
  ⟨fun blk off cap ss W hH hblk hsz => callsIn_wide.2 (Tryz.slices_Sort_int blk off cap ss W hH hblk hsz), fun p cap W => callsIn_wide.2 (Tryz.slices_Sort_int_none p cap W)⟩
set_option maxHeartbeats 1000000 in
theorem sortedTrav (gb bp bg : Nat) (a : Int) (cs : List (List Int)) (w : World) (h : Gr w gb cs) (ha : 0 ≤ a ∧ a < cs.length) (hbp : w.cell? ⟨bp, 0, none⟩ = some (.int .i64 a)) (hbg : w.cell? ⟨bg, 0, none⟩ = some (.pointer (some ⟨gb, 0, none⟩))) :
    Calls Tryz.prog 65 #[.func (.func 81) #[] #[.pointer (some ⟨bp, 0, none⟩), .pointer (some ⟨bg, 0, none⟩)]] w (RetIs (reachL (cOf' cs) cs.length a) w) := by
  obtain ⟨⟨ca, cc, h1, h2, h3⟩, hG, hn⟩ := h
  have hseq := trav_own 2 (by omega) bp bg gb a cs ca cc w hbp hbg h1 h2 hG ha hn
  have cS : Calls Tryz.prog 65 #[.func (.func 81) #[] #[.pointer (some ⟨bp, 0, none⟩), .pointer (some ⟨bg, 0, none⟩)]] w _ :=
    callsIn_wide.1 (sorted2 Tryz.sortedI Fence.wide 5 trivial trivial trivial trivial rfl (by omega) (sortsIn _) (enters_of Tryz.func63 (by kernel_rfl) rfl) 81 #[.pointer (some ⟨bp, 0, none⟩), .pointer (some ⟨bg, 0, none⟩)] trivial (enters_of Tryz.func81 (by kernel_rfl) rfl)
      _ cs.length (by unfold maxLen; omega) (by omega) (fun ss hS => srt_len cs.length ss hS.1 (fun x hx => rch_bd hG ha ((hS.2 x).1 hx))) w hseq)
  refine cS.mono ?_
  rintro e w' ⟨v, ss, rfl, hS, ho, hb⟩
  have e1 : ss.mergeSort (fun x y => decide (x ≤ y)) = reachL (cOf' cs) cs.length a := reach_of_dfs hG ha hS
  rw [e1] at ho
  have hl : ss.length = (reachL (cOf' cs) cs.length a).length := by rw [← e1]; simp
  rw [hl] at ho
  obtain ⟨A, c, rfl⟩ := owns_slice ho
  exact ⟨A, c, rfl, ho, hb⟩
set_option maxHeartbeats 1000000 in
theorem reached (gb : Nat) (a : Int) (cs : List (List Int)) (w : World) (h : Gr w gb cs) (ha : 0 ≤ a ∧ a < cs.length) :
    Calls Tryz.prog 40 #[.pointer (some ⟨gb, 0, none⟩), .int .i64 a] w (RetIs (reachL (cOf' cs) cs.length a) w) := by
  have HG := Lib.hid h; clear h
  go_enter Tryz.func40, Tryz.ntmps40
  go_wp2_with fail
  refine (traverse gb a _).mono ?_
  rintro e w1 ⟨rfl, rfl⟩
  have hg : Grew w ((w.alloc (.cells #[.pointer (some ⟨gb, 0, none⟩)] 44)).alloc (.cells #[.int .i64 a] 3)) := by repeat (first | with_reducible exact Below.refl _ _ | with_reducible assumption | with_reducible apply grew_ext | with_reducible apply grew_al | with_reducible apply grew_dn | with_reducible apply grew_d | (with_reducible refine grew_set ?_ (by first | omega | (repeat (first | with_reducible exact Nat.le_refl _ | with_reducible apply le_pl | with_reducible apply le_ext | with_reducible apply le_al))) _))
  have C := Lib.hid (sortedTrav gb (w.heap.size + 1) w.heap.size a cs _ (HG.out.grew hg) ha (by simp [go_sem]) (by simp [go_sem]))
  have HB := Lib.hid hg; clear hg
  go_wp2_with fail
  refine C.out.mono ?_
  rintro e w2 ⟨A, c, rfl, ho, g2⟩
  have HO := Lib.hid (owns_mono ho (show w.heap.size ≤ _ from by simp; omega))
  have H2 := Lib.hid (grew_tr HB.out g2)
  clear ho g2
  go_wp2
  go_ret
  exact ⟨A, c, rfl, HO.out, H2.out⟩

set_option maxHeartbeats 2000000 in
theorem grPart (gb : Nat) (a : Int) (cs : List (List Int)) (w : World) (h : Gr w gb cs) (ha : 0 ≤ a ∧ a < cs.length) :
    Calls Tryz.prog 41 #[.pointer (some ⟨gb, 0, none⟩), .int .i64 a] w (RetIs (partL (cOf' cs) cs.length a) w) := by
  have hR := reachL_spec h.ok ha
  have hbd : ∀ x, x ∈ reachL (cOf' cs) cs.length a → 0 ≤ x ∧ x < cs.length := fun x hx => rch_bd h.ok ha ((hR.2 x).1 hx)
  have hlen := srt_len _ _ (srt_nodup hR.1) hbd
  have hsz := h.sz
  have HG := Lib.hid h; clear h hR
  have HB := Lib.hid hbd; clear hbd
  go_enter Tryz.func41, Tryz.ntmps41
  go_wp2_with fail
  refine (reached gb a cs w HG.out ha).mono ?_
  rintro e w1 ⟨A, c, rfl, o1, g1⟩
  have HO := Lib.hid o1; clear o1
  have HG1 := Lib.hid g1; clear g1
  obtain ⟨L, hL⟩ : ∃ L, reachL (cOf' cs) cs.length a = L := ⟨_, rfl⟩
  have HL := Lib.hid hL
  have HP : Hid (partL (cOf' cs) cs.length a = L.filter fun o => decide (a ∈ reachL (cOf' cs) cs.length o)) := Lib.hid (by rw [partL, hL])
  rw [hL] at HO HB hlen ⊢
  clear hL
  have R1 := Lib.hid (owns_rd HO.out)
  go_wp2
  go_loopw [5, 12] (fun v i wr => ∃ k : Nat, k ≤ L.length ∧ i = .int .i64 k ∧ Grew w1 wr ∧ wr.ownsRow w1.heap.size 3 1 v ((L.take k).filter fun o => decide (a ∈ reachL (cOf' cs) cs.length o)).length (ints .i64 ((L.take k).filter fun o => decide (a ∈ reachL (cOf' cs) cs.length o)))) (fun _ i _ => L.length - (Go.RowKit.intOf i).toNat)
  case atStart => exact ⟨0, Nat.zero_le _, rfl, Below.refl _ _, by simpa [ints] using World.ownsRow_nil _ _ _ _⟩
  case round =>
    obtain ⟨k, hk, rfl, hg, ho⟩ := hrel
    obtain ⟨oa, oc, rfl⟩ := owns_slice ho
    have hfl : ((L.take k).filter fun o => decide (a ∈ reachL (cOf' cs) cs.length o)).length ≤ 900 := Nat.le_trans (List.length_filter_le _ _) (Nat.le_trans (List.length_take_le _ _) (by omega))
    by_cases hlt : k < L.length
    · obtain ⟨b, off, x, rfl, hx, hcell⟩ := (R1.out.grew hg).at1 hlt
      have hxb := HB.out x (List.mem_of_getElem? hx)
      have HX := Lib.hid hx; clear hx
      have HO2 := Lib.hid ho; clear ho
      have HG2 := Lib.hid hg; clear hg
      go_wp2_with fail
      refine (reached gb x cs _ (HG.out.grew (grew_tr HG1.out HG2.out)) hxb).mono ?_
      rintro e w3 ⟨A3, c3, rfl, o3, g3⟩
      have R3 := Lib.hid (owns_rd o3)
      have hl3 : (reachL (cOf' cs) cs.length x).length ≤ 9223372036854775807 := by
        have := srt_len _ _ (srt_nodup (reachL_spec HG.out.ok hxb).1) (fun y hy => rch_bd HG.out.ok hxb (((reachL_spec HG.out.ok hxb).2 y).1 hy))
        omega
      have C := fun (_ : Nat) => containsInt A3 _ c3 (reachL (cOf' cs) cs.length x) a w3 R3.out hl3
      have HO3 := Lib.hid (owns_grew HO2.out g3)
      have HG3 := Lib.hid (grew_tr HG2.out g3)
      have hft : Hid ((L.take (k + 1)).filter (fun o => decide (a ∈ reachL (cOf' cs) cs.length o)) = (L.take k).filter (fun o => decide (a ∈ reachL (cOf' cs) cs.length o)) ++ if a ∈ reachL (cOf' cs) cs.length x then [x] else []) := Lib.hid (by
        rw [take_get HX.out, List.filter_append]
        congr 1
        by_cases h : a ∈ reachL (cOf' cs) cs.length x <;> simp [h])
      clear o3 g3 hl3
      by_cases hin : a ∈ reachL (cOf' cs) cs.length x
      · rw [decide_eq_true hin] at C
        have HF := hft.out
        rw [if_pos hin] at HF
        have HF := Lib.hid HF
        have HC := Lib.hid C; clear C hft hin
        obtain ⟨v4, w4, hr4, o4, g4, hv4⟩ := owns_append_lit (P := Tryz.prog) w3 intEl HO3.out 1 [.int .i64 x] rfl (by simp [Value.oneCell']) (by omega) (by omega) HG3.out.size
        have R4 := Lib.hid hr4
        have HO4 := Lib.hid o4
        have HG4 := Lib.hid (show Grew w1 w4 from HG3.out.grown g4 HG3.out.size (fun j hj => (HO3.out.lt j hj).1))
        clear hr4 o4 g4 hv4
        go_wp2_with (first | ((with_reducible refine (HC.out 0).mono ?_); rintro e w' ⟨rfl, rfl⟩) | (at_builtin; refine wpList_append_run rfl _ _ rfl rfl rfl rfl R4.out ?_))
        go_roundw
        case rel => exact ⟨k + 1, by omega, by go_num, HG4.out, by rw [HF.out, ints_append, List.length_append]; exact HO4.out⟩
        case measure => simp [Go.RowKit.intOf]; omega
      · rw [decide_eq_false hin] at C
        have HF := hft.out
        rw [if_neg hin, List.append_nil] at HF
        have HF := Lib.hid HF
        have HC := Lib.hid C; clear C hft hin
        go_wp2_with ((with_reducible refine (HC.out 0).mono ?_); rintro e w' ⟨rfl, rfl⟩)
        go_roundw
        case rel => exact ⟨k + 1, by omega, by go_num, HG3.out, by rw [HF.out]; exact HO3.out⟩
        case measure => simp [Go.RowKit.intOf]; omega
    · obtain rfl : k = L.length := by omega
      rw [List.take_length] at ho
      have HO2 := Lib.hid (owns_mono ho HG1.out.size)
      have HG2 := Lib.hid (grew_tr HG1.out hg); clear ho hg hfl
      go_wp2
      go_ret
      rw [List.take_length, HP.out]
      exact ⟨oa, oc, rfl, HO2.out, HG2.out⟩
end Go.Proofs.YtnjoofpllhbccaaGreat

/- The program's call graph is read: what a procedure calls. No condition. -/
namespace Go.Proofs.YtnjoofpllhbccaaGreat
open Go.RowKit Go.Shelf Go.Maps
set_option linter.unusedVariables false
set_option linter.unusedSimpArgs false
attribute [local go_sem] ext_cell ext_frozen ext_lt ext_le ext_le1 lt_s2 lt_s3 lt_s4 lt_s5 lt_s6 ext_lt1 ext_lt2 ext_lt3

/-- Whom the steps call, in their order; each once, rising. -/
def callTo (is : List Ins) : List Int := (is.filter fun i => i.op == 10).map Ins.to
def callsL (is : List Ins) : List Int := scomp (callTo is)
theorem callTo_snoc (is : List Ins) (i : Ins) : callTo (is ++ [i]) = callTo is ++ if i.op = 10 then [i.to] else [] := by
  simp only [callTo, List.filter_append, List.map_append]
  congr 1
  by_cases h : i.op = 10 <;> simp [h]
theorem callTo_len (is : List Ins) : (callTo is).length ≤ is.length := by
  simp only [callTo, List.length_map]
  exact List.length_filter_le _ _

set_option maxHeartbeats 2000000 in
theorem callsOf (lo hi : Int) (a : Option Addr) (n cap : Nat) (is : List Ins) (w : World) (hr : RdL EIns 8 w a n is) (hn : n ≤ 1000) :
    Calls Tryz.prog 39 #[.agg #[.int .i64 lo, .int .i64 hi, .slice a n cap]] w (RetIs (callsL is) w) := by
  have HL := Lib.hid hr.len
  have HR := Lib.hid hr; clear hr
  go_enter Tryz.func39, Tryz.ntmps39
  go_wp2
  go_loopw [3, 9] (fun v i wr => ∃ k : Nat, k ≤ n ∧ i = .int .i64 k ∧ Grew w wr ∧ wr.ownsRow w.heap.size 3 1 v (callTo (is.take k)).length (ints .i64 (callTo (is.take k)))) (fun _ i _ => n - (Go.RowKit.intOf i).toNat)
  case atStart => exact ⟨0, Nat.zero_le _, rfl, by repeat (first | with_reducible exact Below.refl _ _ | with_reducible assumption | with_reducible apply grew_ext | with_reducible apply grew_al | with_reducible apply grew_dn | with_reducible apply grew_d | (with_reducible refine grew_set ?_ (by first | omega | (repeat (first | with_reducible exact Nat.le_refl _ | with_reducible apply le_pl | with_reducible apply le_ext | with_reducible apply le_al))) _)), by simpa [ints, callTo] using World.ownsRow_nil _ _ _ _⟩
  case round =>
    obtain ⟨k, hk, rfl, hg, ho⟩ := hrel
    obtain ⟨oa, oc, rfl⟩ := owns_slice ho
    have hcl : (callTo (is.take k)).length ≤ 1000 := Nat.le_trans (callTo_len _) (Nat.le_trans (List.length_take_le _ _) (by omega))
    by_cases hlt : k < n
    · obtain ⟨b, off, op, d, ia, ib, rel, lo', hi', to, rfl, hx, c0, c1, c2, c3, c4, c5, c6, c7, hb⟩ := rdI_at (HR.out.grew stays_ins hg) hlt
      have HX := Lib.hid (show callTo (is.take (k + 1)) = _ from by rw [take_get hx, callTo_snoc]); clear hx
      have HG := Lib.hid hg
      have HO := Lib.hid ho
      by_cases hop : op = 10
      · subst hop
        have HT := HX.out
        dsimp only at HT
        rw [if_pos rfl] at HT
        have HT := Lib.hid HT
        obtain ⟨v4, w4, hr4, o4, g4, hv4⟩ := owns_append_lit (P := Tryz.prog) (wr.alloc (.cells #[.int .i64 10, .int .i64 d, .int .i64 ia, .int .i64 ib, .int .i64 rel, .int .i64 lo', .int .i64 hi', .int .i64 to] 73)) intEl (ho.alloc _) 1 [.int .i64 to] rfl (by simp [Value.oneCell']) (by omega) (by omega) (by have := hg.size; simp; omega)
        simp only [World.size_alloc] at hr4
        have R4 := Lib.hid hr4
        have HO4 := Lib.hid o4
        have HG4 := Lib.hid (show Grew w w4 from (hg.alloc hg.size _).grown g4 (by have := hg.size; simp; omega) (fun j hj => (ho.lt j hj).1))
        clear hr4 o4 g4 hv4 ho hg HX
        go_wp2_with (at_builtin; refine wpList_append_run rfl _ _ rfl rfl rfl rfl R4.out ?_)
        go_roundw
        case rel => exact ⟨k + 1, by omega, by go_num, HG4.out, by rw [HT.out, ints_append, List.length_append]; exact HO4.out⟩
        case measure => simp [Go.RowKit.intOf]; omega
      · have HT := HX.out
        dsimp only at HT
        rw [if_neg hop, List.append_nil] at HT
        have HT := Lib.hid HT
        have b1 : (op == 10) = false := by simp [hop]
        have HG4 := Lib.hid (show Grew w (wr.alloc (.cells #[.int .i64 op, .int .i64 d, .int .i64 ia, .int .i64 ib, .int .i64 rel, .int .i64 lo', .int .i64 hi', .int .i64 to] 73)) from hg.alloc hg.size _)
        have HO4 := Lib.hid (ho.alloc (.cells #[.int .i64 op, .int .i64 d, .int .i64 ia, .int .i64 ib, .int .i64 rel, .int .i64 lo', .int .i64 hi', .int .i64 to] 73))
        clear ho hg HX hop
        go_wp2
        go_roundw
        case rel => exact ⟨k + 1, by omega, by go_num, HG4.out, by rw [HT.out]; exact HO4.out⟩
        case measure => simp [Go.RowKit.intOf]; omega
    · have hfin : is.take k = is := List.take_of_length_le (by have := HL.out; omega)
      rw [hfin] at ho hcl
      have HF := Lib.hid hfin; clear hfin
      have HO := Lib.hid ho; clear ho
      have HG := Lib.hid hg; clear hg
      go_wp2_with fail
      rw [HF.out]
      refine (sortInts w.heap.size oa _ oc (callTo is) wr HO.out (by omega)).mono ?_
      rintro e w1 ⟨rfl, o1, g1⟩
      have BW := Lib.hid (Below.trans HG.out (g1.belowB HG.out.size (fun b hF => (HO.out.lt b hF).1)))
      have O1 := Lib.hid o1; clear o1 g1
      go_wp2_with fail
      refine (compactInts w.heap.size oa _ oc _ w1 O1.out (by omega)).mono ?_
      rintro e w2 ⟨m, hm, rfl, o2, g2⟩
      have e1 : Lib.compact ((callTo is).mergeSort fun x y => decide (x ≤ y)) = callsL is := rfl
      rw [e1] at hm o2
      subst hm
      have BW2 := Lib.hid (BW.out.trans (g2.belowB BW.out.size (fun b hF => (O1.out.lt b hF).1)))
      have O2 := Lib.hid o2; clear o2 g2 O1 BW
      go_wp2
      go_ret
      exact ⟨oa, oc, rfl, O2.out, BW2.out⟩
end Go.Proofs.YtnjoofpllhbccaaGreat

/- Rows of rows of numbers that the call owns; one more is put behind. No condition. -/
namespace Go.Proofs.YtnjoofpllhbccaaGreat
open Go.RowKit
set_option linter.unusedVariables false
set_option linter.unusedSimpArgs false

theorem llInfo : (Tryz.prog.info? 28).map (fun i => (i.zero, i.size, i.bytes)) = some (some (.slice none 0 0), 1, 24) := by kernel_rfl
theorem llEl : El Tryz.prog 30 28 (.slice none 0 0) 1 24 := El.mk' llInfo Tryz.underlying30 rfl (by omega)
/-- A row of rows: it, and each of its rows, are the call's own; no two rows share a block. -/
structure OwnLL (w : World) (B : Nat) (v : Value) (ms : List (List Int × Value)) : Prop where
  row : w.ownsRow B 28 1 v ms.length (ms.map (·.2))
  each : ∀ m, m ∈ ms → w.ownsRow B 3 1 m.2 m.1.length (ints .i64 m.1)
  apart : ms.Pairwise fun m m' => ∀ b, m.2.ownBlock = some b → m'.2.ownBlock ≠ some b
section
variable {w w' : World} {B B' : Nat} {v : Value} {ms : List (List Int × Value)}
theorem OwnLL.nil (w : World) (B : Nat) : OwnLL w B (.slice none 0 0) [] := ⟨World.ownsRow_nil _ _ _ _, fun m hm => (by cases hm), List.Pairwise.nil⟩
theorem OwnLL.chg {F : Nat → Prop} (h : OwnLL w B v ms) (c : Chg F w w') (hF : ∀ b, B ≤ b → b < w.heap.size → ¬ F b) : OwnLL w' B v ms :=
  ⟨owns_chg h.row c (fun b hb => hF b (h.row.lt b hb).1 (h.row.lt b hb).2), fun m hm => owns_chg (h.each m hm) c (fun b hb => hF b ((h.each m hm).lt b hb).1 ((h.each m hm).lt b hb).2), h.apart⟩
theorem OwnLL.grew (h : OwnLL w B v ms) (g : Grew w w') : OwnLL w' B v ms := h.chg (Chg.of_below (F := fun _ => False) g) (fun _ _ _ e => e)
theorem OwnLL.mono (h : OwnLL w B v ms) (hB : B' ≤ B) : OwnLL w B' v ms := ⟨owns_mono h.row hB, fun m hm => owns_mono (h.each m hm) hB, h.apart⟩
/-- A change of a block that is no row of it. -/
theorem OwnLL.one {g : Nat} {t : TypeId} {cs : Array Value} (h : OwnLL w B v ms) (hb : Blk w g t cs) (h1 : t ≠ 28) (h2 : t ≠ 3) (c : Chg (fun b => b = g) w w') : OwnLL w' B v ms :=
  ⟨owns_chg h.row c (fun b e1 e2 => blk_row_ne hb h.row h1 (by rw [e1, e2])), fun m hm => owns_chg (h.each m hm) c (fun b e1 e2 => blk_row_ne hb (h.each m hm) h2 (by rw [e1, e2])), h.apart⟩
theorem OwnLL.map_ {m n : Nat} {ks : List Int} (h : OwnLL w B v ms) (hm : SetB Tryz.prog mapK mapE w m ks) (c : Chg (fun b => b = m) w w') : OwnLL w' B v ms := by
  obtain ⟨n', D, ⟨es, clock, hb, _⟩, _⟩ := hm
  have key : ∀ {e : TypeId} {size n : Nat} {u : Value} {xs : List Value}, w.ownsRow B e size u n xs → ∀ b, u.ownBlock = some b → ¬ b = m := fun ho b e1 e2 => by
    subst e2
    rcases ho.2 with ⟨rfl, _⟩ | ⟨g, cap, cur, rfl, h1, h2, _⟩
    · cases e1
    · simp only [Value.ownBlock, Option.some.injEq] at e1
      subst e1
      rw [hb] at h2
      cases h2
  exact ⟨owns_chg h.row c (key h.row), fun u hu => owns_chg (h.each u hu) c (key (h.each u hu)), h.apart⟩
theorem OwnLL.rd {a : Option Addr} {n c : Nat} (h : OwnLL w B (.slice a n c) ms) (hn : ms.length = n) : RdLL w a n (ms.map (·.1)) := by
  subst hn
  have hr := owns_rd h.row
  refine ⟨by simp, ?_⟩
  rcases hr.2 with e | ⟨b, off, rfl, hc⟩
  · left
    have := congrArg List.length e
    simpa using this
  · refine .inr ⟨b, off, rfl, fun k l hl => ?_⟩
    rw [List.getElem?_map, Option.map_eq_some_iff] at hl
    obtain ⟨m, hm, rfl⟩ := hl
    have ho := h.each m (List.mem_of_getElem? hm)
    obtain ⟨la, lc, hv⟩ := owns_slice ho
    have hcap := owns_cap (by rw [← hv]; exact ho)
    rw [hv] at ho
    refine ⟨[m.2], rfl, fun j u hu => ?_, la, lc, by rw [hv], owns_rd ho, hcap.1, hcap.2⟩
    cases j with
    | zero =>
      simp only [List.getElem?_cons_zero, Option.some.injEq] at hu
      subst hu
      rw [Nat.mul_one, Nat.add_zero]
      exact hc k _ (by simp [hm])
    | succ j => simp at hu
/-- One more row, made since, is put behind. -/
theorem OwnLL.snoc {w0 w1 w2 : World} {v2 u : Value} {l : List Int} (h : OwnLL w0 B v ms) (g : Grew w0 w1) (hu : w1.ownsRow w0.heap.size 3 1 u l.length (ints .i64 l)) (hB : B ≤ w0.heap.size)
    (o2 : w2.ownsRow B 28 1 v2 (ms.length + 1) (ms.map (·.2) ++ [u])) (g2 : w1.grownBy w2 v.ownBlock) : OwnLL w2 B v2 (ms ++ [(l, u)]) := by
  have h1 := h.grew g
  have c2 := Chg.of_grownBy g2
  refine ⟨by rw [List.length_append, List.map_append]; exact o2, fun m hm => ?_, ?_⟩
  · rcases List.mem_append.1 hm with hm | hm
    · exact owns_chg (h1.each m hm) c2 (fun b e1 e2 => row_row_ne (h1.each m hm) h1.row (by decide) e1 e2)
    · obtain rfl : m = (l, u) := by simpa using hm
      exact owns_chg (owns_mono hu hB) c2 (fun b e1 e2 => row_row_ne hu h1.row (by decide) e1 e2)
  · refine List.pairwise_append.2 ⟨h.apart, by simp, fun m hm m' hm' b e1 e2 => ?_⟩
    obtain rfl : m' = (l, u) := by simpa using hm'
    have := ((h.each m hm).lt b e1).2
    have := (hu.lt b e2).1
    omega
/-- The same, where other blocks have changed since. -/
theorem OwnLL.snoc2 {w1 w2 : World} {s : Nat} {v2 u : Value} {l : List Int} (h0 : ∀ m, m ∈ ms → ∀ b, m.2.ownBlock = some b → b < s) (h1 : OwnLL w1 B v ms) (hu : w1.ownsRow s 3 1 u l.length (ints .i64 l)) (hB : B ≤ s)
    (o2 : w2.ownsRow B 28 1 v2 (ms.length + 1) (ms.map (·.2) ++ [u])) (g2 : w1.grownBy w2 v.ownBlock) : OwnLL w2 B v2 (ms ++ [(l, u)]) := by
  have c2 := Chg.of_grownBy g2
  refine ⟨by rw [List.length_append, List.map_append]; exact o2, fun m hm => ?_, ?_⟩
  · rcases List.mem_append.1 hm with hm | hm
    · exact owns_chg (h1.each m hm) c2 (fun b e1 e2 => row_row_ne (h1.each m hm) h1.row (by decide) e1 e2)
    · obtain rfl : m = (l, u) := by simpa using hm
      exact owns_chg (owns_mono hu hB) c2 (fun b e1 e2 => row_row_ne hu h1.row (by decide) e1 e2)
  · refine List.pairwise_append.2 ⟨h1.apart, by simp, fun m hm m' hm' b e1 e2 => ?_⟩
    obtain rfl : m' = (l, u) := by simpa using hm'
    have := h0 m hm b e1
    have := (hu.lt b e2).1
    omega
theorem map_ne_blk {m g : Nat} {ks : List Int} {t : TypeId} {cs : Array Value} (h : SetB Tryz.prog mapK mapE w m ks) (hb : Blk w g t cs) : g ≠ m := by
  obtain ⟨n', D, ⟨es, clock, he, _⟩, _⟩ := h
  rintro rfl
  have hb' : w.heap[g]? = _ := hb
  rw [he] at hb'
  cases hb'
end
end Go.Proofs.YtnjoofpllhbccaaGreat

/- The program's call graph is read: calls and parts of a program that is ok. No condition. -/
namespace Go.Proofs.YtnjoofpllhbccaaGreat
open Go.RowKit Go.Maps
set_option linter.unusedVariables false
set_option linter.unusedSimpArgs false
attribute [local go_sem] ext_cell ext_frozen ext_lt ext_le ext_le1 lt_s2 lt_s3 lt_s4 lt_s5 lt_s6 ext_lt1 ext_lt2 ext_lt3

theorem step_append_g {P : Program} {ops : Array Oper} {o : Oper} {a : Act} {K : Act → World → Prop} {Q : Exit → Act → World → Prop} {E : Prop} {w w' : World} {v y v' : Value} {t : TypeId} (hgd : o.guard = none) (s x : Operand)
    (ho : o.op = .call { callee := .builtin .append, args := #[s, x], argTypes := #[t, t] }) (hty : o.type = t) (hs : a.eval s = v) (hx : a.eval x = y)
    (hrun : (Builtin.append_ #[t, t] t #[v, y]).run P w = .ok v' w') (h : K (a.put o.dst v') w') :
    if Region.wanted o (yielded ops a.tmps) = true then Oper.wp P o a w K Q else E := by
  have hw : Region.wanted o (yielded ops a.tmps) = true := by simp [Region.wanted, hgd]
  rw [if_pos hw]
  unfold Oper.wp execOp
  simp only [ho, hty, resolve, invoke, builtin, Sem.run_bind, Sem.run_pure, Result.andThen_ok, List.map_toArray, List.map_cons, List.map_nil, hs, hx, hrun]
  exact h
theorem step_call_g {P : Program} {ops : Array Oper} {o : Oper} {a : Act} {K : Act → World → Prop} {Q : Exit → Act → World → Prop} {E : Prop} {w : World} {f : FuncId} {args : Array Value} (hgd : o.guard = none)
    (h : (execOp a.eval o).run P w = .ok (.enter f args) w) (hC : Calls P f args w fun e w' => ∃ v, e = .returned v ∧ K (a.put o.dst v) w') :
    if Region.wanted o (yielded ops a.tmps) = true then Oper.wp P o a w K Q else E := by
  have hw : Region.wanted o (yielded ops a.tmps) = true := by simp [Region.wanted, hgd]
  rw [if_pos hw]
  unfold Oper.wp
  rw [h]
  refine Calls.mono hC ?_
  rintro e w' ⟨v, rfl, hK⟩
  exact hK
theorem chg_cell (w : World) (g o : Nat) (u : Value) : Chg (fun b => b = g) w (w.setCell ⟨g, o, none⟩ u) :=
  ⟨rfl, rfl, rfl, by simp, fun k hk hn => Below.heap_setCell w ⟨g, o, none⟩ u k hn⟩

/-- The calls of a program's procedures. -/
def csOf (ps : List Prc) : List (List Int) := ps.map fun p => callsL p.code
abbrev ptOf (ps : List Prc) : List (List Int) := partsL (cOf' (csOf ps)) ps.length
theorem csOf_len (ps : List Prc) : (csOf ps).length = ps.length := by simp [csOf]
theorem prg_len {ps : List Prc} (h : prgOkB ps = true) : 1 ≤ ps.length ∧ ps.length ≤ 4 := by
  simp only [prgOkB, Bool.and_eq_true, decide_eq_true_eq] at h
  exact h.1
theorem prg_code {ps : List Prc} (h : prgOkB ps = true) {p : Prc} (hp : p ∈ ps) : 1 ≤ p.code.length ∧ p.code.length ≤ 10 ∧ ∀ i, i ∈ p.code → insOkB i ps.length p.code.length = true := by
  simp only [prgOkB, Bool.and_eq_true, decide_eq_true_eq, List.all_eq_true] at h
  have := h.2 p hp
  simp only [prcOkB, Bool.and_eq_true, decide_eq_true_eq, List.all_eq_true] at this
  exact ⟨this.1.1.2.1, this.1.1.2.2, this.1.2⟩
theorem ins_to {i : Ins} {procs size : Int} (h : insOkB i procs size = true) (ho : i.op = 10) : 0 ≤ i.to ∧ i.to < procs := by
  simp only [insOkB, Bool.and_eq_true, tailB, ho] at h
  simpa using h.2
theorem gok_of {ps : List Prc} (h : prgOkB ps = true) : Gok (csOf ps) := by
  intro k x hx
  unfold cOf' at hx
  rw [List.getD_eq_getElem?_getD] at hx
  cases hk : (csOf ps)[k.toNat]? with
  | none => rw [hk] at hx; cases hx
  | some l =>
    rw [hk] at hx
    simp only [Option.getD_some] at hx
    rw [csOf, List.getElem?_map, Option.map_eq_some_iff] at hk
    obtain ⟨p, hp, rfl⟩ := hk
    rw [callsL, scomp_mem, callTo, List.mem_map] at hx
    obtain ⟨i, hi, rfl⟩ := hx
    obtain ⟨hi, ho⟩ := List.mem_filter.1 hi
    rw [csOf_len]
    exact ins_to ((prg_code h (List.mem_of_getElem? hp)).2.2 i hi) (by simpa using ho)
/-- A graph in memory of its own: its calls, its parts. -/
structure GrOwn (w : World) (B gb : Nat) (cs parts : List (List Int)) : Prop where
  ex : ∃ x cv pv cms pms, Blk w gb 49 #[x, cv, pv] ∧ OwnLL w B cv cms ∧ cms.map (·.1) = cs ∧ OwnLL w B pv pms ∧ pms.map (·.1) = parts
  lo : B ≤ gb
  ok : Gok cs
  sz : cs.length ≤ 900
theorem GrOwn.grew {w w' : World} {B gb : Nat} {cs parts : List (List Int)} (h : GrOwn w B gb cs parts) (g : Grew w w') : GrOwn w' B gb cs parts := by
  obtain ⟨⟨x, cv, pv, cms, pms, h1, h2, h3, h4, h5⟩, h6, h7, h8⟩ := h
  exact ⟨⟨x, cv, pv, cms, pms, h1.grew g, h2.grew g, h3, h4.grew g, h5⟩, h6, h7, h8⟩
theorem gr_of {w : World} {B gb : Nat} {x cv pv : Value} {cms : List (List Int × Value)} {cs : List (List Int)} (h1 : Blk w gb 49 #[x, cv, pv]) (h2 : OwnLL w B cv cms) (h3 : cms.map (·.1) = cs) (h7 : Gok cs) (h8 : cs.length ≤ 900) : Gr w gb cs := by
  obtain ⟨ca, cc, rfl⟩ := owns_slice h2.row
  have hl : cms.length = cs.length := by rw [← h3]; simp
  refine ⟨⟨ca, cc, ?_, ?_, ?_⟩, h7, h8⟩
  · rw [← hl]
    exact h1.cell 1
  · rw [← hl, ← h3]
    exact h2.rd rfl
  · rw [← hl]
    exact (owns_cap h2.row).1
theorem GrOwn.gr {w : World} {B gb : Nat} {cs parts : List (List Int)} (h : GrOwn w B gb cs parts) : Gr w gb cs := by
  obtain ⟨⟨x, cv, pv, cms, pms, h1, h2, h3, h4, h5⟩, h6, h7, h8⟩ := h
  exact gr_of h1 h2 h3 h7 h8

theorem readGraphNo (a : Option Addr) (n cap : Nat) (ps : List Prc) (w : World) (hr : RdP w a n ps) (hn : n ≤ 9223372036854775807) (hB : prgOkB ps = false) :
    Calls Tryz.prog 23 #[.agg #[.slice a n cap]] w fun e w' => e = .returned (.tuple #[.pointer none, .bool false]) ∧ Grew w w' := by
  have C := fun W (g : Grew w W) => implPrgOk a n cap ps W (hr.grew g) hn
  rw [hB] at C
  have HC := Lib.hid C; clear C hB hr
  go_enter Tryz.func23, Tryz.ntmps23
  go_wp2_with ((with_reducible refine (HC.out _ (by repeat (first | with_reducible exact Below.refl _ _ | with_reducible assumption | with_reducible apply grew_ext | with_reducible apply grew_al | with_reducible apply grew_dn | with_reducible apply grew_d | (with_reducible refine grew_set ?_ (by first | omega | (repeat (first | with_reducible exact Nat.le_refl _ | with_reducible apply le_pl | with_reducible apply le_ext | with_reducible apply le_al))) _)))).mono ?_); rintro e w' ⟨rfl, g'⟩; (first | obtain ⟨y, rfl⟩ := ext_cold g' | obtain ⟨y, rfl⟩ := ext_col g' | obtain ⟨y, rfl⟩ := ext_of g'); clear g')
  go_ret2
  exact ⟨rfl, by repeat (first | with_reducible exact Below.refl _ _ | with_reducible assumption | with_reducible apply grew_ext | with_reducible apply grew_al | with_reducible apply grew_dn | with_reducible apply grew_d | (with_reducible refine grew_set ?_ (by first | omega | (repeat (first | with_reducible exact Nat.le_refl _ | with_reducible apply le_pl | with_reducible apply le_ext | with_reducible apply le_al))) _))⟩

/-- While the calls are read. -/
structure RG1 (w : World) (gb : Nat) (x : Value) (ps : List Prc) (k : Nat) (wr : World) (cv : Value) (ms : List (List Int × Value)) : Prop where
  b : Blk wr gb 49 #[x, cv, .slice none 0 0]
  o : OwnLL wr w.heap.size cv ms
  m : ms.map (·.1) = csOf (ps.take k)
  g : Grew w wr
theorem RG1.len {w : World} {gb : Nat} {x : Value} {ps : List Prc} {k : Nat} {wr : World} {cv : Value} {ms : List (List Int × Value)} (h : RG1 w gb x ps k wr cv ms) : ms.length ≤ k := by
  have := congrArg List.length h.m
  simp [csOf] at this
  omega
theorem RG1.next {w : World} {gb : Nat} {x : Value} {ps : List Prc} {k : Nat} {wr w5 w6 : World} {cv v6 : Value} {ms : List (List Int × Value)} {p : Prc} {u : Value} (h : RG1 w gb x ps k wr cv ms) (hp : ps[k]? = some p) (hgb : w.heap.size ≤ gb)
    (g5 : Grew wr w5) (o5 : w5.ownsRow wr.heap.size 3 1 u (callsL p.code).length (ints .i64 (callsL p.code))) (o6 : w6.ownsRow w.heap.size 28 1 v6 (ms.length + 1) (ms.map (·.2) ++ [u])) (g6 : w5.grownBy w6 cv.ownBlock) :
    Blk w6 gb 49 #[x, cv, .slice none 0 0] ∧ RG1 w gb x ps (k + 1) (w6.setCell ⟨gb, 1, none⟩ v6) v6 (ms ++ [(callsL p.code, u)]) := by
  have b5 := h.b.grew g5
  have ol5 := h.o.grew g5
  have c6 := Chg.of_grownBy g6
  have b6 : Blk w6 gb 49 #[x, cv, .slice none 0 0] := b5.chg c6 (fun e => blk_row_ne b5 ol5.row (by decide) e)
  have hO6 := OwnLL.snoc h.o g5 o5 h.g.size o6 g6
  refine ⟨b6, b6.set_ 1 _, hO6.one b6 (by decide) (by decide) (chg_cell _ _ _ _), ?_, ?_⟩
  · rw [List.map_append, h.m, take_get hp]
    simp [csOf]
  · exact (((grew_tr h.g g5).grown g6 (grew_tr h.g g5).size (fun j hj => (ol5.row.lt j hj).1)) : Grew w w6).setCell (p := ⟨gb, 1, none⟩) hgb _

/-- While the parts are found. -/
structure RG2 (w : World) (gb : Nat) (x cv : Value) (cms : List (List Int × Value)) (ps : List Prc) (mb : Nat) (L : List Int) (lv : Value) (j : Nat) (wr : World) (pv : Value) (pms : List (List Int × Value)) (sn : List Int) : Prop where
  b : Blk wr gb 49 #[x, cv, pv]
  oc : OwnLL wr w.heap.size cv cms
  op : OwnLL wr w.heap.size pv pms
  mp : pms.map (·.1) = partsP (cOf' (csOf ps)) (csOf ps).length (L.take j)
  s : SetB Tryz.prog mapK mapE wr mb sn
  sm : ∀ y, y ∈ sn ↔ ∃ q, q ∈ partsP (cOf' (csOf ps)) (csOf ps).length (L.take j) ∧ y ∈ q
  sl : sn.length ≤ 1000 * j
  g : Grew w wr
  ro : wr.ownsRow w.heap.size 3 1 lv L.length (ints .i64 L)
  ne : ∀ b, cv.ownBlock = some b → pv.ownBlock ≠ some b
section
variable {w : World} {gb : Nat} {x cv : Value} {cms : List (List Int × Value)} {ps : List Prc} {mb : Nat} {L : List Int} {lv : Value} {j : Nat} {wr : World} {pv : Value} {pms : List (List Int × Value)} {sn : List Int} {y : Int}
theorem RG2.len (h : RG2 w gb x cv cms ps mb L lv j wr pv pms sn) : pms.length ≤ j := by
  have := congrArg List.length h.mp
  simp only [List.length_map, partsP] at this
  have h2 := List.length_filter_le (firstB (cOf' (csOf ps)) (csOf ps).length) (L.take j)
  have h3 := List.length_take_le j L
  omega
theorem RG2.seen (h : RG2 w gb x cv cms ps mb L lv j wr pv pms sn) (hy : L[j]? = some y) (hf : firstB (cOf' (csOf ps)) (csOf ps).length y = false) : RG2 w gb x cv cms ps mb L lv (j + 1) wr pv pms sn := by
  have e : partsP (cOf' (csOf ps)) (csOf ps).length (L.take (j + 1)) = partsP (cOf' (csOf ps)) (csOf ps).length (L.take j) := by
    rw [take_get hy, partsP_snoc, hf]
    simp
  exact ⟨h.b, h.oc, h.op, by rw [e]; exact h.mp, h.s, by rw [e]; exact h.sm, Nat.le_trans h.sl (by omega), h.g, h.ro, h.ne⟩
theorem RG2.step {w4 wv w6 : World} {u v6 : Value} {sn' : List Int} (h : RG2 w gb x cv cms ps mb L lv j wr pv pms sn) (hgb : w.heap.size ≤ gb) (hmb : w.heap.size ≤ mb) (hy : L[j]? = some y) (hf : firstB (cOf' (csOf ps)) (csOf ps).length y = true)
    (g4 : Grew wr w4) (o4 : w4.ownsRow wr.heap.size 3 1 u (partL (cOf' (csOf ps)) (csOf ps).length y).length (ints .i64 (partL (cOf' (csOf ps)) (csOf ps).length y)))
    (cm : Chg (fun b => b = mb) w4 wv) (sv : SetB Tryz.prog mapK mapE wv mb sn') (hs : ∀ z, z ∈ sn' ↔ z ∈ sn ∨ z ∈ partL (cOf' (csOf ps)) (csOf ps).length y) (hsl : sn'.length ≤ sn.length + 1000)
    (o6 : w6.ownsRow w.heap.size 28 1 v6 (pms.length + 1) (pms.map (·.2) ++ [u])) (g6 : wv.grownBy w6 pv.ownBlock) (hv6 : v6.ownBlock = pv.ownBlock ∨ v6.ownBlock = some (wv.heap.size + 1)) :
    Blk w6 gb 49 #[x, cv, pv] ∧ RG2 w gb x cv cms ps mb L lv (j + 1) (w6.setCell ⟨gb, 2, none⟩ v6) v6 (pms ++ [(partL (cOf' (csOf ps)) (csOf ps).length y, u)]) sn' := by
  have s4 := h.s.grew g4
  have b4 := h.b.grew g4
  have bv := b4.chg cm (map_ne_blk s4 b4)
  have ocv := (h.oc.grew g4).map_ (n := 0) s4 cm
  have opv := (h.op.grew g4).map_ (n := 0) s4 cm
  have hro4 := owns_grew h.ro g4
  have rov := owns_chg hro4 cm (fun b e1 e2 => map_ne_row s4 hro4 (by rw [e1, e2]))
  have uv := owns_chg o4 cm (fun b e1 e2 => map_ne_row s4 o4 (by rw [e1, e2]))
  have gv : Grew w wv := (grew_tr h.g g4).trans ⟨cm.os, cm.tape, cm.output, cm.size, fun k hk => cm.block k (Nat.lt_of_lt_of_le hk (grew_tr h.g g4).size) (by omega)⟩
  have c6 := Chg.of_grownBy g6
  have b6 : Blk w6 gb 49 #[x, cv, pv] := bv.chg c6 (fun e => blk_row_ne bv opv.row (by decide) e)
  have oc6 : OwnLL w6 w.heap.size cv cms := ⟨owns_chg ocv.row c6 (fun b e1 e2 => h.ne b e1 e2), fun m hm => owns_chg (ocv.each m hm) c6 (fun b e1 e2 => row_row_ne (ocv.each m hm) opv.row (by decide) e1 e2), ocv.apart⟩
  have op6 : OwnLL w6 w.heap.size v6 (pms ++ [(partL (cOf' (csOf ps)) (csOf ps).length y, u)]) := OwnLL.snoc2 (fun m hm b e => ((h.op.each m hm).lt b e).2) opv uv h.g.size o6 g6
  have s6 : SetB Tryz.prog mapK mapE w6 mb sn' := sv.chg c6 (fun e => by
    obtain ⟨n', D, ⟨es, clock, he, _⟩, _⟩ := sv
    rcases opv.row.2 with ⟨e1, _⟩ | ⟨g, cap, cur, e1, h1, h2, _⟩
    · rw [e1] at e; cases e
    · rw [e1] at e
      simp only [Value.ownBlock, Option.some.injEq] at e
      subst e
      rw [he] at h2
      cases h2)
  have ro6 := owns_chg rov c6 (fun b e1 e2 => row_row_ne rov opv.row (by decide) e1 e2)
  have cs := chg_cell w6 gb 2 v6
  have e : partsP (cOf' (csOf ps)) (csOf ps).length (L.take (j + 1)) = partsP (cOf' (csOf ps)) (csOf ps).length (L.take j) ++ [partL (cOf' (csOf ps)) (csOf ps).length y] := by
    rw [take_get hy, partsP_snoc, hf]
    rfl
  refine ⟨b6, b6.set_ 2 _, oc6.one b6 (by decide) (by decide) cs, op6.one b6 (by decide) (by decide) cs, by rw [List.map_append, h.mp, e]; rfl, s6.chg cs (fun e => map_ne_blk s6 b6 e.symm), fun z => ?_, by have := h.sl; omega, ?_, owns_chg ro6 cs (fun b e1 e2 => blk_row_ne b6 ro6 (by decide) (by rw [e1, e2])), fun b e1 e2 => ?_⟩
  · rw [hs, h.sm, e]
    simp only [List.mem_append, List.mem_singleton]
    constructor
    · rintro (⟨q, hq, hz⟩ | hz)
      · exact ⟨q, .inl hq, hz⟩
      · exact ⟨_, .inr rfl, hz⟩
    · rintro ⟨q, hq | rfl, hz⟩
      · exact .inl ⟨q, hq, hz⟩
      · exact .inr hz
  · exact ((gv.grown g6 gv.size (fun k hk => (opv.row.lt k hk).1)) : Grew w w6).setCell (p := ⟨gb, 2, none⟩) hgb _
  · rcases hv6 with hv | hv
    · exact h.ne b e1 (by rw [← hv]; exact e2)
    · rw [hv, Option.some.injEq] at e2
      have := (ocv.row.lt b e1).2
      omega
end

set_option maxRecDepth 100000 in
set_option maxHeartbeats 4000000 in
theorem readGraphYes (a : Option Addr) (n cap : Nat) (ps : List Prc) (w : World) (hr : RdP w a n ps) (hn : n ≤ 9223372036854775807) (hB : prgOkB ps = true) :
    Calls Tryz.prog 23 #[.agg #[.slice a n cap]] w fun e w' => ∃ gb, e = .returned (.tuple #[.pointer (some ⟨gb, 0, none⟩), .bool true]) ∧ GrOwn w' w.heap.size gb (csOf ps) (ptOf ps) ∧ Grew w w' := by
  have C := fun W (g : Grew w W) => implPrgOk a n cap ps W (hr.grew g) hn
  rw [hB] at C
  have HC := Lib.hid C; clear C
  have hl := hr.len
  have hn4 := prg_len hB
  rw [hl] at hn4
  have HB := Lib.hid hB; clear hB
  have HL := Lib.hid hl; clear hl
  have HR := Lib.hid hr; clear hr
  go_enter Tryz.func23, Tryz.ntmps23
  go_wp2_with fail
  refine (HC.out _ (by repeat (first | with_reducible exact Below.refl _ _ | with_reducible assumption | with_reducible apply grew_ext | with_reducible apply grew_al | with_reducible apply grew_dn | with_reducible apply grew_d | (with_reducible refine grew_set ?_ (by first | omega | (repeat (first | with_reducible exact Nat.le_refl _ | with_reducible apply le_pl | with_reducible apply le_ext | with_reducible apply le_al))) _)))).mono ?_
  rintro e w1 ⟨rfl, g1⟩
  have hb1 : w1.cell? ⟨w.heap.size, 0, none⟩ = some (.slice a n cap) := (g1.cell (p := ⟨w.heap.size, 0, none⟩) (by simp)).trans (by simp [go_sem])
  have hG1 : Grew w w1 := grew_tr (grew_al (Below.refl _ _) _) g1
  have lb1 : w.heap.size < w1.heap.size := Nat.lt_of_lt_of_le (by simp) g1.size
  have H1 := Lib.hid (show RG1 w w1.heap.size (.slice a n cap) ps 0 (w1.alloc (.cells #[.slice a n cap, .slice none 0 0, .slice none 0 0] 49)) (.slice none 0 0) [] from ⟨Blk.new _ _ _, OwnLL.nil _ _, rfl, grew_al hG1 _⟩)
  clear g1 hG1
  obtain ⟨gb, hgb⟩ : ∃ gb, w1.heap.size = gb := ⟨_, rfl⟩
  have HGB := Lib.hid hgb
  have hgl : w.heap.size ≤ gb := by omega
  rw [hgb] at H1
  clear hgb
  go_wp2
  rw [HGB.out]
  clear hb1
  go_loopw [22] (fun i wr => ∃ (k : Nat) (cv : Value) (ms : List (List Int × Value)), k ≤ n ∧ i = .int .i64 k ∧ RG1 w gb (.slice a n cap) ps k wr cv ms) (fun i _ => n - (Go.RowKit.intOf i).toNat)
  case atStart => exact ⟨0, _, [], Nat.zero_le _, rfl, H1.out⟩
  case round =>
    clear H1
    obtain ⟨k, cv, ms, hk, rfl, h⟩ := hrel
    by_cases hlt : k < n
    · obtain ⟨b, off, lo, hi, is, ia, ic, rfl, hx, c0, c1, c2, hbl, hi1, hi2, hi3⟩ := rdP_at (HR.out.grew h.g) hlt
      obtain ⟨A, cp, rfl⟩ := owns_slice h.o.row
      have hml := h.len
      have hcell : wr.cell? ⟨gb, 1, none⟩ = some (.slice A ms.length cp) := h.b.cell 1
      have hglt := h.b.lt
      have hgne : ¬ gb = wr.heap.size := by omega
      have hfz := fun j => h.b.frozen j
      have hcode : is.length ≤ 1000 := by have := (prg_code HB.out (List.mem_of_getElem? hx)).2.1; simp only at this; omega
      have HI := Lib.hid hi1
      have HX := Lib.hid hx
      have HH := Lib.hid h
      clear hi1 hx h
      go_wp2_with fail
      have q0 : (wr.alloc (.cells #[.int .i64 lo, .int .i64 hi, .slice ia is.length ic] 63)).cell? ⟨gb, 1, none⟩ = some (.slice A ms.length cp) := by rw [World.cell?_alloc_old _ _ _ (show ¬ gb = wr.heap.size from hgne)]; exact hcell
      have q1 : (wr.alloc (.cells #[.int .i64 lo, .int .i64 hi, .slice ia is.length ic] 63)).cell? ⟨wr.heap.size, 0, none⟩ = some (.int .i64 lo) := by simp [go_sem]
      have q2 : (wr.alloc (.cells #[.int .i64 lo, .int .i64 hi, .slice ia is.length ic] 63)).cell? ⟨wr.heap.size, 1, none⟩ = some (.int .i64 hi) := by simp [go_sem]
      have q3 : (wr.alloc (.cells #[.int .i64 lo, .int .i64 hi, .slice ia is.length ic] 63)).cell? ⟨wr.heap.size, 2, none⟩ = some (.slice ia is.length ic) := by simp [go_sem]
      have lgb2 : gb < wr.heap.size + 1 := by omega
      clear c0 c1 c2 hfz
      go_region_law (first
        | (refine step_call_g rfl (f := 39) (args := #[.agg #[.int .i64 lo, .int .i64 hi, .slice ia is.length ic]]) (by kernel_rfl) ?_; refine Calls.mono (callsOf lo hi ia is.length ic is _ (HI.out.grew stays_ins (by repeat (first | with_reducible exact Below.refl _ _ | with_reducible assumption | with_reducible apply grew_ext | with_reducible apply grew_al | with_reducible apply grew_dn | with_reducible apply grew_d | (with_reducible refine grew_set ?_ (by first | omega | (repeat (first | with_reducible exact Nat.le_refl _ | with_reducible apply le_pl | with_reducible apply le_ext | with_reducible apply le_al))) _)))) hcode) ?_; rintro e w5 ⟨A5, c5, rfl, o5, g5⟩; refine ⟨_, rfl, ?_⟩
           have hg5 : Grew wr w5 := grew_tr (grew_d (grew_al (Below.refl _ _) _)) g5
           have ho5 := owns_mono o5 (show wr.heap.size ≤ _ from by simp)
           have ol5 := HH.out.o.grew hg5
           obtain ⟨v6, w6, hr6, o6, g6, -⟩ := owns_append_lit (P := Tryz.prog) w5 llEl ol5.row 1 [.slice A5 (callsL is).length c5] rfl (by simp [Value.oneCell']) (by omega) (by omega) (Nat.le_trans HH.out.g.size hg5.size)
           have R6 := Lib.hid hr6
           obtain ⟨b6, n6⟩ := HH.out.next HX.out hgl hg5 ho5 o6 g6
           have N6 := Lib.hid n6
           have t5 : w5.cell? ⟨gb, 1, none⟩ = some (.slice A ms.length cp) := (HH.out.b.grew hg5).cell 1
           have l5 := (HH.out.b.grew hg5).lt
           have n5 : ¬ gb = w5.heap.size := by omega
           have t6 : w6.cell? ⟨gb, 1, none⟩ = some (.slice A ms.length cp) := b6.cell 1
           have f6 := fun j => b6.frozen j
           have l6 := b6.lt
           obtain ⟨A6, c6, rfl⟩ := owns_slice o6
           clear hg5 ho5 ol5 hr6 o6 g6 b6 n6 o5 g5)
        | (refine step_append_g rfl _ _ rfl rfl rfl rfl R6.out ?_))
      all_goals
        go_wp2
        go_roundw
        case rel => exact ⟨k + 1, _, _, by omega, by go_num, N6.out⟩
        case measure => simp [Go.RowKit.intOf]; omega
    · obtain rfl : k = n := by omega
      have hcs : ms.map (·.1) = csOf ps := by rw [h.m, List.take_of_length_le (by have := HL.out; omega)]
      have hokk := gok_of HB.out
      have hsz : (csOf ps).length ≤ 900 := by rw [csOf_len, HL.out]; omega
      have hzl : (csOf ps).length = k := by rw [csOf_len, HL.out]
      obtain ⟨A, cp, rfl⟩ := owns_slice h.o.row
      have hgm : Grew wr (wr.alloc (.map #[] 0)) := grew_al (Below.refl _ _) _
      have HM0 := Lib.hid (SetB.made Tryz.prog mapK mapE wr)
      have HB2 := Lib.hid (h.b.grew hgm)
      have HO2 := Lib.hid (h.o.grew hgm)
      have HG2 := Lib.hid (grew_tr h.g hgm)
      have HGW := Lib.hid h.g
      have HGr := Lib.hid (gr_of (h.b.grew hgm) (h.o.grew hgm) hcs hokk hsz)
      have HZ := Lib.hid hzl
      have HCS := Lib.hid hcs
      have HOK := Lib.hid hokk
      obtain ⟨mb, hmb⟩ : ∃ mb, wr.heap.size = mb := ⟨_, rfl⟩
      have HMB := Lib.hid hmb
      rw [hmb] at HM0
      clear hmb h hcs hokk hzl hgm
      have hmm := @run_makeMap Tryz.prog
      go_wp2_with fail
      rw [HMB.out]
      refine (reached gb 0 (csOf ps) _ HGr.out (by rw [HZ.out]; omega)).mono ?_
      rintro e w3 ⟨A3, c3, rfl, o3, g3⟩
      have HM3 := Lib.hid (HM0.out.grew g3)
      have HB3 := Lib.hid (HB2.out.grew g3)
      have HO3 := Lib.hid (HO2.out.grew g3)
      have HG3 := Lib.hid (grew_tr HG2.out g3)
      obtain ⟨L, hL⟩ : ∃ L, reachL (cOf' (csOf ps)) (csOf ps).length 0 = L := ⟨_, rfl⟩
      rw [hL] at o3
      rw [hL]
      have HRO3 := Lib.hid (owns_mono o3 (Nat.le_trans hgl (Nat.le_of_lt (by have h1 := HB2.out.lt; exact h1))))
      have HL3 := Lib.hid hL
      have hL4 : L.length ≤ 4 := by
        have h1 := reachL_spec HOK.out (a := 0) (by rw [HZ.out]; omega)
        have := srt_len (csOf ps).length _ (srt_nodup h1.1) (fun x hx => rch_bd HOK.out (by rw [HZ.out]; omega) ((h1.2 x).1 hx))
        rw [hL, HZ.out] at this
        omega
      clear hL hmm HM0 HB2 HO2 HG2 HGr g3 o3
      have hmbl : w.heap.size ≤ mb := by rw [← HMB.out]; exact HGW.out.size
      have H2 := Lib.hid (show RG2 w gb (.slice a k cap) (.slice A ms.length cp) ms ps mb L (.slice A3 L.length c3) 0 w3 (.slice none 0 0) [] [] from ⟨HB3.out, HO3.out, OwnLL.nil _ _, by simp [partsP], HM3.out, fun y => by simp [partsP], by simp, HG3.out, HRO3.out, fun b _ e => by cases e⟩)
      clear HM3 HB3 HO3 HG3 HRO3
      have hL9 : L.length ≤ 9223372036854775807 := by omega
      go_wp2
      go_loopw [42] (fun i wr => ∃ (j : Nat) (pv : Value) (pms : List (List Int × Value)) (sn : List Int), j ≤ L.length ∧ i = .int .i64 j ∧ RG2 w gb (.slice a k cap) (.slice A ms.length cp) ms ps mb L (.slice A3 L.length c3) j wr pv pms sn) (fun i _ => L.length - (Go.RowKit.intOf i).toNat)
      case atStart => exact ⟨0, _, [], [], Nat.zero_le _, rfl, H2.out⟩
      case round =>
        clear H2
        obtain ⟨j, pv, pms, sn, hj, rfl, h⟩ := hrel
        by_cases hlt2 : j < L.length
        · obtain ⟨b, off, y, hA3, hy, hcell⟩ := (owns_rd h.ro).at1 hlt2
          subst hA3
          have hyr : y ∈ reachL (cOf' (csOf ps)) (csOf ps).length 0 := by rw [HL3.out]; exact List.mem_of_getElem? hy
          have hyb : 0 ≤ y ∧ y < (csOf ps).length := rch_bd HOK.out (by rw [HZ.out]; omega) (((reachL_spec HOK.out (a := 0) (by rw [HZ.out]; omega)).2 y).1 hyr)
          have hsplit : reachL (cOf' (csOf ps)) (csOf ps).length 0 = L.take j ++ y :: L.drop (j + 1) := by
            rw [HL3.out]
            have e1 := List.drop_eq_getElem_cons hlt2
            have e2 : L[j] = y := Option.some.inj ((List.getElem?_eq_getElem hlt2).symm.trans hy)
            rw [e2] at e1
            rw [← e1, List.take_append_drop]
          have hseen := parts_seen HOK.out (a := y) (l := L.take j) (r := L.drop (j + 1)) (by rw [HZ.out]; omega) hsplit
          have wfy : (Lit.int .i64 y).wf = true := wf_small (by omega)
          have hLk := h.s.look (t := 65) Tryz.underlying3 mapT Tryz.underlying4 (by kernel_rfl) wfy
          have hpl := h.len
          clear hyr hsplit
          cases hf : firstB (cOf' (csOf ps)) (csOf ps).length y
          · have hin : y ∈ sn := (h.sm y).2 (hseen.2 hf)
            rw [decide_eq_true hin] at hLk
            have HN := Lib.hid (h.seen hy hf)
            clear hin hf hseen h hy
            go_wp2
            go_roundw
            case rel => exact ⟨j + 1, _, _, _, by omega, by go_num, HN.out⟩
            case measure => simp [Go.RowKit.intOf]; omega
          · have hin : ¬ y ∈ sn := fun e => by
              have := hseen.1 ((h.sm y).1 e)
              rw [hf] at this
              cases this
            rw [decide_eq_false hin] at hLk
            have HY := Lib.hid hy
            have HF := Lib.hid hf
            have HH := Lib.hid h
            have HGr := Lib.hid (gr_of h.b h.oc HCS.out HOK.out hsz)
            obtain ⟨q1, q2, rfl⟩ := owns_slice h.op.row
            clear hin hf hseen h hy
            go_wp2_with fail
            refine (grPart gb y (csOf ps) _ HGr.out hyb).mono ?_
            rintro e w4 ⟨A4, c4, rfl, o4, g4⟩
            have hPs := part_srt HOK.out hyb
            have hPb : ∀ z, z ∈ partL (cOf' (csOf ps)) (csOf ps).length y → 0 ≤ z ∧ z < (csOf ps).length := fun z hz => rch_bd HOK.out hyb ((part_mem HOK.out hyb z).1 hz).1
            have hPl := srt_len _ _ (srt_nodup hPs) hPb
            replace hPl := Nat.le_trans hPl (show (csOf ps).length ≤ 4 from by rw [HZ.out]; omega)
            obtain ⟨P, hP⟩ : ∃ P, partL (cOf' (csOf ps)) (csOf ps).length y = P := ⟨_, rfl⟩
            have HP := Lib.hid hP
            rw [hP] at o4 hPb hPl
            rw [hP]
            have HPB := Lib.hid hPb
            have O4 := Lib.hid o4
            have G4 := Lib.hid g4
            have S4 := Lib.hid (HH.out.s.grew g4)
            have hsl := HH.out.sl
            have hP9 : P.length ≤ 9223372036854775807 := by omega
            clear hP hPs hPb o4 g4 hcell hLk
            go_wp2
            go_loopw [54] (fun i wv => ∃ (m : Nat) (sn' : List Int), m ≤ P.length ∧ i = .int .i64 m ∧ Chg (fun b => b = mb) w4 wv ∧ SetB Tryz.prog mapK mapE wv mb sn' ∧ (∀ z, z ∈ sn' ↔ z ∈ sn ∨ z ∈ P.take m) ∧ sn'.length ≤ sn.length + m) (fun i _ => P.length - (Go.RowKit.intOf i).toNat)
            case atStart => exact ⟨0, sn, Nat.zero_le _, rfl, Chg.refl _ _, S4.out, fun z => by simp, by omega⟩
            case round =>
              obtain ⟨m, sn', hm, rfl, hcm, hsv, hsm, hsl2⟩ := hrel
              by_cases hlt3 : m < P.length
              · have hov := owns_chg O4.out hcm (fun b e1 e2 => map_ne_row S4.out O4.out (by rw [e1, e2]))
                obtain ⟨b4, off4, z, hA4, hz, hzc⟩ := (owns_rd hov).at1 hlt3
                subst hA4
                have hzb := HPB.out z (List.mem_of_getElem? hz)
                obtain ⟨w5, hr5, s5, g5⟩ := hsv.put (t := 65) (x := z) Tryz.underlying3 mapT Tryz.underlying4 (wf_small (by omega)) (by omega)
                have HN := Lib.hid (show Chg (fun b => b = mb) w4 w5 ∧ SetB Tryz.prog mapK mapE w5 mb (z :: sn') ∧ (∀ z', z' ∈ z :: sn' ↔ z' ∈ sn ∨ z' ∈ P.take (m + 1)) ∧ (z :: sn').length ≤ sn.length + (m + 1) from ⟨hcm.trans (Chg.of_grownBy g5) (fun _ _ e => e) (fun _ _ e => (Option.some.inj e).symm), s5, fun z' => by
                  rw [take_get hz, List.mem_cons, hsm, List.mem_append, List.mem_singleton]
                  constructor
                  · rintro (h | h | h) <;> simp [h]
                  · rintro (h | h | h) <;> simp [h], by simp; omega⟩)
                clear hcm hsv hsm s5 g5 hov hz
                go_wp2
                go_roundw
                case rel => exact ⟨m + 1, z :: sn', by omega, by go_num, HN.out⟩
                case measure => simp [Go.RowKit.intOf]; omega
              · obtain rfl : m = P.length := by omega
                rw [List.take_length] at hsm
                have s4 := S4.out
                have b4 := HH.out.b.grew G4.out
                have bv := b4.chg hcm (map_ne_blk s4 b4)
                have opv := (HH.out.op.grew G4.out).map_ (n := 0) s4 hcm
                have ggv : w.heap.size ≤ wr.heap.size := Nat.le_trans HH.out.g.size (Nat.le_trans G4.out.size hcm.size)
                obtain ⟨v6, w6, hr6, o6, g6, hv6⟩ := owns_append_lit (P := Tryz.prog) wr llEl opv.row 1 [.slice A4 P.length c4] rfl (by simp [Value.oneCell']) (by omega) (by omega) ggv
                obtain ⟨b6, n6⟩ := HH.out.step hgl hmbl HY.out HF.out G4.out (by rw [HP.out]; exact O4.out) hcm hsv (fun z => by rw [HP.out]; exact hsm z) (by omega) o6 g6 hv6
                have N6 := Lib.hid n6
                have R6 := Lib.hid hr6
                have tv : wr.cell? ⟨gb, 2, none⟩ = some (.slice q1 pms.length q2) := bv.cell 2
                have lv := bv.lt
                have t6 : w6.cell? ⟨gb, 2, none⟩ = some (.slice q1 pms.length q2) := b6.cell 2
                have f6 := fun i => b6.frozen i
                have l6 := b6.lt
                obtain ⟨A6, c6, rfl⟩ := owns_slice o6
                clear hcm hsv hsm hr6 o6 g6 hv6 b6 n6 s4 b4 bv opv
                go_wp2_with (at_builtin; refine wpList_append_run rfl _ _ rfl rfl rfl rfl R6.out ?_)
                go_roundw
                case rel => exact ⟨j + 1, _, _, _, by omega, by go_num, N6.out⟩
                case measure => simp [Go.RowKit.intOf]; omega
        · obtain rfl : j = L.length := by omega
          have hmp := h.mp
          rw [List.take_length] at hmp
          have HE := Lib.hid (show GrOwn wr w.heap.size gb (csOf ps) (ptOf ps) from ⟨⟨_, _, _, _, _, h.b, h.oc, HCS.out, h.op, by rw [hmp, ← HL3.out, ptOf, partsL, csOf_len]⟩, hgl, HOK.out, hsz⟩)
          have HG9 := Lib.hid h.g
          clear h hmp
          go_wp2
          go_ret2
          exact ⟨gb, rfl, HE.out, HG9.out⟩
end Go.Proofs.YtnjoofpllhbccaaGreat
