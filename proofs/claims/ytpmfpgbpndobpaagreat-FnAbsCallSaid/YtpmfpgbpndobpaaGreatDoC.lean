/- What an operation makes of two bounds: the program's ItvDo. No condition. -/
import Derived.Test.YtpmfpgbpndobpaaGreatDoB
namespace Go.Proofs.YtpmfpgbpndobpaaGreat
open Go.RowKit
set_option linter.unusedVariables false
set_option linter.unusedSimpArgs false
attribute [local go_sem] ext_cell ext_frozen ext_lt ext_le ext_le1 lt_s2 lt_s3 lt_s4 lt_s5 lt_s6 ext_lt1 ext_lt2 ext_lt3

def EPair : World → List Value → Int × Int → Prop := fun _ cs p => cs = pairC p
def resF (op : Int) (cs : List (Int × Int)) : List Int := cs.map fun c => opI op c.1 c.2
theorem resF_snoc (op : Int) (cs : List (Int × Int)) (c : Int × Int) : resF op (cs ++ [c]) = resF op cs ++ [opI op c.1 c.2] := by simp [resF]
theorem resF_len (op : Int) (cs : List (Int × Int)) : (resF op cs).length = cs.length := by simp [resF]
theorem staysPair : Stays EPair := fun _ _ _ _ _ h => h
theorem minL_head (x : Int) (l : List Int) : (x :: l).foldl min x = minL (x :: l) := by simp [minL]
theorem maxL_head (x : Int) (l : List Int) : (x :: l).foldl max x = maxL (x :: l) := by simp [maxL]
theorem min_le_max {l : List Int} (h : l ≠ []) : minL l ≤ maxL l := (minL_is h).2 _ (maxL_is h).1
theorem itvDo_none {op : Int} {a b : Itv} (h : (ressI op a b).length = 0) : doI op a b = none := by
  rw [doI, if_pos (List.eq_nil_of_length_eq_zero h)]
theorem itvDo_some {op : Int} {a b : Itv} (h : (ressI op a b).length ≠ 0) : doI op a b = some (foldI (minL (ressI op a b)) (maxL (ressI op a b))) := by
  rw [doI, if_neg (fun e => h (by rw [e]; rfl))]
set_option maxRecDepth 100000 in
set_option maxHeartbeats 8000000 in
theorem implItvDoS (op : Int) (a b : Itv) (w : World) (ho : 1 ≤ op ∧ op ≤ 4) (ha : itvB a = true) (hb : itvB b = true) (h2 : op = 2) :
    Calls Tryz.prog 132 #[.int .i64 op, a.v, b.v] w fun e w' => e = .returned (optV (doI op a b)) ∧ Grew w w' := by
  have HBO := Lib.hid (fun W => implBothOk a b W ha hb)
  have HAR := Lib.hid (fun W => implIsArith op W ho)
  have HLE := Lib.hid (fun x (h : x ∈ ressI op a b) => ress_le ha hb h)
  subst h2
  have hA := itvB_iff.1 ha
  have hB := itvB_iff.1 hb
  clear ho ha hb
  obtain ⟨al, ah⟩ := a
  obtain ⟨bl, bh⟩ := b
  simp only at HBO HLE hA hB
  have HRN : Hid ((ressI 2 ⟨al, ah⟩ ⟨bl, bh⟩).length = 2) := Lib.hid (by simp [ressI])
  have hs1 : IntKind.i64.wrap (al - bh) = al - bh := i64in (by omega) (by omega)
  have hs2 : IntKind.i64.wrap (ah - bl) = ah - bl := i64in (by omega) (by omega)
  go_enter Tryz.func132, Tryz.ntmps132
  go_wp2_with (first | ((with_reducible refine (HBO.out _).mono ?_); rintro e w' ⟨rfl, g'⟩; (first | obtain ⟨y, rfl⟩ := ext_cold g' | obtain ⟨y, rfl⟩ := ext_col g' | obtain ⟨y, rfl⟩ := ext_of g'); clear g') | ((with_reducible refine (HAR.out _).mono ?_); rintro e w' ⟨rfl, g'⟩; (first | obtain ⟨z, rfl⟩ := ext_cold g' | obtain ⟨z, rfl⟩ := ext_col g' | obtain ⟨z, rfl⟩ := ext_of g'); clear g'))
  refine wp_letH ?_
  intro E hE
  have HGE := Lib.hid (show Grew w E from by rw [hE]; exact gr)
  have Y6 : Blk E (w.heap.size + 1 + 1) 31 #[.int .i64 0, .int .i64 0] := by rw [hE]; exact (show Blk (((w.alloc (.cells #[.int .i64 al, .int .i64 ah] 31)).alloc (.cells #[.int .i64 bl, .int .i64 bh] 31)).alloc (.cells #[.int .i64 0, .int .i64 0] 31)) (w.heap.size + 1 + 1) 31 #[.int .i64 0, .int .i64 0] from Blk.new' (by simp only [World.size_alloc])).grew (gr)
  have HB6 := Lib.hid (fun W (h : Grew E W) => (⟨(Y6.grew h).cell 0, (Y6.grew h).cell 1, (Y6.grew h).lt, fun j => (Y6.grew h).frozen j⟩ : W.cell? ⟨w.heap.size + 1 + 1, 0, none⟩ = some (.int .i64 0) ∧ W.cell? ⟨w.heap.size + 1 + 1, 1, none⟩ = some (.int .i64 0) ∧ w.heap.size + 1 + 1 < W.heap.size ∧ ∀ j, W.frozen? ⟨w.heap.size + 1 + 1, j, none⟩ = false))
  have HRD : Hid (Rd E (some ⟨(ext (((w.alloc (.cells #[.int .i64 al, .int .i64 ah] 31)).alloc (.cells #[.int .i64 bl, .int .i64 bh] 31)).alloc (.cells #[.int .i64 0, .int .i64 0] 31)) z).heap.size, 0, none⟩) 2 1 (ints .i64 (ressI 2 ⟨al, ah⟩ ⟨bl, bh⟩))) := Lib.hid (by
    rw [hE]
    exact rd_lit (ext (((w.alloc (.cells #[.int .i64 al, .int .i64 ah] 31)).alloc (.cells #[.int .i64 bl, .int .i64 bh] 31)).alloc (.cells #[.int .i64 0, .int .i64 0] 31)) z) 3 #[.int .i64 (al - bh), .int .i64 (ah - bl)] 2 1 rfl)
  obtain ⟨gz, hgz⟩ : ∃ g, (ext (((w.alloc (.cells #[.int .i64 al, .int .i64 ah] 31)).alloc (.cells #[.int .i64 bl, .int .i64 bh] 31)).alloc (.cells #[.int .i64 0, .int .i64 0] 31)) z).heap.size = g := ⟨_, rfl⟩
  rw [hgz] at HRD ⊢
  clear hE hgz Y6
  obtain ⟨rb, roff, x0, hra, hx0, c0⟩ := HRD.out.at1 (show 0 < 2 from by omega)
  cases hra
  try simp only [Nat.zero_add, Nat.add_zero] at c0
  have lb := World.block_lt_of_cell? _ _ c0
  have hnz0 : (ressI 2 ⟨al, ah⟩ ⟨bl, bh⟩).length ≠ 0 := by rw [HRN.out]; omega
  have HV : Hid (doI 2 ⟨al, ah⟩ ⟨bl, bh⟩ = some (foldI (minL (ressI 2 ⟨al, ah⟩ ⟨bl, bh⟩)) (maxL (ressI 2 ⟨al, ah⟩ ⟨bl, bh⟩)))) := Lib.hid (itvDo_some hnz0)
  have hne : ressI 2 ⟨al, ah⟩ ⟨bl, bh⟩ ≠ [] := fun e => hnz0 (by rw [e]; rfl)
  have HF := Lib.hid (fun W => implItvFold (minL (ressI 2 ⟨al, ah⟩ ⟨bl, bh⟩)) (maxL (ressI 2 ⟨al, ah⟩ ⟨bl, bh⟩)) W (min_le_max hne) (HLE.out _ (minL_is hne).1).1 (HLE.out _ (maxL_is hne).1).2)
  have hmh := minL_head x0 (ressI 2 ⟨al, ah⟩ ⟨bl, bh⟩).tail
  have hMh := maxL_head x0 (ressI 2 ⟨al, ah⟩ ⟨bl, bh⟩).tail
  have hcons : x0 :: (ressI 2 ⟨al, ah⟩ ⟨bl, bh⟩).tail = ressI 2 ⟨al, ah⟩ ⟨bl, bh⟩ := by
    revert hx0 hne
    cases ressI 2 ⟨al, ah⟩ ⟨bl, bh⟩ with
    | nil => intro _ h; exact absurd rfl h
    | cons y l => intro h _; simp at h; simp [h]
  rw [hcons] at hmh hMh
  obtain ⟨rs, hrs⟩ : ∃ rs, ressI 2 ⟨al, ah⟩ ⟨bl, bh⟩ = rs := ⟨_, rfl⟩
  rw [hrs] at HV HF hmh hMh HRD HRN
  obtain ⟨⟨fl, fh⟩, hf⟩ : ∃ f, foldI (minL rs) (maxL rs) = f := ⟨_, rfl⟩
  rw [hf] at HV HF
  have HM := Lib.hid hmh
  have HMM := Lib.hid hMh
  clear hnz0 hx0 hne hcons hmh hMh hrs hf HLE
  go_wp2_with fail
  first | refine wp_region_ext2 (by kernel_rfl) (by kernel_rfl) ?_ | refine wp_region_ext (by kernel_rfl) (by kernel_rfl) ?_
  repeat (go_big_quiet_step ((first | fail)))
  refine wpQuiet_nil ?_
  intro _ hw'
  obtain ⟨u, hw''⟩ := hw'
  subst hw''
  go_wp2
  refine wp_letH ?_
  intro E2 hE2
  have hGE2 : Grew E E2 := by rw [hE2]; exact gr
  have HRD2 := Lib.hid (HRD.out.grew hGE2)
  have HGE2 := Lib.hid (grew_tr HGE.out hGE2)
  have HB62 := Lib.hid (fun W (h : Grew E2 W) => HB6.out W (grew_tr hGE2 h))
  clear hE2 hGE2 HRD HGE HB6 c0 lb
  go_loopw [11, 12, 70] (fun l h i wr => ∃ k : Nat, k ≤ 2 ∧ i = .int .i64 k ∧ l = .int .i64 ((rs.take k).foldl min x0) ∧ h = .int .i64 ((rs.take k).foldl max x0) ∧ Grew E2 wr) (fun _ _ i _ => 2 - (intOf i).toNat)
  case atStart => exact ⟨0, Nat.zero_le _, rfl, by simp, by simp, Below.refl _ _⟩
  case round =>
    obtain ⟨k, hk, rfl, rfl, rfl, hg⟩ := hrel
    by_cases hlt : k < 2
    · obtain ⟨rb2, roff2, x, hra2, hx, c0⟩ := (HRD2.out.grew hg).at1 hlt
      cases hra2
      try simp only [Nat.zero_add] at c0
      have hX := Lib.hid (show (rs.take (k + 1)).foldl min x0 = min ((rs.take k).foldl min x0) x from by rw [take_get hx, List.foldl_append]; rfl)
      have hX2 := Lib.hid (show (rs.take (k + 1)).foldl max x0 = max ((rs.take k).foldl max x0) x from by rw [take_get hx, List.foldl_append]; rfl)
      have lb := World.block_lt_of_cell? _ _ c0
      obtain ⟨p, hp⟩ : ∃ p, (rs.take k).foldl min x0 = p := ⟨_, rfl⟩
      obtain ⟨q, hq⟩ : ∃ p, (rs.take k).foldl max x0 = p := ⟨_, rfl⟩
      rw [hp] at hX ⊢
      rw [hq] at hX2 ⊢
      have HG := Lib.hid hg
      clear hx hg hp hq
      go_wp2
      all_goals
        go_roundw
        case rel => exact ⟨k + 1, by omega, by go_num, by rw [hX.out]; congr 1; omega, by rw [hX2.out]; congr 1; omega, HG.out⟩
        case measure => simp [intOf]; omega
    · have hfin : rs.take k = rs := List.take_of_length_le (by have := HRN.out; omega)
      rw [hfin, HM.out, HMM.out]
      have HG := Lib.hid hg
      clear hg hfin
      go_wp2_with fail
      refine (HF.out _).mono ?_
      rintro e w9 ⟨rfl, g9⟩
      obtain ⟨c60, c61, l6, f6⟩ := HB62.out _ (grew_tr HG.out g9)
      have HG9 := Lib.hid (grew_tr HGE2.out (grew_tr HG.out g9))
      clear g9
      go_wp2
      refine bodyPost_ret (by simp [results, Tryz.results132, go_sem, c60, c61, l6]; try rfl) rfl ?_
      refine ⟨by rw [HV.out]; rfl, ?_⟩
      repeat (first | with_reducible exact HG9.out | with_reducible refine grew_set ?_ (by first | omega | (simp only; omega)) _)
set_option maxRecDepth 100000 in
set_option maxHeartbeats 8000000 in
theorem implItvDoC (op : Int) (a b : Itv) (w : World) (ho : 1 ≤ op ∧ op ≤ 4) (ha : itvB a = true) (hb : itvB b = true) (h2 : op ≠ 2) :
    Calls Tryz.prog 132 #[.int .i64 op, a.v, b.v] w fun e w' => e = .returned (optV (doI op a b)) ∧ Grew w w' := by
  have HBO := Lib.hid (fun W => implBothOk a b W ha hb)
  have HAR := Lib.hid (fun W => implIsArith op W ho)
  have HLE := Lib.hid (fun x (h : x ∈ ressI op a b) => ress_le ha hb h)
  have HCO : Hid (∀ W, Calls Tryz.prog 153 #[.int .i64 op, a.v, b.v] W (RetPr (cornI op a b) W)) := Lib.hid (fun W => by
    by_cases h4 : op = 4
    · exact implCornersD op a b W hb h4
    · exact implCornersO op a b W h4)
  have HUN := Lib.hid (fun n (h : n ∈ secI op b) x W (hx : -32768 ≤ x ∧ x ≤ 32767) => implUnwrapped op x n W (by omega) hx ⟨(sec_le hb h).1, (sec_le hb h).2.1⟩ (sec_le hb h).2.2)
  have hA := itvB_iff.1 ha
  have hcl : (cornI op a b).length ≤ 8 := by rw [show cornI op a b = pairs a (secI op b) from rfl, pairs_len]; have : (secI op b).length ≤ 4 := (by unfold secI; split; exact Nat.le_trans (List.length_filter_le _ _) (by simp); simp); omega
  have HRE : Hid (ressI op a b = resF op (cornI op a b)) := Lib.hid (by rw [ressI, if_neg h2]; rfl)
  have HIN := Lib.hid (fun (c : Int × Int) (h : c ∈ cornI op a b) => (by
    simp only [cornI, List.mem_flatMap, List.mem_cons, List.not_mem_nil, or_false] at h
    obtain ⟨n, hn, rfl | rfl⟩ := h
    · exact ⟨hn, by simp only; omega⟩
    · exact ⟨hn, by simp only; omega⟩ : c.2 ∈ secI op b ∧ (-32768 ≤ c.1 ∧ c.1 ≤ 32767)))
  have h2b : (op == 2) = false := by simp [h2]
  clear ho ha hb h2
  obtain ⟨al, ah⟩ := a
  obtain ⟨bl, bh⟩ := b
  simp only at HBO HLE hA
  go_enter Tryz.func132, Tryz.ntmps132
  go_wp2_with (first | ((with_reducible refine (HBO.out _).mono ?_); rintro e w' ⟨rfl, g'⟩; (first | obtain ⟨y, rfl⟩ := ext_cold g' | obtain ⟨y, rfl⟩ := ext_col g' | obtain ⟨y, rfl⟩ := ext_of g'); clear g') | ((with_reducible refine (HAR.out _).mono ?_); rintro e w' ⟨rfl, g'⟩; (first | obtain ⟨z, rfl⟩ := ext_cold g' | obtain ⟨z, rfl⟩ := ext_col g' | obtain ⟨z, rfl⟩ := ext_of g'); clear g'))
  refine (HCO.out _).mono ?_
  rintro e w1 ⟨px, pcap, rfl, po, g1⟩
  have HGE0 := Lib.hid (show Grew w w1 from grew_tr (gr) g1)
  have Y6 : Blk w1 (w.heap.size + 1 + 1) 31 #[.int .i64 0, .int .i64 0] := (show Blk (((w.alloc (.cells #[.int .i64 al, .int .i64 ah] 31)).alloc (.cells #[.int .i64 bl, .int .i64 bh] 31)).alloc (.cells #[.int .i64 0, .int .i64 0] 31)) (w.heap.size + 1 + 1) 31 #[.int .i64 0, .int .i64 0] from Blk.new' (by simp only [World.size_alloc])).grew (grew_tr (gr) g1)
  have HY := Lib.hid Y6
  obtain ⟨cs, hcs⟩ : ∃ cs, cornI op ⟨al, ah⟩ ⟨bl, bh⟩ = cs := ⟨_, rfl⟩
  rw [hcs] at po HRE HIN hcl ⊢
  obtain ⟨m, hm⟩ : ∃ m, cs.length = m := ⟨_, rfl⟩
  rw [hm] at po hcl ⊢
  have HM0 := Lib.hid hm
  have HRD0 : Hid (RdL EPair 2 w1 px m cs) := Lib.hid (rdl_of_rd pairC (by omega) pair_len hm (owns_rd po) (fun x _ => rfl))
  clear hcs hm po g1 Y6 HCO
  go_wp2
  go_loopw [8, 31] (fun v i wr => ∃ k : Nat, k ≤ m ∧ i = .int .i64 k ∧ Grew w1 wr ∧ wr.ownsRow w1.heap.size 3 1 v (resF op (cs.take k)).length (ints .i64 (resF op (cs.take k)))) (fun _ i _ => m - (intOf i).toNat)
  case atStart => exact ⟨0, Nat.zero_le _, rfl, Below.refl _ _, World.ownsRow_nil _ _ _ _⟩
  case round =>
    obtain ⟨k, hk, rfl, hg, ho⟩ := hrel
    obtain ⟨oa, oc, rfl⟩ := owns_slice ho
    have hpl : (resF op (cs.take k)).length ≤ 8 := by rw [resF_len]; have := List.length_take_le k cs; have := HM0.out; omega
    by_cases hlt : k < m
    · obtain ⟨bb, off, ⟨x1, x2⟩, cc, hsa, hx, hcl2, hcell, hE⟩ := (HRD0.out.grew staysPair hg).at_ hlt
      subst hsa
      have hE2 : cc = [.int .i64 x1, .int .i64 x2] := hE
      subst hE2
      have c0 := hcell 0 _ rfl
      have c1 := hcell 1 _ rfl
      have lb := World.block_lt_of_cell? _ _ c0
      simp only [Nat.add_zero] at c0
      have hmem := HIN.out _ (List.mem_of_getElem? hx)
      have HUk := Lib.hid (fun W => HUN.out x2 hmem.1 x1 W hmem.2)
      have HX := Lib.hid (show (resF op (cs.take (k + 1))) = (resF op (cs.take k)) ++ [opI op x1 x2] from by rw [take_get hx, resF_snoc])
      have HG := Lib.hid hg
      have HO := Lib.hid ho
      clear hx hg ho hcell hE hmem hcl2
      go_wp2_with fail
      refine (HUk.out _).mono ?_
      rintro e w5 ⟨rfl, g5⟩
      have hg := grew_tr HG.out (grew_tr (gr) g5)
      have ho := owns_grew HO.out (grew_tr (gr) g5)
      obtain ⟨v4, w4, hr4, o4, g4, hv4⟩ := owns_append_lit (P := Tryz.prog) w5 intEl ho 1 [.int .i64 (opI op x1 x2)] rfl (by simp [Value.oneCell']) (by omega) (by omega) hg.size
      have R4 := Lib.hid hr4
      have HO4 := Lib.hid o4
      have HG4 := Lib.hid (show Grew w1 w4 from hg.grown g4 hg.size (fun j hj => (ho.lt j hj).1))
      clear hr4 o4 g4 hv4 ho hg g5 HO HG c0 c1 lb
      go_wp2_with (at_builtin; refine wpList_append_run rfl _ _ rfl rfl rfl rfl R4.out ?_)
      go_roundw
      case rel =>
        refine ⟨k + 1, by omega, by go_num, HG4.out, ?_⟩
        rw [HX.out, ints_append, List.length_append]
        exact HO4.out
      case measure => simp [intOf]; omega
    · have hfin : (resF op (cs.take k)) = ressI op ⟨al, ah⟩ ⟨bl, bh⟩ := by rw [HRE.out, List.take_of_length_le (by have := HM0.out; omega)]
      rw [hfin] at ho hpl ⊢
      obtain ⟨n, hn⟩ : ∃ n, (ressI op ⟨al, ah⟩ ⟨bl, bh⟩).length = n := ⟨_, rfl⟩
      rw [hn] at ho hpl ⊢
      have HRN := Lib.hid hn
      obtain ⟨E, hE⟩ : ∃ E, wr = E := ⟨_, rfl⟩
      rw [hE] at ho hg ⊢
      have HGE := Lib.hid (grew_tr HGE0.out hg)
      have HRD := Lib.hid (owns_rd ho)
      have Y6 := HY.out.grew hg
      have HB6 := Lib.hid (fun W (h : Grew E W) => (⟨(Y6.grew h).cell 0, (Y6.grew h).cell 1, (Y6.grew h).lt, fun j => (Y6.grew h).frozen j⟩ : W.cell? ⟨w.heap.size + 1 + 1, 0, none⟩ = some (.int .i64 0) ∧ W.cell? ⟨w.heap.size + 1 + 1, 1, none⟩ = some (.int .i64 0) ∧ w.heap.size + 1 + 1 < W.heap.size ∧ ∀ j, W.frozen? ⟨w.heap.size + 1 + 1, j, none⟩ = false))
      clear hfin hn hE ho hg Y6 HY HGE0 HRD0 HM0 HIN HRE
      by_cases hz : n = 0
      · have HV : Hid (doI op ⟨al, ah⟩ ⟨bl, bh⟩ = none) := Lib.hid (itvDo_none (by rw [HRN.out]; exact hz))
        obtain ⟨c60, c61, l6, f6⟩ := HB6.out _ (Below.refl _ _)
        have HG := HGE
        clear HRN HRD HB6 HGE
        subst hz
        go_wp2
        refine bodyPost_ret (by simp [results, Tryz.results132, go_sem, c60, c61, l6]; try rfl) rfl ?_
        refine ⟨by rw [HV.out]; rfl, ?_⟩
        repeat (first | with_reducible exact HG.out | with_reducible refine grew_set ?_ (by first | omega | (simp only; omega)) _)
      · have hnz : ((n : Int) == 0) = false := by simp; omega
        have hnp2 : (0 : Int) < (n : Int) := by omega
        obtain ⟨rb, roff, x0, hra, hx0, c0⟩ := HRD.out.at1 (show 0 < n from by omega)
        cases hra
        try simp only [Nat.zero_add, Nat.add_zero] at c0
        have lb := World.block_lt_of_cell? _ _ c0
        have hnz0 : (ressI op ⟨al, ah⟩ ⟨bl, bh⟩).length ≠ 0 := by rw [HRN.out]; omega
        have HV : Hid (doI op ⟨al, ah⟩ ⟨bl, bh⟩ = some (foldI (minL (ressI op ⟨al, ah⟩ ⟨bl, bh⟩)) (maxL (ressI op ⟨al, ah⟩ ⟨bl, bh⟩)))) := Lib.hid (itvDo_some hnz0)
        have hne : ressI op ⟨al, ah⟩ ⟨bl, bh⟩ ≠ [] := fun e => hnz0 (by rw [e]; rfl)
        have HF := Lib.hid (fun W => implItvFold (minL (ressI op ⟨al, ah⟩ ⟨bl, bh⟩)) (maxL (ressI op ⟨al, ah⟩ ⟨bl, bh⟩)) W (min_le_max hne) (HLE.out _ (minL_is hne).1).1 (HLE.out _ (maxL_is hne).1).2)
        have hmh := minL_head x0 (ressI op ⟨al, ah⟩ ⟨bl, bh⟩).tail
        have hMh := maxL_head x0 (ressI op ⟨al, ah⟩ ⟨bl, bh⟩).tail
        have hcons : x0 :: (ressI op ⟨al, ah⟩ ⟨bl, bh⟩).tail = ressI op ⟨al, ah⟩ ⟨bl, bh⟩ := by
          revert hx0 hne
          cases ressI op ⟨al, ah⟩ ⟨bl, bh⟩ with
          | nil => intro _ h; exact absurd rfl h
          | cons y l => intro h _; simp at h; simp [h]
        rw [hcons] at hmh hMh
        obtain ⟨rs, hrs⟩ : ∃ rs, ressI op ⟨al, ah⟩ ⟨bl, bh⟩ = rs := ⟨_, rfl⟩
        rw [hrs] at HV HF hmh hMh HRD HRN
        obtain ⟨⟨fl, fh⟩, hf⟩ : ∃ f, foldI (minL rs) (maxL rs) = f := ⟨_, rfl⟩
        rw [hf] at HV HF
        have HM := Lib.hid hmh
        have HMM := Lib.hid hMh
        clear hnz0 hx0 hne hcons hmh hMh hrs hf HLE
        go_wp2_with fail
        first | refine wp_region_ext2 (by kernel_rfl) (by kernel_rfl) ?_ | refine wp_region_ext (by kernel_rfl) (by kernel_rfl) ?_
        repeat (go_big_quiet_step ((first | fail)))
        refine wpQuiet_nil ?_
        intro _ hw'
        obtain ⟨u, hw''⟩ := hw'
        subst hw''
        go_wp2
        refine wp_letH ?_
        intro E2 hE2
        have hGE2 : Grew E E2 := by rw [hE2]; exact gr
        have HRD2 := Lib.hid (HRD.out.grew hGE2)
        have HGE2 := Lib.hid (grew_tr HGE.out hGE2)
        have HB62 := Lib.hid (fun W (h : Grew E2 W) => HB6.out W (grew_tr hGE2 h))
        clear hE2 hGE2 HRD HGE HB6 c0 lb
        go_loopw [11, 12, 70] (fun l h i wr => ∃ k : Nat, k ≤ n ∧ i = .int .i64 k ∧ l = .int .i64 ((rs.take k).foldl min x0) ∧ h = .int .i64 ((rs.take k).foldl max x0) ∧ Grew E2 wr) (fun _ _ i _ => n - (intOf i).toNat)
        case atStart => exact ⟨0, Nat.zero_le _, rfl, by simp, by simp, Below.refl _ _⟩
        case round =>
          obtain ⟨k, hk, rfl, rfl, rfl, hg⟩ := hrel
          by_cases hlt : k < n
          · obtain ⟨rb2, roff2, x, hra2, hx, c0⟩ := (HRD2.out.grew hg).at1 hlt
            cases hra2
            try simp only [Nat.zero_add] at c0
            have hX := Lib.hid (show (rs.take (k + 1)).foldl min x0 = min ((rs.take k).foldl min x0) x from by rw [take_get hx, List.foldl_append]; rfl)
            have hX2 := Lib.hid (show (rs.take (k + 1)).foldl max x0 = max ((rs.take k).foldl max x0) x from by rw [take_get hx, List.foldl_append]; rfl)
            have lb := World.block_lt_of_cell? _ _ c0
            obtain ⟨p, hp⟩ : ∃ p, (rs.take k).foldl min x0 = p := ⟨_, rfl⟩
            obtain ⟨q, hq⟩ : ∃ p, (rs.take k).foldl max x0 = p := ⟨_, rfl⟩
            rw [hp] at hX ⊢
            rw [hq] at hX2 ⊢
            have HG := Lib.hid hg
            clear hx hg hp hq
            go_wp2
            all_goals
              go_roundw
              case rel => exact ⟨k + 1, by omega, by go_num, by rw [hX.out]; congr 1; omega, by rw [hX2.out]; congr 1; omega, HG.out⟩
              case measure => simp [intOf]; omega
          · have hfin : rs.take k = rs := List.take_of_length_le (by have := HRN.out; omega)
            rw [hfin, HM.out, HMM.out]
            have HG := Lib.hid hg
            clear hg hfin
            go_wp2_with fail
            refine (HF.out _).mono ?_
            rintro e w9 ⟨rfl, g9⟩
            obtain ⟨c60, c61, l6, f6⟩ := HB62.out _ (grew_tr HG.out g9)
            have HG9 := Lib.hid (grew_tr HGE2.out (grew_tr HG.out g9))
            clear g9
            go_wp2
            refine bodyPost_ret (by simp [results, Tryz.results132, go_sem, c60, c61, l6]; try rfl) rfl ?_
            refine ⟨by rw [HV.out]; rfl, ?_⟩
            repeat (first | with_reducible exact HG9.out | with_reducible refine grew_set ?_ (by first | omega | (simp only; omega)) _)
end Go.Proofs.YtpmfpgbpndobpaaGreat
