/- What an operation makes of numbers; at which numbers bounds are reckoned: the program's unwrapped and corners. No condition. -/
import Derived.Test.YtpmfpgbpndobpaaGreatDoA
import Derived.Test.YtpmfpgbpndobpaaGreatHas4
namespace Go.Proofs.YtpmfpgbpndobpaaGreat
open Go.RowKit
set_option linter.unusedVariables false
set_option linter.unusedSimpArgs false
attribute [local go_sem] ext_cell ext_frozen ext_lt ext_le ext_le1 lt_s2 lt_s3 lt_s4 lt_s5 lt_s6 ext_lt1 ext_lt2 ext_lt3

theorem implUnwrapped (op a b : Int) (w : World) (ho : op = 1 ∨ op = 2 ∨ op = 3 ∨ op = 4) (ha : -32768 ≤ a ∧ a ≤ 32767) (hb : -32768 ≤ b ∧ b ≤ 32767) (h0 : op = 4 → b ≠ 0) :
    Calls Tryz.prog 154 #[.int .i64 op, .int .i64 a, .int .i64 b] w fun e w' => e = .returned (.int .i64 (opI op a b)) ∧ Grew w w' := by
  have HO := Lib.hid (fun W => implOps a W)
  have h5 := opI_le (op := op) ha.1 ha.2 hb.1 hb.2
  rcases ho with rfl | rfl | rfl | rfl
  · rw [show opI 1 a b = a + b from rfl] at h5 ⊢
    have HF := Lib.hid (fun W => implAdd a b W ⟨by omega, by omega⟩)
    clear h5 ha hb h0
    go_enter Tryz.func154, Tryz.ntmps154
    go_wp2_with fail
    refine (HO.out _).mono ?_
    rintro e w1 ⟨g, rfl, ⟨c0, c1, c2, c3⟩, hg, g1⟩
    have HG := Lib.hid g1
    clear g1
    go_wp2_with ((with_reducible refine (HF.out _).mono ?_); rintro e w' ⟨rfl, g'⟩; (first | obtain ⟨y, rfl⟩ := ext_cold g' | obtain ⟨y, rfl⟩ := ext_col g' | obtain ⟨y, rfl⟩ := ext_of g'); clear g')
    go_ret
    refine ⟨rfl, ?_⟩
    have hg := HG.out
    exact gr
  · rw [show opI 2 a b = a - b from rfl] at h5 ⊢
    have HF := Lib.hid (fun W => implSub a b W ⟨by omega, by omega⟩)
    clear h5 ha hb h0
    go_enter Tryz.func154, Tryz.ntmps154
    go_wp2_with fail
    refine (HO.out _).mono ?_
    rintro e w1 ⟨g, rfl, ⟨c0, c1, c2, c3⟩, hg, g1⟩
    have HG := Lib.hid g1
    clear g1
    go_wp2_with ((with_reducible refine (HF.out _).mono ?_); rintro e w' ⟨rfl, g'⟩; (first | obtain ⟨y, rfl⟩ := ext_cold g' | obtain ⟨y, rfl⟩ := ext_col g' | obtain ⟨y, rfl⟩ := ext_of g'); clear g')
    go_ret
    refine ⟨rfl, ?_⟩
    have hg := HG.out
    exact gr
  · rw [show opI 3 a b = a * b from rfl] at h5 ⊢
    have HF := Lib.hid (fun W => implMul a b W ⟨by omega, by omega⟩)
    clear h5 ha hb h0
    go_enter Tryz.func154, Tryz.ntmps154
    go_wp2_with fail
    refine (HO.out _).mono ?_
    rintro e w1 ⟨g, rfl, ⟨c0, c1, c2, c3⟩, hg, g1⟩
    have HG := Lib.hid g1
    clear g1
    go_wp2_with ((with_reducible refine (HF.out _).mono ?_); rintro e w' ⟨rfl, g'⟩; (first | obtain ⟨y, rfl⟩ := ext_cold g' | obtain ⟨y, rfl⟩ := ext_col g' | obtain ⟨y, rfl⟩ := ext_of g'); clear g')
    go_ret
    refine ⟨rfl, ?_⟩
    have hg := HG.out
    exact gr
  · rw [show opI 4 a b = a.tdiv b from rfl] at h5 ⊢
    have HF := Lib.hid (fun W => implDiv a b W ⟨by omega, by omega⟩ (h0 rfl))
    clear h5 ha hb h0
    go_enter Tryz.func154, Tryz.ntmps154
    go_wp2_with fail
    refine (HO.out _).mono ?_
    rintro e w1 ⟨g, rfl, ⟨c0, c1, c2, c3⟩, hg, g1⟩
    have HG := Lib.hid g1
    clear g1
    go_wp2_with ((with_reducible refine (HF.out _).mono ?_); rintro e w' ⟨rfl, g'⟩; (first | obtain ⟨y, rfl⟩ := ext_cold g' | obtain ⟨y, rfl⟩ := ext_col g' | obtain ⟨y, rfl⟩ := ext_of g'); clear g')
    go_ret
    refine ⟨rfl, ?_⟩
    have hg := HG.out
    exact gr
theorem implIsArith (op : Int) (w : World) (h : 1 ≤ op ∧ op ≤ 4) : Calls Tryz.prog 152 #[.int .i64 op] w fun e w' => e = .returned (.bool true) ∧ Grew w w' := by
  have h1 : ¬ op < 1 := by omega
  have h2 : ¬ 4 < op := by omega
  have h3 := h.1
  have h4 := h.2
  clear h
  go_enter Tryz.func152, Tryz.ntmps152
  go_wp2
  go_ret
  exact ⟨by simp, gr⟩
/-! Pairs of numbers. -/
theorem pairInfo : (Tryz.prog.info? 222).map (fun i => (i.zero, i.size, i.bytes)) = some (some (.agg #[.int .i64 0, .int .i64 0]), 2, 16) := by kernel_rfl
theorem pairEl : El Tryz.prog 220 222 (.agg #[.int .i64 0, .int .i64 0]) 2 16 := El.mk' pairInfo Tryz.underlying220 rfl (by omega)
def pairC (p : Int × Int) : List Value := [.int .i64 p.1, .int .i64 p.2]
theorem pair_len (p : Int × Int) : (pairC p).length = 2 := rfl
def pairs (a : Itv) (ss : List Int) : List (Int × Int) := ss.flatMap fun n => [(a.lo, n), (a.hi, n)]
theorem pairs_snoc (a : Itv) (ss : List Int) (x : Int) : pairs a (ss ++ [x]) = pairs a ss ++ [(a.lo, x), (a.hi, x)] := by simp [pairs]
theorem pairs_len (a : Itv) (ss : List Int) : (pairs a ss).length = ss.length * 2 := by
  induction ss with
  | nil => rfl
  | cons x xs ih => rw [pairs, List.flatMap_cons, List.length_append, ← pairs, ih, List.length_cons]; simp; omega
/-- A row of pairs that the call owns. -/
def RetPr (ps : List (Int × Int)) (w : World) (e : Ending) (w' : World) : Prop := ∃ x c, e = .returned (.slice x ps.length c) ∧ w'.ownsRow w.heap.size 222 2 (.slice x ps.length c) ps.length (ps.flatMap pairC) ∧ Grew w w'
def secF (b : Itv) (l : List Int) : List Int := l.filter (fun n => !decide (n = 0) && inB b.lo b.hi n)
theorem secF_snoc (b : Itv) (l : List Int) (x : Int) : secF b (l ++ [x]) = secF b l ++ (if (!decide (x = 0) && inB b.lo b.hi x) = true then [x] else []) := by
  rw [secF, List.filter_append, ← secF]
  congr 1
  by_cases h : (!decide (x = 0) && inB b.lo b.hi x) = true <;> simp [List.filter, h]
theorem secF_len (b : Itv) (l : List Int) : (secF b l).length ≤ l.length := List.length_filter_le _ _
set_option maxRecDepth 100000 in
set_option maxHeartbeats 4000000 in
theorem implCornersO (op : Int) (a b : Itv) (w : World) (ho : op ≠ 4) :
    Calls Tryz.prog 153 #[.int .i64 op, a.v, b.v] w (RetPr (cornI op a b) w) := by
  obtain ⟨al, ah⟩ := a
  obtain ⟨bl, bh⟩ := b
  obtain ⟨ss, hss⟩ : ∃ ss, [bl, bh] = ss := ⟨_, rfl⟩
  have HP : Hid (cornI op ⟨al, ah⟩ ⟨bl, bh⟩ = pairs ⟨al, ah⟩ ss) := Lib.hid (by rw [← hss]; simp [cornI, secI, ho, pairs])
  have HS := Lib.hid hss
  have HN : Hid (ss.length = 2) := Lib.hid (by rw [← hss]; rfl)
  have hb4 : (op == 4) = false := by simp [ho]
  clear hss ho
  go_enter Tryz.func153, Tryz.ntmps153
  go_wp2
  refine wp_letH ?_
  intro E hE
  have HGE := Lib.hid (show Grew w E from by rw [hE]; exact gr)
  have HQ := Lib.hid (fun W (h : Grew E W) => (⟨(h.cell (p := ⟨w.heap.size, 0, none⟩) (by rw [hE]; simp only [World.size_alloc]; omega)).trans (by rw [hE]; simp [go_sem]), (h.cell (p := ⟨w.heap.size, 1, none⟩) (by rw [hE]; simp only [World.size_alloc]; omega)).trans (by rw [hE]; simp [go_sem]), Nat.lt_of_lt_of_le (by rw [hE]; simp only [World.size_alloc]; omega) h.size⟩ :
    W.cell? ⟨w.heap.size, 0, none⟩ = some (.int .i64 al) ∧ W.cell? ⟨w.heap.size, 1, none⟩ = some (.int .i64 ah) ∧ w.heap.size < W.heap.size))
  have HRS : Hid (Rd E (some ⟨w.heap.size + 1 + 1, 0, none⟩) 2 1 (ints .i64 ss)) := Lib.hid (by
    rw [hE, ← HS.out]
    have hrl := rd_lit ((w.alloc (.cells #[.int .i64 al, .int .i64 ah] 31)).alloc (.cells #[.int .i64 bl, .int .i64 bh] 31)) 3 #[.int .i64 bl, .int .i64 bh] 2 1 rfl
    simp only [World.size_alloc] at hrl
    exact hrl)
  clear hE
  go_loopw [10, 44] (fun v i wr => ∃ k : Nat, k ≤ 2 ∧ i = .int .i64 k ∧ Grew E wr ∧ wr.ownsRow E.heap.size 222 2 v (pairs ⟨al, ah⟩ (ss.take k)).length ((pairs ⟨al, ah⟩ (ss.take k)).flatMap pairC)) (fun _ i _ => 2 - (intOf i).toNat)
  case atStart => exact ⟨0, Nat.zero_le _, rfl, Below.refl _ _, World.ownsRow_nil _ _ _ _⟩
  case round =>
    obtain ⟨k, hk, rfl, hg, ho⟩ := hrel
    obtain ⟨oa, oc, rfl⟩ := owns_slice ho
    have hpl : (pairs ⟨al, ah⟩ (ss.take k)).length ≤ 8 := by rw [pairs_len]; have := List.length_take_le k ss; omega
    by_cases hlt : k < 2
    · obtain ⟨bb, off, x, hsa, hx, c0⟩ := (HRS.out.grew hg).at1 hlt
      cases hsa
      try simp only [Nat.zero_add] at c0
      have HX := Lib.hid (show pairs ⟨al, ah⟩ (ss.take (k + 1)) = _ from by rw [take_get hx, pairs_snoc]); clear hx
      obtain ⟨v4, w4, hr4, o4, g4, hv4⟩ := owns_append_lit (P := Tryz.prog) wr pairEl ho 2 [.int .i64 al, .int .i64 x, .int .i64 ah, .int .i64 x] rfl (by simp [Value.oneCell']) (by omega) (by omega) hg.size
      have R4 := Lib.hid hr4
      have HO4 := Lib.hid o4
      have HG4 := Lib.hid (show Grew E w4 from hg.grown g4 hg.size (fun j hj => (ho.lt j hj).1))
      obtain ⟨q0, q1, l0⟩ := HQ.out _ hg
      have lb := World.block_lt_of_cell? _ _ c0
      clear hr4 o4 g4 hv4 ho hg
      go_wp2_with (at_builtin; refine wpList_append_run rfl _ _ rfl rfl rfl rfl R4.out ?_)
      go_roundw
      case rel =>
        refine ⟨k + 1, by omega, by go_num, HG4.out, ?_⟩
        rw [HX.out, List.length_append, List.flatMap_append]
        exact HO4.out
      case measure => simp [intOf]; omega
    · have hfin : ss.take k = ss := List.take_of_length_le (by have := HN.out; omega)
      have HPk := Lib.hid (show cornI _ ⟨al, ah⟩ ⟨bl, bh⟩ = pairs ⟨al, ah⟩ (ss.take k) from HP.out.trans (by rw [hfin]))
      have HO := Lib.hid ho
      have HG := Lib.hid hg
      clear hg ho hfin
      go_wp2
      go_ret
      rw [HPk.out]
      exact ⟨oa, oc, rfl, owns_mono HO.out HGE.out.size, grew_tr HGE.out HG.out⟩
set_option maxRecDepth 100000 in
set_option maxHeartbeats 4000000 in
theorem implCornersD (op : Int) (a b : Itv) (w : World) (hb : itvB b = true) (ho : op = 4) :
    Calls Tryz.prog 153 #[.int .i64 op, a.v, b.v] w (RetPr (cornI op a b) w) := by
  subst ho
  obtain ⟨al, ah⟩ := a
  have HI := Lib.hid (fun x W => implItvHas b.lo b.hi x W hb)
  clear hb
  obtain ⟨bl, bh⟩ := b
  simp only at HI
  obtain ⟨ls, hls⟩ : ∃ ls, [bl, bh, -1, 1] = ls := ⟨_, rfl⟩
  have HP : Hid (cornI 4 ⟨al, ah⟩ ⟨bl, bh⟩ = pairs ⟨al, ah⟩ (secF ⟨bl, bh⟩ ls)) := Lib.hid (by rw [← hls]; rfl)
  have HS := Lib.hid hls
  have HN0 : Hid (ls.length = 4) := Lib.hid (by rw [← hls]; rfl)
  clear hls
  go_enter Tryz.func153, Tryz.ntmps153
  go_wp2
  refine wp_letH ?_
  intro E0 hE
  have HGE0 := Lib.hid (show Grew w E0 from by rw [hE]; exact gr)
  have HQ0 := Lib.hid (fun W (h : Grew E0 W) => (⟨(h.cell (p := ⟨w.heap.size, 0, none⟩) (by rw [hE]; simp only [World.size_alloc]; omega)).trans (by rw [hE]; simp [go_sem]), (h.cell (p := ⟨w.heap.size, 1, none⟩) (by rw [hE]; simp only [World.size_alloc]; omega)).trans (by rw [hE]; simp [go_sem]), (h.cell (p := ⟨w.heap.size + 1, 0, none⟩) (by rw [hE]; simp only [World.size_alloc]; omega)).trans (by rw [hE]; simp [go_sem]), (h.cell (p := ⟨w.heap.size + 1, 1, none⟩) (by rw [hE]; simp only [World.size_alloc]; omega)).trans (by rw [hE]; simp [go_sem]), Nat.lt_of_lt_of_le (by rw [hE]; simp only [World.size_alloc]; omega) h.size⟩ :
    W.cell? ⟨w.heap.size, 0, none⟩ = some (.int .i64 al) ∧ W.cell? ⟨w.heap.size, 1, none⟩ = some (.int .i64 ah) ∧ W.cell? ⟨w.heap.size + 1, 0, none⟩ = some (.int .i64 bl) ∧ W.cell? ⟨w.heap.size + 1, 1, none⟩ = some (.int .i64 bh) ∧ w.heap.size + 1 < W.heap.size))
  obtain ⟨ga, hga⟩ : ∃ g : Nat, E0.heap.size = g + 1 := ⟨w.heap.size + 1 + 1 + 1, by rw [hE]; simp only [World.size_alloc]⟩
  have HRS0 : Hid (Rd E0 (some ⟨w.heap.size + 1 + 1 + 1, 0, none⟩) 4 1 (ints .i64 ls)) := Lib.hid (by
    rw [hE, ← HS.out]
    have hrl := rd_lit (((w.alloc (.cells #[.int .i64 al, .int .i64 ah] 31)).alloc (.cells #[.int .i64 bl, .int .i64 bh] 31)).alloc (.cells #[.int .i64 bl, .int .i64 bh] 3)) 3 #[.int .i64 bl, .int .i64 bh, .int .i64 (-1), .int .i64 1] 4 1 rfl
    simp only [World.size_alloc] at hrl
    exact hrl)
  clear hE hga
  go_loopw [7, 26] (fun v i wr => ∃ k : Nat, k ≤ 4 ∧ i = .int .i64 k ∧ Grew E0 wr ∧ wr.ownsRow E0.heap.size 3 1 v (secF ⟨bl, bh⟩ (ls.take k)).length (ints .i64 (secF ⟨bl, bh⟩ (ls.take k)))) (fun _ i _ => 4 - (intOf i).toNat)
  case atStart => exact ⟨0, Nat.zero_le _, rfl, Below.refl _ _, World.ownsRow_nil _ _ _ _⟩
  case round =>
    obtain ⟨k, hk, rfl, hg, ho⟩ := hrel
    obtain ⟨oa, oc, rfl⟩ := owns_slice ho
    have hsl : (secF ⟨bl, bh⟩ (ls.take k)).length ≤ 4 := Nat.le_trans (secF_len _ _) (Nat.le_trans (List.length_take_le _ _) hk)
    by_cases hlt : k < 4
    · obtain ⟨bb, off, x, hsa, hx, c0⟩ := (HRS0.out.grew hg).at1 hlt
      cases hsa
      simp only [Nat.zero_add] at c0
      have HX := Lib.hid (show secF ⟨bl, bh⟩ (ls.take (k + 1)) = _ from by rw [take_get hx, secF_snoc]); clear hx
      obtain ⟨q0, q1, q2, q3, l0⟩ := HQ0.out _ hg
      have lb := World.block_lt_of_cell? _ _ c0
      have HG := Lib.hid hg
      have HO := Lib.hid ho
      by_cases hz : x = 0
      · have HT : Hid (secF ⟨bl, bh⟩ (ls.take (k + 1)) = secF ⟨bl, bh⟩ (ls.take k)) := Lib.hid (by rw [HX.out, hz]; simp)
        have hzb : (x != 0) = false := by simp [hz]
        clear hz ho hg HX
        go_wp2_with fail
        go_roundw
        case rel => exact ⟨k + 1, by omega, by go_num, HG.out, by rw [HT.out]; exact HO.out⟩
        case measure => simp [intOf]; omega
      · have hzb : (x != 0) = true := by simp [hz]
        have C := fun W => HI.out x W
        cases hq : (decide (bl ≤ x) && decide (x ≤ bh))
        · have HT : Hid (secF ⟨bl, bh⟩ (ls.take (k + 1)) = secF ⟨bl, bh⟩ (ls.take k)) := Lib.hid (by rw [HX.out, show inB (⟨bl, bh⟩ : Itv).lo (⟨bl, bh⟩ : Itv).hi x = false from hq]; simp)
          rw [hq] at C
          have HC := Lib.hid C
          clear hz ho hg HX C hq
          go_wp2_with ((with_reducible refine (HC.out _).mono ?_); rintro e w' ⟨rfl, g'⟩; (first | obtain ⟨y, rfl⟩ := ext_cold g' | obtain ⟨y, rfl⟩ := ext_col g' | obtain ⟨y, rfl⟩ := ext_of g'); clear g')
          go_roundw
          case rel => exact ⟨k + 1, by omega, by go_num, grew_tr HG.out (gr), by rw [HT.out]; exact owns_grew HO.out (gr)⟩
          case measure => simp [intOf]; omega
        · have HT : Hid (secF ⟨bl, bh⟩ (ls.take (k + 1)) = secF ⟨bl, bh⟩ (ls.take k) ++ [x]) := Lib.hid (by rw [HX.out, show inB (⟨bl, bh⟩ : Itv).lo (⟨bl, bh⟩ : Itv).hi x = true from hq]; simp [hz])
          rw [hq] at C
          have HC := Lib.hid C
          clear hz ho hg HX C hq
          go_wp2_with fail
          refine (HC.out _).mono ?_
          rintro e w5 ⟨rfl, g5⟩
          have hg := grew_tr HG.out g5
          have ho := owns_grew HO.out g5
          obtain ⟨v4, w4, hr4, o4, g4, hv4⟩ := owns_append_lit (P := Tryz.prog) w5 intEl ho 1 [.int .i64 x] rfl (by simp [Value.oneCell']) (by omega) (by omega) hg.size
          have R4 := Lib.hid hr4
          have HO4 := Lib.hid o4
          have HG4 := Lib.hid (show Grew E0 w4 from hg.grown g4 hg.size (fun j hj => (ho.lt j hj).1))
          clear hr4 o4 g4 hv4 ho hg g5 HO HG q0 q1 q2 q3 l0 c0 lb
          go_wp2_with (at_builtin; refine wpList_append_run rfl _ _ rfl rfl rfl rfl R4.out ?_)
          go_roundw
          case rel =>
            refine ⟨k + 1, by omega, by go_num, HG4.out, ?_⟩
            rw [HT.out, ints_append, List.length_append]
            exact HO4.out
          case measure => simp [intOf]; omega
    · have hfin : ls.take k = ls := List.take_of_length_le (by have := HN0.out; omega)
      obtain ⟨ss, hss⟩ : ∃ ss, secF ⟨bl, bh⟩ (ls.take k) = ss := ⟨_, rfl⟩
      have HP := Lib.hid (show cornI 4 ⟨al, ah⟩ ⟨bl, bh⟩ = pairs ⟨al, ah⟩ ss from HP.out.trans (by rw [← hss, hfin]))
      rw [hss] at ho hsl ⊢
      obtain ⟨m, hm⟩ : ∃ m, ss.length = m := ⟨_, rfl⟩
      rw [hm] at ho hsl ⊢
      have HN := Lib.hid hm
      obtain ⟨E, hE⟩ : ∃ E, wr = E := ⟨_, rfl⟩
      rw [hE] at ho hg ⊢
      have HGE := Lib.hid (grew_tr HGE0.out hg)
      have HQ := Lib.hid (fun W (h : Grew E W) => (⟨(HQ0.out W (grew_tr hg h)).1, (HQ0.out W (grew_tr hg h)).2.1, by have := (HQ0.out W (grew_tr hg h)).2.2.2.2; omega⟩ : W.cell? ⟨w.heap.size, 0, none⟩ = some (.int .i64 al) ∧ W.cell? ⟨w.heap.size, 1, none⟩ = some (.int .i64 ah) ∧ w.heap.size < W.heap.size))
      have HRS := Lib.hid (owns_rd ho)
      clear hss hm hE ho hg hfin HRS0 HQ0 HGE0
      go_wp2
      go_loopw [10, 44] (fun v i wr => ∃ k : Nat, k ≤ m ∧ i = .int .i64 k ∧ Grew E wr ∧ wr.ownsRow E.heap.size 222 2 v (pairs ⟨al, ah⟩ (ss.take k)).length ((pairs ⟨al, ah⟩ (ss.take k)).flatMap pairC)) (fun _ i _ => m - (intOf i).toNat)
      case atStart => exact ⟨0, Nat.zero_le _, rfl, Below.refl _ _, World.ownsRow_nil _ _ _ _⟩
      case round =>
        obtain ⟨k, hk, rfl, hg, ho⟩ := hrel
        obtain ⟨oa, oc, rfl⟩ := owns_slice ho
        have hpl : (pairs ⟨al, ah⟩ (ss.take k)).length ≤ 8 := by rw [pairs_len]; have := List.length_take_le k ss; omega
        by_cases hlt : k < m
        · obtain ⟨bb, off, x, hsa, hx, c0⟩ := (HRS.out.grew hg).at1 hlt
          cases hsa
          try simp only [Nat.zero_add] at c0
          have HX := Lib.hid (show pairs ⟨al, ah⟩ (ss.take (k + 1)) = _ from by rw [take_get hx, pairs_snoc]); clear hx
          obtain ⟨v4, w4, hr4, o4, g4, hv4⟩ := owns_append_lit (P := Tryz.prog) wr pairEl ho 2 [.int .i64 al, .int .i64 x, .int .i64 ah, .int .i64 x] rfl (by simp [Value.oneCell']) (by omega) (by omega) hg.size
          have R4 := Lib.hid hr4
          have HO4 := Lib.hid o4
          have HG4 := Lib.hid (show Grew E w4 from hg.grown g4 hg.size (fun j hj => (ho.lt j hj).1))
          obtain ⟨q0, q1, l0⟩ := HQ.out _ hg
          have lb := World.block_lt_of_cell? _ _ c0
          clear hr4 o4 g4 hv4 ho hg
          go_wp2_with (at_builtin; refine wpList_append_run rfl _ _ rfl rfl rfl rfl R4.out ?_)
          go_roundw
          case rel =>
            refine ⟨k + 1, by omega, by go_num, HG4.out, ?_⟩
            rw [HX.out, List.length_append, List.flatMap_append]
            exact HO4.out
          case measure => simp [intOf]; omega
        · have hfin : ss.take k = ss := List.take_of_length_le (by have := HN.out; omega)
          have HPk := Lib.hid (show cornI _ ⟨al, ah⟩ ⟨bl, bh⟩ = pairs ⟨al, ah⟩ (ss.take k) from HP.out.trans (by rw [hfin]))
          have HO := Lib.hid ho
          have HG := Lib.hid hg
          clear hg ho hfin
          go_wp2
          go_ret
          rw [HPk.out]
          exact ⟨oa, oc, rfl, owns_mono HO.out HGE.out.size, grew_tr HGE.out HG.out⟩
end Go.Proofs.YtpmfpgbpndobpaaGreat
