/- Lemmas and walks of this proof, some texts one behind the other. No condition. -/
import Derived.Test.YtdddhnepanjmfaaGreatVn
import Derived.Test.YtdddhnepanjmfaaGreatGg
import Derived.Deep.RegionHeld3
set_option linter.unusedSimpArgs false
set_option linter.unusedVariables false
/- The verdict of certificates: the program's walk. No condition. -/
namespace Go.Proofs.YtdddhnepanjmfaaGreat
open Go.RowKit
set_option linter.unusedVariables false
set_option linter.unusedSimpArgs false
attribute [local go_sem] ext_cell ext_frozen ext_lt ext_le ext_le1 lt_s2 lt_s3 lt_s4 lt_s5 lt_s6 ext_lt1 ext_lt2 ext_lt3

/-- A verdict, its places in a row of the call's own. -/
def RetVrd (k : Int) (S : List Site) (w : World) (e : Ending) (w' : World) : Prop := ∃ a c, e = .returned (.agg #[.int .i64 k, .int .i64 0, .slice a S.length c]) ∧ w'.ownsRow w.heap.size 62 2 (.slice a S.length c) S.length (S.flatMap sitC) ∧ Grew w w'
/-- Places behind a row. -/
theorem site_apps {w wr : World} {S T : List Site} {a b : Option Addr} {M N cp cq : Nat} (ho : wr.ownsRow w.heap.size 62 2 (.slice a M cp) M (S.flatMap sitC)) (hM : M ≤ 1000000) (hr : Rd wr b N 2 (T.flatMap sitC)) (hN : N ≤ 1000000) (hg : Grew w wr) :
    ∃ (a2 : Option Addr) (cp2 : Nat) (W : World), (Builtin.append_ #[28, 28] 28 #[.slice a M cp, .slice b N cq]).run Tryz.prog wr = .ok (.slice a2 (M + N) cp2) W ∧
      W.ownsRow w.heap.size 62 2 (.slice a2 (M + N) cp2) (M + N) ((S ++ T).flatMap sitC) ∧ Grew w W := by
  obtain ⟨v', W, hrun, o5, g5, -⟩ := owns_append (P := Tryz.prog) wr siteEl ho b N cq _ hr (sit_one T) (by omega) (by omega) hg.size
  obtain ⟨a2, cp2, rfl⟩ := owns_slice o5
  exact ⟨a2, cp2, W, hrun, by rw [List.flatMap_append]; exact o5, hg.trans ((Chg.of_grownBy g5).belowB hg.size (fun b hb => (ho.lt b hb).1))⟩
theorem take_flat {As : List (List Site)} {k : Nat} {A : List Site} (h : As[k]? = some A) : (As.take (k + 1)).flatten = (As.take k).flatten ++ A := by
  rw [List.take_add_one, h, List.flatten_append]
  simp
theorem flat_le {As : List (List Site)} {b : Nat} (h : ∀ A, A ∈ As → A.length ≤ b) : ∀ k, (As.take k).flatten.length ≤ b * k
  | 0 => by simp
  | k + 1 => by
    have := flat_le h k
    cases hk : As[k]? with
    | none =>
      rw [List.take_of_length_le (by have := List.getElem?_eq_none_iff.1 hk; omega)]
      rw [List.take_of_length_le (by have := List.getElem?_eq_none_iff.1 hk; omega)] at this
      rw [Nat.mul_succ]
      omega
    | some A =>
      rw [take_flat hk, List.length_append, Nat.mul_succ]
      have := h A (List.mem_of_getElem? hk)
      omega
theorem ptr_at {w : World} {a : Option Addr} {n : Nat} {vs : List Value} (h : Rd w a n 1 vs) {k : Nat} (hk : k < n) : ∃ b off v, a = some ⟨b, off, none⟩ ∧ vs[k]? = some v ∧ w.cell? ⟨b, off + k, none⟩ = some v := by
  obtain ⟨h1, h2⟩ := h
  have hl : vs.length = n := by simpa using h1
  rcases h2 with h2 | ⟨b, off, rfl, h2⟩
  · rw [h2] at hl
    simp at hl
    omega
  · have hx : vs[k]? = some (vs[k]'(by omega)) := List.getElem?_eq_getElem _
    exact ⟨b, off, _, rfl, hx, h2 k _ hx⟩

set_option maxRecDepth 100000 in
set_option maxHeartbeats 4000000 in
theorem verdictT (va : Option Addr) (vn vc : Nat) (gs : List Nat) (As : List (List Site)) (w : World) (hr : Rd w va vn 1 (gs.map fun g => .pointer (some ⟨g, 0, none⟩))) (hvn : vn ≤ 1000) (hl : As.length = vn) (hA : ∀ A, A ∈ As → A.length ≤ 1000)
    (hC : ∀ (k : Nat) (g : Nat) (A : List Site), gs[k]? = some g → As[k]? = some A → ∀ W, Grew w W → Calls Tryz.prog 58 #[.pointer (some ⟨g, 0, none⟩)] W (RetSit A W)) :
    Calls Tryz.prog 27 #[.slice va vn vc] w (RetVrd (if As.flatten = [] then 2 else 3) (sortS As.flatten) w) := by
  have HR := Lib.hid hr
  have HC := Lib.hid hC
  have HL := Lib.hid hl
  have HA := Lib.hid (flat_le hA)
  have HAm := Lib.hid hA
  generalize hkd : (if As.flatten = [] then (2 : Int) else 3) = kd
  have HKd := Lib.hid hkd
  clear hr hC hl hA hkd
  go_enter Tryz.func27, Tryz.ntmps27
  go_upto_region 1 with fail
  refine wp_letV ?_
  intro E hE
  have HE := Lib.hid (show Blk E w.heap.size 30 #[.int .i64 0, .int .i64 0, .slice none 0 0] by rw [hE]; exact Blk.new _ _ _)
  have HG := Lib.hid (show Grew w E by rw [hE]; exact grew_al (Below.refl _ _) _)
  have HS := Lib.hid (show w.heap.size < E.heap.size by rw [hE]; simp)
  clear hE
  go_wp2
  go_loopw [3, 5, 8] (fun out x i wr => ∃ k : Nat, k ≤ vn ∧ i = .int .i64 k ∧ Grew E wr ∧ ∃ (M : Nat) (a1 : Option Addr) (cp : Nat), out = .slice a1 M cp ∧ M = ((As.take k).flatten).length ∧ wr.ownsRow E.heap.size 62 2 (.slice a1 M cp) M (((As.take k).flatten).flatMap sitC)) (fun _ _ i _ => vn - (Go.RowKit.intOf i).toNat)
  case atStart => exact ⟨0, Nat.zero_le _, rfl, Below.refl _ _, 0, none, 0, rfl, rfl, World.ownsRow_nil _ _ _ _⟩
  case round =>
    obtain ⟨k, hk, rfl, hg, M, a1, cp, rfl, hM, hO⟩ := hrel
    have HGw := Lib.hid hg
    have HO := Lib.hid hO
    have HM := Lib.hid hM
    have hMs : M ≤ 1000000 := by
      have h1 := HA.out k
      have h2 : 1000 * k ≤ 1000 * 1000 := Nat.mul_le_mul_left _ (by omega)
      omega
    clear hg hO hM
    by_cases hlt : k < vn
    · obtain ⟨b, off, v, rfl, hv, p0⟩ := ptr_at (HR.out.grew (grew_tr HG.out HGw.out)) hlt
      rw [List.getElem?_map, Option.map_eq_some_iff] at hv
      obtain ⟨g, hgk, rfl⟩ := hv
      have hAk : As[k]? = some (As[k]'(by have := HL.out; omega)) := List.getElem?_eq_getElem _
      obtain ⟨A, hA⟩ : ∃ A, As[k]? = some A := ⟨_, hAk⟩
      clear hAk
      have CA := Lib.hid fun W (g : Grew w W) => HC.out k _ A hgk hA W g
      have HAl := Lib.hid (HAm.out A (List.mem_of_getElem? hA))
      have HTk := Lib.hid (take_flat hA)
      clear hgk hA
      go_wp2_with fail
      refine (CA.out _ (grew_tr HG.out HGw.out)).mono ?_
      rintro e w2 ⟨sa, sc, rfl, hso, g2⟩
      obtain ⟨a3, cp3, W, hrun, o3, g3⟩ := site_apps (cq := sc) (owns_grew HO.out g2) hMs (owns_rd hso) (by have := HAl.out; omega) (grew_tr HGw.out g2)
      have HRU := Lib.hid hrun
      have HO3 := Lib.hid o3
      have HG3 := Lib.hid g3
      clear hso hrun o3 g3 g2 HO HGw CA
      go_wp2_with (at_builtin; refine wpList_append_run rfl _ _ rfl rfl rfl rfl HRU.out ?_)
      clear HRU
      go_roundw
      case rel => exact ⟨k + 1, by omega, by go_num, HG3.out, M + A.length, a3, cp3, rfl, by rw [HTk.out, List.length_append, ← HM.out], by rw [HTk.out]; exact HO3.out⟩
      case measure => simp [Go.RowKit.intOf]; omega
    · obtain rfl : k = vn := by omega
      have hfl : (As.take k).flatten = As.flatten := by rw [List.take_of_length_le (by have := HL.out; omega)]
      rw [hfl] at HO HM
      by_cases hM0 : M = 0
      · subst hM0
        have HE0 := Lib.hid (show As.flatten = [] from List.eq_nil_of_length_eq_zero HM.out.symm)
        have HW := Lib.hid (HE.out.grew HGw.out)
        have z0 := HW.out.cell 0
        have z1 := HW.out.cell 1
        have z2 := HW.out.cell 2
        have zf := fun q => HW.out.frozen q
        have zl := HW.out.lt
        simp only [List.getElem?_toArray, List.getElem?_cons_zero, List.getElem?_cons_succ] at z0 z1 z2
        go_wp2
        refine body_letV ?_
        intro F hF
        have HF := (show Blk F w.heap.size 30 #[.int .i64 2, .int .i64 0, .slice none 0 0] by
          rw [hF]
          exact ((HW.out.set_ 0 (.int .i64 2)).set_ 1 (.int .i64 0)).set_ 2 (.slice none 0 0))
        have HGF := (show Grew w F by
          rw [hF]
          iterate 3 refine grew_set ?_ (Nat.le_refl _) _
          exact grew_tr HG.out HGw.out)
        clear hF
        have k0 := HF.cell 0
        have k1 := HF.cell 1
        have k2 := HF.cell 2
        simp only [List.getElem?_toArray, List.getElem?_cons_zero, List.getElem?_cons_succ] at k0 k1 k2
        have kl := HF.lt
        refine bodyPost_ret (by simp [results, Tryz.results27, go_sem, k0, k1, k2, kl]; try rfl) rfl ?_
        rw [HE0.out, show sortS [] = [] from List.eq_nil_of_length_eq_zero (sortS_len [])]
        obtain rfl : (2 : Int) = kd := by rw [← HKd.out, if_pos HE0.out]
        exact ⟨none, 0, rfl, World.ownsRow_nil _ _ _ _, HGF⟩
      · have hM1 : ((M : Int) == 0) = false := by simp; omega
        obtain ⟨g, rfl⟩ : ∃ g, a1 = some ⟨g, 0, none⟩ := by
          rcases HO.out.2 with ⟨e1, e2⟩ | ⟨g', cap', cur, e1, -⟩
          · exact absurd e2 hM0
          · simp only [Value.slice.injEq] at e1
            exact ⟨g', e1.1⟩
        have hgl := HO.out.lt g rfl
        have HSo := Lib.hid (sortSitesC E.heap.size g M cp As.flatten wr HO.out HM.out.symm hMs)
        have HW := Lib.hid (HE.out.grew HGw.out)
        have HGn := Lib.hid (show w.heap.size ≠ g by have := HS.out; omega)
        have HGg := Lib.hid (show E.heap.size ≤ g from hgl.1)
        clear hgl
        go_wp2_with fail
        refine HSo.out.mono ?_
        rintro e w2 ⟨rfl, hso, hch⟩
        have HW2 := Lib.hid (HW.out.chg hch HGn.out)
        have HG2 := Lib.hid (show Grew E w2 from HGw.out.trans (hch.belowB HGw.out.size (fun q e => by have := HGg.out; omega)))
        have HO2 := Lib.hid hso
        have z0 := HW2.out.cell 0
        have z1 := HW2.out.cell 1
        have z2 := HW2.out.cell 2
        have zf := fun q => HW2.out.frozen q
        have zl := HW2.out.lt
        simp only [List.getElem?_toArray, List.getElem?_cons_zero, List.getElem?_cons_succ] at z0 z1 z2
        clear hso hch HSo HO
        go_wp2
        refine body_letV ?_
        intro F hF
        have HF := (show Blk F w.heap.size 30 #[.int .i64 3, .int .i64 0, .slice (some ⟨g, 0, none⟩) M cp] by
          rw [hF]
          exact ((HW2.out.set_ 0 (.int .i64 3)).set_ 1 (.int .i64 0)).set_ 2 (.slice (some ⟨g, 0, none⟩) M cp))
        have HGF := (show Grew w F by
          rw [hF]
          iterate 3 refine grew_set ?_ (Nat.le_refl _) _
          exact grew_tr HG.out HG2.out)
        have HOF := (show F.ownsRow w.heap.size 62 2 (.slice (some ⟨g, 0, none⟩) M cp) M ((sortS As.flatten).flatMap sitC) by
          rw [hF]
          exact owns_mono (owns_set (owns_set (owns_set HO2.out HS.out _) HS.out _) HS.out _) (Nat.le_of_lt HS.out))
        clear hF
        have k0 := HF.cell 0
        have k1 := HF.cell 1
        have k2 := HF.cell 2
        simp only [List.getElem?_toArray, List.getElem?_cons_zero, List.getElem?_cons_succ] at k0 k1 k2
        have kl := HF.lt
        refine bodyPost_ret (by simp [results, Tryz.results27, go_sem, k0, k1, k2, kl]; try rfl) rfl ?_
        obtain rfl : (3 : Int) = kd := by rw [← HKd.out, if_neg (fun e => hM0 (by rw [HM.out, e]; rfl))]
        have hl : (sortS As.flatten).length = M := by rw [sortS_len, HM.out]
        exact ⟨some ⟨g, 0, none⟩, cp, by rw [hl], by rw [hl]; exact HOF, HGF⟩
end Go.Proofs.YtdddhnepanjmfaaGreat

/- The call graph, the reference's side: what a procedure calls, what can be come to from it, its part. No condition. -/
namespace Go.Proofs.YtdddhnepanjmfaaGreat
open Go.RowKit
set_option linter.unusedVariables false
set_option linter.unusedSimpArgs false
attribute [local go_sem] ext_cell ext_frozen ext_lt ext_le ext_le1 lt_s2 lt_s3 lt_s4 lt_s5 lt_s6 ext_lt1 ext_lt2 ext_lt3

theorem owns_n {w : World} {B n m size : Nat} {e : TypeId} {v : Value} {xs : List Value} (h : w.ownsRow B e size v m xs) (hn : n = m) : w.ownsRow B e size v n xs := hn ▸ h
/-- One number is put behind a row of the call's own. -/
theorem appOne {w W : World} {vs : List Int} {n : Nat} {a1 : Option Addr} {c1 : Nat} (z : Int) (h1 : W.ownsRow w.heap.size 3 1 (.slice a1 n c1) n (ints .i64 vs)) (h2 : n ≤ 1048580) (h3 : Grew w W) :
    ∃ a2 c2 W2, (Builtin.append_ #[54, 54] 54 #[.slice a1 n c1, .slice (some ⟨W.heap.size, 0, none⟩) 1 1]).run Tryz.prog (W.alloc (.cells #[.int .i64 z] 3)) = .ok (.slice a2 (n + 1) c2) W2 ∧ W2.ownsRow w.heap.size 3 1 (.slice a2 (n + 1) c2) (n + 1) (ints .i64 (vs ++ [z])) ∧ Grew w W2 := by
  obtain ⟨v3, w3, hrun3, o3, g3, -⟩ := owns_append_lit (P := Tryz.prog) W intEl h1 1 [.int .i64 z] rfl (by simp [Value.oneCell']) (by omega) (by omega) h3.size
  obtain ⟨a2, c2, rfl⟩ := owns_slice o3
  exact ⟨a2, c2, w3, hrun3, by rw [ints_append]; exact o3, h3.grown g3 h3.size (fun j hj => (h1.lt j hj).1)⟩

set_option maxRecDepth 100000 in
set_option maxHeartbeats 2000000 in
theorem l6Put (a : Option Addr) (n cap : Nat) (zs : List Int) (x : Int) (w : World) (hr : Rd w a n 1 (ints .i64 zs)) (hm : n ≤ 1048576) :
    Calls Tryz.prog 72 #[.slice a n cap, .int .i64 x] w (RetIs (putF zs x) w) := by
  have hl := Lib.hid hr.len1
  have HR := Lib.hid hr; clear hr
  have H0 := Lib.hid (show (w.alloc (.cells #[] 3)).ownsRow w.heap.size 3 1 (.slice (some ⟨w.heap.size, 0, none⟩) 0 0) 0 (ints .i64 []) from World.ownsRow_lit w #[] 0 (Nat.le_refl _) (Nat.zero_le _) rfl)
  go_enter Tryz.func72, Tryz.ntmps72
  go_wp2
  go_loopw [5, 6, 7] (fun v d i wr => ∃ k : Nat, k ≤ n ∧ i = .int .i64 k ∧ d = .bool (putP x (zs.take k)).2 ∧ Grew w wr ∧ wr.ownsRow w.heap.size 3 1 v (putP x (zs.take k)).1.length (ints .i64 (putP x (zs.take k)).1)) (fun _ _ i _ => n - (Go.RowKit.intOf i).toNat)
  case atStart => exact ⟨0, Nat.zero_le _, rfl, rfl, grew_al (Below.refl _ _) _, H0.out⟩
  case round =>
    clear H0
    obtain ⟨k, hk, rfl, hd, hg, ho⟩ := hrel
    have hlen := putP_len x (zs.take k)
    have hlk : (zs.take k).length ≤ k := List.length_take_le _ _
    obtain ⟨S, hS⟩ : ∃ S, putP x (zs.take k) = S := ⟨_, rfl⟩
    rw [hS] at hd ho hlen
    obtain ⟨out, d⟩ := S
    subst hd
    dsimp only at ho hlen ⊢
    obtain ⟨oa, oc, rfl⟩ := owns_slice ho
    have HS := Lib.hid hS; clear hS
    by_cases hlt : k < n
    · obtain ⟨b, off, y, rfl, hy, hcw⟩ := HR.out.at1 hlt
      have lb := World.block_lt_of_cell? w _ hcw
      have hcell := (hg.cell (p := ⟨b, off + k, none⟩) lb).trans hcw
      have HT : Hid (putP x (zs.take (k + 1)) = putS x (out, d) y) := Lib.hid (by rw [take_get hy, putP_snoc, HS.out])
      clear hy HS
      cases d
      · by_cases h1 : x < y
        · have b1 : (y == x) = false := by simp; omega
          obtain ⟨a2, c2, w2, r2, o2, g2⟩ := appOne x ho (by omega) hg
          obtain ⟨a3, c3, w3, r3, o3, g3⟩ := appOne y o2 (by omega) g2
          have hcell2 := (g2.cell (p := ⟨b, off + k, none⟩) lb).trans hcw
          have HE : Hid (putS x (out, false) y = (out ++ [x] ++ [y], true)) := Lib.hid (by simp [putS, h1])
          have R2 := Lib.hid r2
          have R3 := Lib.hid r3
          have O3 := Lib.hid o3
          have G3 := Lib.hid g3
          clear r2 r3 o2 o3 g2 g3 ho hg hcw
          go_wp2_with (first | (at_builtin; refine wpList_append_run rfl _ _ rfl rfl rfl rfl R2.out ?_; clear R2) | (at_builtin; refine wpList_append_run rfl _ _ rfl rfl rfl rfl R3.out ?_))
          go_roundw
          case rel => exact ⟨k + 1, by omega, by go_num, by rw [HT.out, HE.out], G3.out, by rw [HT.out, HE.out]; exact owns_n O3.out (by simp)⟩
          case measure => simp [Go.RowKit.intOf]; omega
        · have h1' : y ≤ x := by omega
          obtain ⟨a2, c2, w2, r2, o2, g2⟩ := appOne y ho (by omega) hg
          have R2 := Lib.hid r2
          have O2 := Lib.hid o2
          have G2 := Lib.hid g2
          by_cases h2 : y = x
          · subst h2
            have b1 : (y == y) = true := by simp
            have HE : Hid (putS y (out, false) y = (out ++ [y], true)) := Lib.hid (by simp [putS])
            clear r2 o2 g2 ho hg hcw h1
            go_wp2_with (at_builtin; refine wpList_append_run rfl _ _ rfl rfl rfl rfl R2.out ?_)
            go_roundw
            case rel => exact ⟨k + 1, by omega, by go_num, by rw [HT.out, HE.out], G2.out, by rw [HT.out, HE.out]; exact owns_n O2.out (by simp)⟩
            case measure => simp [Go.RowKit.intOf]; omega
          · have b1 : (y == x) = false := by simp [h2]
            have HE : Hid (putS x (out, false) y = (out ++ [y], false)) := Lib.hid (by simp [putS, h1, h2])
            clear r2 o2 g2 ho hg hcw h2
            go_wp2_with (at_builtin; refine wpList_append_run rfl _ _ rfl rfl rfl rfl R2.out ?_)
            go_roundw
            case rel => exact ⟨k + 1, by omega, by go_num, by rw [HT.out, HE.out], G2.out, by rw [HT.out, HE.out]; exact owns_n O2.out (by simp)⟩
            case measure => simp [Go.RowKit.intOf]; omega
      · obtain ⟨a2, c2, w2, r2, o2, g2⟩ := appOne y ho (by omega) hg
        have R2 := Lib.hid r2
        have O2 := Lib.hid o2
        have G2 := Lib.hid g2
        have HE : Hid (putS x (out, true) y = (out ++ [y], true)) := Lib.hid (by simp [putS])
        clear r2 o2 g2 ho hg hcw
        by_cases h2 : y = x
        · subst h2
          have b1 : (y == y) = true := by simp
          go_wp2_with (at_builtin; refine wpList_append_run rfl _ _ rfl rfl rfl rfl R2.out ?_)
          go_roundw
          case rel => exact ⟨k + 1, by omega, by go_num, by rw [HT.out, HE.out], G2.out, by rw [HT.out, HE.out]; exact owns_n O2.out (by simp)⟩
          case measure => simp [Go.RowKit.intOf]; omega
        · have b1 : (y == x) = false := by simp [h2]
          go_wp2_with (at_builtin; refine wpList_append_run rfl _ _ rfl rfl rfl rfl R2.out ?_)
          go_roundw
          case rel => exact ⟨k + 1, by omega, by go_num, by rw [HT.out, HE.out], G2.out, by rw [HT.out, HE.out]; exact owns_n O2.out (by simp)⟩
          case measure => simp [Go.RowKit.intOf]; omega
    · have hE : putP x zs = (out, d) := by
        have := HS.out
        rwa [List.take_of_length_le (by have := hl.out; omega)] at this
      cases d
      · obtain ⟨a2, c2, w2, r2, o2, g2⟩ := appOne x ho (by omega) hg
        have HF : Hid (putF zs x = out ++ [x]) := Lib.hid (by simp [putF, hE])
        have R2 := Lib.hid r2
        have O2 := Lib.hid o2
        have G2 := Lib.hid g2
        clear r2 o2 g2 ho hg hE HS
        go_wp2_with (at_builtin; refine wpList_append_run rfl _ _ rfl rfl rfl rfl R2.out ?_)
        go_ret
        rw [HF.out]
        exact ⟨a2, c2, by simp, owns_n (by simpa using O2.out) (by simp), G2.out⟩
      · have HF : Hid (putF zs x = out) := Lib.hid (by simp [putF, hE])
        have O2 := Lib.hid ho
        have G2 := Lib.hid hg
        clear ho hg hE HS
        go_wp2
        go_ret
        rw [HF.out]
        exact ⟨oa, oc, rfl, O2.out, G2.out⟩

/-- A test that leaves the world. -/
def RetT (b : Bool) (w : World) (e : Ending) (w' : World) : Prop := e = .returned (.bool b) ∧ w = w'
theorem l6Has (a : Option Addr) (n cap : Nat) (zs : List Int) (x : Int) (w : World) (hr : Rd w a n 1 (ints .i64 zs)) (hn : n ≤ 9223372036854775807) :
    Calls Tryz.prog 73 #[.slice a n cap, .int .i64 x] w (RetT (decide (x ∈ zs)) w) := by
  have HL := Lib.hid hr.len1
  have HR := Lib.hid hr; clear hr
  go_enter Tryz.func73, Tryz.ntmps73
  go_wp2
  go_loop [5] (fun i => ∃ k : Nat, k ≤ n ∧ i = .int .i64 k ∧ ¬ x ∈ zs.take k) (fun i => n - (Go.RowKit.intOf i).toNat)
  case atStart => exact ⟨0, Nat.zero_le _, rfl, by simp⟩
  case round =>
    obtain ⟨k, hk, rfl, hall⟩ := hrel
    have HA := Lib.hid hall; clear hall
    by_cases hlt : k < n
    · obtain ⟨b, off, z0, rfl, hx, c0⟩ := HR.out.at1 hlt
      have HX := Lib.hid hx; clear hx
      by_cases hq : z0 = x
      · subst hq
        have b1 : (z0 == z0) = true := by simp
        go_wp2
        go_ret
        rw [decide_eq_true (List.mem_of_getElem? HX.out)]
        exact ⟨rfl, rfl⟩
      · have b1 : (z0 == x) = false := by simp [hq]
        have HQ := Lib.hid hq; clear hq
        go_wp2
        go_round
        case rel =>
          refine ⟨k + 1, by omega, by go_num, fun hz => ?_⟩
          rw [take_get HX.out] at hz
          rcases List.mem_append.1 hz with hz | hz
          · exact HA.out hz
          · exact HQ.out (List.mem_singleton.1 hz).symm
        case measure => simp [Go.RowKit.intOf]; omega
    · go_wp2
      go_ret
      have hno : ¬ x ∈ zs := by
        have := HA.out
        rwa [List.take_of_length_le (by have := HL.out; omega)] at this
      rw [decide_eq_false hno]
      exact ⟨rfl, rfl⟩

theorem putA_scomp (ns : List Int) : putA [] ns = scomp ns := by
  obtain ⟨h1, h2⟩ := putA_spec ns [] List.Pairwise.nil
  exact srt_ext h1 (scomp_srt ns) fun x => by rw [h2, scomp_mem]; simp
theorem putA_len (ns : List Int) : ∀ l : List Int, (putA l ns).length ≤ l.length + 2 * ns.length := by
  induction ns with
  | nil => intro l; simp [putA]
  | cons n ns ih =>
    intro l
    have h1 := ih (putF l n)
    have h2 := putF_len l n
    rw [show putA l (n :: ns) = putA (putF l n) ns from rfl, List.length_cons]
    omega
end Go.Proofs.YtdddhnepanjmfaaGreat
