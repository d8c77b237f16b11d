/- Lemmas and walks of this proof, some texts one behind the other. No condition. -/
import Derived.Test.YtnjoofpllhbccaaGreatRs
set_option linter.unusedSimpArgs false
set_option linter.unusedVariables false
/- The order of the parts: GrfOrder on both sides. No condition. -/
namespace Go.Proofs.YtnjoofpllhbccaaGreat
open Go.RowKit
set_option linter.unusedVariables false
set_option linter.unusedSimpArgs false
attribute [local go_sem] ext_cell ext_frozen ext_lt ext_le ext_le1 lt_s2 lt_s3 lt_s4 lt_s5 lt_s6 ext_lt1 ext_lt2 ext_lt3

/-- Two rows of different types are different blocks. -/
theorem own_neX {w : World} {B1 B2 s1 s2 n1 n2 : Nat} {e1 e2 : TypeId} {v1 v2 : Value} {xs1 xs2 : List Value} (h1 : w.ownsRow B1 e1 s1 v1 n1 xs1) (h2 : w.ownsRow B2 e2 s2 v2 n2 xs2) (hne : e1 ≠ e2) {b : Nat} (hb1 : v1.ownBlock = some b) (hb2 : v2.ownBlock = some b) : False := by
  rcases h1.2 with ⟨rfl, _⟩ | ⟨g1, cap1, cur1, rfl, _, k1, _⟩
  · cases hb1
  rcases h2.2 with ⟨rfl, _⟩ | ⟨g2, cap2, cur2, rfl, _, k2, _⟩
  · cases hb2
  simp only [Value.ownBlock, Option.some.injEq] at hb1 hb2
  subst hb1
  subst hb2
  rw [k1] at k2
  simp only [Option.some.injEq, Obj.cells.injEq] at k2
  exact hne k2.2.1
theorem bool_one (zs : List Bool) : ∀ u ∈ bools zs, u.oneCell' = true := by
  intro u hu
  simp only [bools, List.mem_map] at hu
  obtain ⟨b, _, rfl⟩ := hu
  rfl
/-- One truth is put behind a row of the call's own. -/
theorem appOneB {w W : World} {vs : List Bool} {n : Nat} {a1 : Option Addr} {c1 : Nat} (z : Bool) (h1 : W.ownsRow w.heap.size 4 1 (.slice a1 n c1) n (bools vs)) (h2 : n ≤ 1048580) (h3 : Grew w W) :
    ∃ a2 c2 W2, (Builtin.append_ #[38, 38] 38 #[.slice a1 n c1, .slice (some ⟨W.heap.size, 0, none⟩) 1 1]).run Tryz.prog (W.alloc (.cells #[.bool z] 4)) = .ok (.slice a2 (n + 1) c2) W2 ∧ W2.ownsRow w.heap.size 4 1 (.slice a2 (n + 1) c2) (n + 1) (bools (vs ++ [z])) ∧ Chg (fun b => (Value.slice a1 n c1).ownBlock = some b) W W2 ∧ ((Value.slice a2 (n + 1) c2).ownBlock = (Value.slice a1 n c1).ownBlock ∨ (Value.slice a2 (n + 1) c2).ownBlock = some (W.heap.size + 1)) := by
  obtain ⟨v3, w3, hrun3, o3, g3, hv⟩ := owns_append_lit (P := Tryz.prog) W boolEl h1 1 [.bool z] rfl (by simp [Value.oneCell']) (by omega) (by omega) h3.size
  obtain ⟨a2, c2, rfl⟩ := owns_slice o3
  refine ⟨a2, c2, w3, hrun3, by rw [bools_append]; exact o3, Chg.of_grownBy g3, hv⟩
/-- A list's own length, out of its value. -/
def lenV : Value → Nat
  | .slice _ n _ => n
  | _ => 0

/-- GrfOrder. -/
def grfOrder (ps : List Prc) : List Int := (ordN (cOf' (csOf ps)) (grfParts ps) (grfParts ps).length).2
theorem ordN_done (c : Int → List Int) (parts : List (List Int)) : ∀ j, (ordN c parts j).1.length = parts.length
  | 0 => by simp [ordN]
  | j + 1 => by simp [ordN, ordS, ordN_done c parts j]
theorem ordN_out (c : Int → List Int) (parts : List (List Int)) : ∀ j, (ordN c parts j).2.length = j
  | 0 => by simp [ordN]
  | j + 1 => by simp [ordN, ordS, ordN_out c parts j]
theorem grfOrder_len (ps : List Prc) : (grfOrder ps).length ≤ 10 := by
  unfold grfOrder
  rw [ordN_out]
  have := (grfParts_bd ps).1
  omega
theorem ordN_next {c : Int → List Int} {parts : List (List Int)} {j : Nat} {x : Int} {t : List Int} (h : readyL c parts (ordN c parts j).1 = x :: t) : ordN c parts (j + 1) = ((ordN c parts j).1.set x.toNat true, (ordN c parts j).2 ++ [x]) := by
  rw [ordN, ordS, h]
  rfl
theorem ready_bd {c : Int → List Int} {parts : List (List Int)} {done : List Bool} : ∀ x, x ∈ readyL c parts done → 0 ≤ x ∧ x < parts.length := fun x hx => by
  obtain ⟨k, rfl, hk, _⟩ := (readyL_mem _ _ _ _).1 hx
  omega
theorem replicate_snoc (k : Nat) : List.replicate k false ++ [false] = List.replicate (k + 1) false := (List.replicate_succ' ..).symm
end Go.Proofs.YtnjoofpllhbccaaGreat

/- The order of the parts, the program's side. No condition. -/
namespace Go.Proofs.YtnjoofpllhbccaaGreat
open Go.RowKit
set_option linter.unusedVariables false
set_option linter.unusedSimpArgs false
attribute [local go_sem] ext_cell ext_frozen ext_lt ext_le ext_le1 lt_s2 lt_s3 lt_s4 lt_s5 lt_s6 ext_lt1 ext_lt2 ext_lt3

theorem made_bools (n : Nat) : (madeCells (Value.bool false).cells n).toList = bools (List.replicate n false) := by
  have h : (Value.bool false).cells = #[.bool false] := rfl
  rw [h]
  apply List.ext_getElem
  · simp [madeCells, bools]
  · intro i h1 h2
    simp [madeCells, bools, Nat.mod_one]
set_option maxRecDepth 100000 in
set_option maxHeartbeats 4000000 in
theorem implGrfOrder (a : Option Addr) (n cap : Nat) (ps : List Prc) (w : World) (hr : RdP w a n ps) (hn : n ≤ 9223372036854775807) :
    Calls Tryz.prog 20 #[.agg #[.slice a n cap]] w (RetIs (grfOrder ps) w) := by
  have hl := hr.len
  cases hB : prgOkB ps
  · have HC := Lib.hid (fun W (g : Grew w W) => readGraphNo a n cap ps W (hr.grew g) hn hB)
    have HE := Lib.hid (show grfOrder ps = [] from by
      have : grfParts ps = [] := by rw [grfParts, if_neg (by simp [hB])]
      rw [grfOrder, this]
      rfl)
    clear hB hr hl
    go_enter Tryz.func20, Tryz.ntmps20
    go_wp2_with fail
    refine (HC.out _ (by repeat (first | with_reducible exact Below.refl _ _ | with_reducible assumption | with_reducible apply grew_ext | with_reducible apply grew_al | with_reducible apply grew_dn | with_reducible apply grew_d | (with_reducible refine grew_set ?_ (by first | omega | (repeat (first | with_reducible exact Nat.le_refl _ | with_reducible apply le_pl | with_reducible apply le_ext | with_reducible apply le_al))) _)))).mono ?_
    rintro e w1 ⟨rfl, g1⟩
    go_wp2
    go_ret
    rw [HE.out]
    exact retIs_nil (grew_tr (by repeat (first | with_reducible exact Below.refl _ _ | with_reducible assumption | with_reducible apply grew_ext | with_reducible apply grew_al | with_reducible apply grew_dn | with_reducible apply grew_d | (with_reducible refine grew_set ?_ (by first | omega | (repeat (first | with_reducible exact Nat.le_refl _ | with_reducible apply le_pl | with_reducible apply le_ext | with_reducible apply le_al))) _))) g1)
  · have HC := Lib.hid (fun W (g : Grew w W) => readGraphYes a n cap ps W (hr.grew g) hn hB)
    have hpt : grfParts ps = ptOf ps := by rw [grfParts, if_pos hB]
    have hbd := grfParts_bd ps
    rw [hpt] at hbd
    have h4 := hbd.1
    have hok := gok_of hB
    have hn0 : 0 < (csOf ps).length := by rw [csOf_len]; have := prg_len hB; omega
    have hpe : ptOf ps = partsL (cOf' (csOf ps)) (csOf ps).length := by rw [ptOf, csOf_len]
    have HInv := Lib.hid (fun j (hj : j ≤ (ptOf ps).length) => by
      have h := ord_inv hok hn0 j (by rw [← hpe]; exact hj)
      rw [← hpe] at h
      exact h)
    have HEnd := Lib.hid (show readyL (cOf' (csOf ps)) (ptOf ps) (ordN (cOf' (csOf ps)) (ptOf ps) (ptOf ps).length).1 = [] from by
      have h := ord_end hok hn0
      rw [← hpe] at h
      exact h)
    have HE := Lib.hid (show grfOrder ps = (ordN (cOf' (csOf ps)) (ptOf ps) (ptOf ps).length).2 from by rw [grfOrder, hpt])
    have HN := Lib.hid (fun gb (da : Option Addr) (dc : Nat) (done : List Bool) W (h : GrR W gb (csOf ps) (ptOf ps)) (hd : Rd W da (ptOf ps).length 1 (bools done)) => implReady gb (csOf ps) (ptOf ps) da (ptOf ps).length dc done W h hd rfl hbd.1 hbd.2 (parts_in hB) (by rw [csOf_len]; exact (prg_len hB).2) (fun l hl => by
      obtain ⟨j, hj, rfl⟩ := List.mem_iff_getElem.1 hl
      have := cs_len hB (j : Int)
      simpa [cOf', hj] using this))
    have HBD := Lib.hid (fun done => @ready_bd (cOf' (csOf ps)) (ptOf ps) done)
    have HRL := Lib.hid (fun done => readyL_len (cOf' (csOf ps)) (ptOf ps) done)
    have HNX := Lib.hid (fun j x t h => @ordN_next (cOf' (csOf ps)) (ptOf ps) j x t h)
    have HO0 := Lib.hid (show ordN (cOf' (csOf ps)) (ptOf ps) 0 = (List.replicate (ptOf ps).length false, []) from rfl)
    have HDn := Lib.hid (fun j => ordN_done (cOf' (csOf ps)) (ptOf ps) j)
    have HOut := Lib.hid (fun j => ordN_out (cOf' (csOf ps)) (ptOf ps) j)
    obtain ⟨O, hO⟩ : ∃ O, ordN (cOf' (csOf ps)) (ptOf ps) = O := ⟨_, rfl⟩
    obtain ⟨RL, hRL⟩ : ∃ RL, readyL (cOf' (csOf ps)) (ptOf ps) = RL := ⟨_, rfl⟩
    rw [hRL] at HInv HEnd HN HBD HRL HNX
    rw [hO] at HInv HEnd HE HNX HO0 HDn HOut
    obtain ⟨S, hS⟩ : ∃ S, ptOf ps = S := ⟨_, rfl⟩
    rw [hS] at HInv HEnd HE HN HC HBD HRL HO0 HDn h4
    obtain ⟨CS, hCS⟩ : ∃ CS, csOf ps = CS := ⟨_, rfl⟩
    rw [hCS] at HN HC
    clear hr hl hB hpt hbd hS hok hn0 hpe hO hRL hCS
    go_enter Tryz.func20, Tryz.ntmps20
    go_wp2_with fail
    refine (HC.out _ (by repeat (first | with_reducible exact Below.refl _ _ | with_reducible assumption | with_reducible apply grew_ext | with_reducible apply grew_al | with_reducible apply grew_dn | with_reducible apply grew_d | (with_reducible refine grew_set ?_ (by first | omega | (repeat (first | with_reducible exact Nat.le_refl _ | with_reducible apply le_pl | with_reducible apply le_ext | with_reducible apply le_al))) _)))).mono ?_
    rintro e w1 ⟨gb, rfl, hg, g1⟩
    have hrd := hg.rd
    obtain ⟨pa, pc, q2, -⟩ := hrd.p
    have HR := Lib.hid hrd
    have HG1 := Lib.hid (grew_tr (show Grew w (w.alloc (.cells #[.slice a n cap] 25)) from grew_al (Below.refl _ _) _) g1)
    clear hg g1 hrd
    obtain ⟨i0, hi, hz0, hz1, hz2⟩ := info_parts boolInfo
    obtain ⟨w2, hmk, hown, hgr⟩ := run_make_full (P := Tryz.prog) w1 w1.heap.size 38 4 i0 (.bool false) 1 Tryz.underlying38 hi hz0 hz1 .i64 .i64 S.length (by rw [hz2]; omega) (by unfold maxLen; omega) (Nat.le_refl _)
    have HB2 := Lib.hid (Below.of_grownBy hgr (Nat.le_refl _) (fun k e => nomatch e)); clear hgr
    have HD2 := Lib.hid (show w2.ownsRow w1.heap.size 4 1 (.slice (some ⟨w1.heap.size, 0, none⟩) S.length S.length) S.length (bools (O 0).1) from by rw [HO0.out, ← made_bools]; simpa using hown)
    clear hown hi hz0 hz1 hz2
    go_wp2_with fail
    refine (HN.out gb _ _ (O 0).1 _ (HR.out.grew HB2.out) (owns_rd HD2.out)).mono ?_
    rintro e w3 ⟨A3, c3, rfl, o3, g3⟩
    have HL3 := Lib.hid (owns_mono o3 HB2.out.size)
    have HD3 := Lib.hid (owns_grew HD2.out g3)
    have HB3 := Lib.hid (grew_tr HB2.out g3)
    clear o3 g3 hmk
    go_wp2
    go_loopw [6, 7] (fun v l wr => ∃ j : Nat, j ≤ S.length ∧ Grew w1 wr ∧ wr.ownsRow w1.heap.size 4 1 (.slice (some ⟨w1.heap.size, 0, none⟩) S.length S.length) S.length (bools (O j).1) ∧ wr.ownsRow w1.heap.size 3 1 v j (ints .i64 (O j).2) ∧ wr.ownsRow w1.heap.size 3 1 l (RL (O j).1).length (ints .i64 (RL (O j).1))) (fun v _ _ => S.length - lenV v)
    case atStart => exact ⟨0, Nat.zero_le _, HB3.out, HD3.out, by rw [HO0.out]; exact World.ownsRow_nil _ _ _ _, HL3.out⟩
    case round =>
      obtain ⟨j, hj, hg, hd, ho, hll⟩ := hrel
      obtain ⟨oa, oc, rfl⟩ := owns_slice ho
      obtain ⟨la, lc, rfl⟩ := owns_slice hll
      by_cases hlt : j < S.length
      · have hne := (HInv.out j hj).2.2.2 hlt
        have hrl := HRL.out (O j).1
        have hbd := HBD.out (O j).1
        obtain ⟨x, t, hxt⟩ : ∃ x t, RL (O j).1 = x :: t := by
          cases h : RL (O j).1 with
          | nil => exact absurd h hne
          | cons x t => exact ⟨x, t, rfl⟩
        have hnx := HNX.out j x t hxt
        rw [hxt] at hll hrl hbd ⊢
        obtain ⟨hx0, hx1⟩ := hbd x (by simp)
        obtain ⟨k, rfl⟩ := Int.eq_ofNat_of_zero_le hx0
        obtain ⟨lb, loff, x', rfl, hx', hcl⟩ := (owns_rd hll).at1 (show 0 < ((k : Int) :: t).length from by simp)
        obtain rfl : (k : Int) = x' := by simpa using hx'
        have hcl0 : wr.cell? ⟨lb, loff, none⟩ = some (.int .i64 (k : Int)) := by simpa using hcl
        have hcd := hd.cellAt k (by omega)
        have hfd := hd.frozenAt k
        have hdl := HDn.out j
        obtain ⟨y, hy⟩ : ∃ y, (bools (O j).1)[k]? = some y := ⟨(bools (O j).1)[k]'(by rw [bools_length]; omega), List.getElem?_eq_getElem _⟩
        rw [hy] at hcd
        obtain ⟨hd2, hgd⟩ := hd.stored k (.bool true)
        have hcg : Chg (fun b => (Value.slice (some ⟨w1.heap.size, 0, none⟩) S.length S.length).ownBlock = some b) wr (wr.setCell ⟨w1.heap.size, k, none⟩ (.bool true)) := Chg.of_grownBy hgd
        have ho2 := owns_chg ho hcg (fun b hb e => own_neX ho hd (by decide) hb e)
        have hl2 := owns_chg hll hcg (fun b hb e => own_neX hll hd (by decide) hb e)
        have hg2 : Grew w1 (wr.setCell ⟨w1.heap.size, k, none⟩ (.bool true)) := hg.trans (hcg.belowB hg.size (fun i e => by simp only [Value.ownBlock, Option.some.injEq] at e; omega))
        obtain ⟨a4, c4, w4, r4, o4, k4, v4⟩ := appOneC (k : Int) ho2 (by omega) hg2.size
        have hd4 := owns_chg hd2 k4 (fun b hb e => own_neX hd2 ho2 (by decide) hb e)
        have hg4 := hg2.trans (k4.belowB hg2.size (fun i e => (ho2.lt i e).1))
        rw [bools_set] at hd4
        have e1 : (O (j + 1)).1 = (O j).1.set k true := by rw [hnx]; rfl
        have e2 : (O (j + 1)).2 = (O j).2 ++ [(k : Int)] := by rw [hnx]
        rw [← e1] at hd4
        rw [← e2] at o4
        have CN := Lib.hid (HN.out gb _ S.length (O (j + 1)).1 w4 (HR.out.grew hg4) (owns_rd hd4))
        have hcl2 : (wr.setCell ⟨w1.heap.size, k, none⟩ (.bool true)).cell? ⟨lb, loff, none⟩ = some (.int .i64 (k : Int)) := by
          obtain ⟨lb', loff', x2, e, hx2, hc2⟩ := (owns_rd hl2).at1 (show 0 < ((k : Int) :: t).length from by simp)
          obtain ⟨rfl, rfl⟩ : lb' = lb ∧ loff' = loff := by simpa [eq_comm] using e
          obtain rfl : (k : Int) = x2 := by simpa using hx2
          simpa using hc2
        simp only [World.size_alloc, World.size_setCell] at r4
        have HR4 := Lib.hid r4
        have HO4 := Lib.hid o4
        have HD4 := Lib.hid hd4
        have HG4 := Lib.hid hg4
        have hlen : 0 < ((k : Int) :: t).length := by simp
        have hlen2 : decide ((((k : Int) :: t).length : Int) > 0) = true := by simp
        obtain ⟨LL, hLL⟩ : ∃ LL : Nat, ((k : Int) :: t).length = LL := ⟨_, rfl⟩
        rw [hLL] at hlen hlen2 ⊢
        have hk1 : k < S.length := by omega
        clear hll hrl hbd hnx hxt hne hx' hd hd2 hgd hcg ho ho2 hl2 hg hg2 r4 o4 k4 v4 hd4 hg4 e1 e2 hy hLL hcl hx0 hx1 hdl
        go_wp2_with (at_builtin; refine wpList_append_run rfl _ _ rfl rfl rfl rfl HR4.out ?_; clear HR4)
        refine CN.out.mono ?_
        rintro e w5 ⟨A5, c5, rfl, o5, g5⟩
        have HL5 := Lib.hid (owns_mono o5 HG4.out.size)
        have HD5 := Lib.hid (owns_grew HD4.out g5)
        have HO5 := Lib.hid (owns_grew HO4.out g5)
        have HG5 := Lib.hid (grew_tr HG4.out g5)
        clear o5 g5 hcl0 hcl2 hcd hfd
        go_wp2
        go_roundw
        case rel => exact ⟨j + 1, by omega, HG5.out, HD5.out, HO5.out, HL5.out⟩
        case measure => simp only [lenV]; omega
      · obtain rfl : j = S.length := by omega
        have hz : (RL (O S.length).1).length = 0 := by rw [HEnd.out]; rfl
        have HO5 := Lib.hid ho
        have HG5 := Lib.hid (grew_tr HG1.out hg)
        have hof := HOut.out S.length
        have HS1 := HG1.out.size
        rw [hz]
        clear ho hg hd hll
        go_wp2
        go_ret
        rw [HE.out]
        refine ⟨oa, oc, ?_, ?_, HG5.out⟩
        · rw [hof]
          rfl
        · rw [hof]
          exact owns_mono HO5.out HS1
end Go.Proofs.YtnjoofpllhbccaaGreat

/- The order of the parts, the reference's side. No condition. -/
namespace Go.Proofs.YtnjoofpllhbccaaGreat
open Go.RowKit
set_option linter.unusedVariables false
set_option linter.unusedSimpArgs false
attribute [local go_sem] ext_cell ext_frozen ext_lt ext_le ext_le1 lt_s2 lt_s3 lt_s4 lt_s5 lt_s6 ext_lt1 ext_lt2 ext_lt3

theorem appOneD {W : World} {B : Nat} {vs : List Bool} {n : Nat} {a1 : Option Addr} {c1 : Nat} (z : Bool) (h1 : W.ownsRow B 4 1 (.slice a1 n c1) n (bools vs)) (h2 : n ≤ 1048580) (h3 : B ≤ W.heap.size) :
    ∃ a2 c2 W2, (Builtin.append_ #[38, 38] 38 #[.slice a1 n c1, .slice (some ⟨W.heap.size, 0, none⟩) 1 1]).run Tryz.prog (W.alloc (.cells #[.bool z] 4)) = .ok (.slice a2 (n + 1) c2) W2 ∧ W2.ownsRow B 4 1 (.slice a2 (n + 1) c2) (n + 1) (bools (vs ++ [z])) ∧ Chg (fun b => (Value.slice a1 n c1).ownBlock = some b) W W2 := by
  obtain ⟨v3, w3, hrun3, o3, g3, hv⟩ := owns_append_lit (P := Tryz.prog) W boolEl h1 1 [.bool z] rfl (by simp [Value.oneCell']) (by omega) (by omega) h3
  obtain ⟨a2, c2, rfl⟩ := owns_slice o3
  exact ⟨a2, c2, w3, hrun3, by rw [bools_append]; exact o3, Chg.of_grownBy g3⟩

theorem blk_neR {w : World} {g base size n : Nat} {t e : TypeId} {cs : Array Value} {v : Value} {xs : List Value} (h : Blk w g t cs) (ho : w.ownsRow base e size v n xs) (hne : t ≠ e) : v.ownBlock ≠ some g := by
  intro hb
  rcases ho.2 with ⟨rfl, _⟩ | ⟨g', cap, cur, rfl, _, h3, _⟩
  · cases hb
  simp only [Value.ownBlock, Option.some.injEq] at hb
  subst hb
  have h1 : w.heap[g']? = _ := h
  rw [h1] at h3
  simp only [Option.some.injEq, Obj.cells.injEq] at h3
  exact hne h3.2.1

set_option maxRecDepth 100000 in
set_option maxHeartbeats 4000000 in
theorem specGrfOrder (a : Option Addr) (n cap : Nat) (ps : List Prc) (w : World) (hr : RdP w a n ps) (hn : n ≤ 9223372036854775807) :
    Calls Tryz.prog 21 #[.agg #[.slice a n cap]] w (RetIs (grfOrder ps) w) := by
  have HC := Lib.hid (fun W (g : Grew w W) => specGrfParts a n cap ps W (hr.grew g) hn)
  have h4 := (grfParts_bd ps).1
  have HInv := Lib.hid (fun (j : Nat) (hj : j < (grfParts ps).length) => show readyL (cOf' (csOf ps)) (grfParts ps) (ordN (cOf' (csOf ps)) (grfParts ps) j).1 ≠ [] from by
    have hB := (parts_ok (by omega : 0 < (grfParts ps).length)).1
    have hpe := (parts_ok (by omega : 0 < (grfParts ps).length)).2
    have hok := gok_of hB
    have hn0 : 0 < (csOf ps).length := by rw [csOf_len]; have := prg_len hB; omega
    have h := ord_inv hok hn0 j (by rw [← hpe]; omega)
    rw [← hpe] at h
    exact h.2.2.2 hj)
  have HE := Lib.hid (show grfOrder ps = (ordN (cOf' (csOf ps)) (grfParts ps) (grfParts ps).length).2 from rfl)
  have HN := Lib.hid (fun (da : Option Addr) (dc : Nat) (done : List Bool) (hdl : done.length = (grfParts ps).length) W (g : Grew w W) (hd : Rd W da (grfParts ps).length 1 (bools done)) => by
    have h := specGrfReady a n cap ps da (grfParts ps).length dc done W (hr.grew g) hn hd
    rw [grfReady, if_pos hdl] at h
    exact h)
  have HBD := Lib.hid (fun done => @ready_bd (cOf' (csOf ps)) (grfParts ps) done)
  have HRL := Lib.hid (fun done => readyL_len (cOf' (csOf ps)) (grfParts ps) done)
  have HNX := Lib.hid (fun j x t h => @ordN_next (cOf' (csOf ps)) (grfParts ps) j x t h)
  have HO0 := Lib.hid (show ordN (cOf' (csOf ps)) (grfParts ps) 0 = (List.replicate (grfParts ps).length false, []) from rfl)
  have HDn := Lib.hid (fun j => ordN_done (cOf' (csOf ps)) (grfParts ps) j)
  have HOut := Lib.hid (fun j => ordN_out (cOf' (csOf ps)) (grfParts ps) j)
  obtain ⟨O, hO⟩ : ∃ O, ordN (cOf' (csOf ps)) (grfParts ps) = O := ⟨_, rfl⟩
  obtain ⟨RL, hRL⟩ : ∃ RL, readyL (cOf' (csOf ps)) (grfParts ps) = RL := ⟨_, rfl⟩
  rw [hRL] at HInv HN HBD HRL HNX
  rw [hO] at HInv HE HNX HO0 HDn HOut
  obtain ⟨S, hS⟩ : ∃ S, grfParts ps = S := ⟨_, rfl⟩
  rw [hS] at HInv HE HN HC HBD HRL HO0 HDn h4
  clear hr hS hO hRL
  go_enter Tryz.func21, Tryz.ntmps21
  go_wp2_with fail
  refine (HC.out _ (by repeat (first | with_reducible exact Below.refl _ _ | with_reducible assumption | with_reducible apply grew_ext | with_reducible apply grew_al | with_reducible apply grew_dn | with_reducible apply grew_d | (with_reducible refine grew_set ?_ (by first | omega | (repeat (first | with_reducible exact Nat.le_refl _ | with_reducible apply le_pl | with_reducible apply le_ext | with_reducible apply le_al))) _)))).mono ?_
  rintro e w1 ⟨pa, pc, ms, rfl, o1, hms, g1⟩
  have HG1 := Lib.hid (show Grew w w1 from grew_tr (by repeat (first | with_reducible exact Below.refl _ _ | with_reducible assumption | with_reducible apply grew_ext | with_reducible apply grew_al | with_reducible apply grew_dn | with_reducible apply grew_d | (with_reducible refine grew_set ?_ (by first | omega | (repeat (first | with_reducible exact Nat.le_refl _ | with_reducible apply le_pl | with_reducible apply le_ext | with_reducible apply le_al))) _))) g1)
  have HB1 := Lib.hid (show Blk w1 w.heap.size 25 #[.slice a n cap] from ((Blk.new w _ _).alloc _).grew g1)
  have H0 := Lib.hid (show w1.ownsRow (w.heap.size + 1) 3 1 (.slice (some ⟨w.heap.size + 1, 0, none⟩) 0 0) 0 (ints .i64 []) from owns_grew (by
    simpa [ints] using World.ownsRow_lit (w.alloc (.cells #[.slice a n cap] 25)) (e := 3) (size := 1) #[] 0 (base := w.heap.size + 1) (by simp) (Nat.zero_le _) rfl) g1)
  have hs1 := g1.size
  simp only [World.size_alloc] at hs1
  have HD0 := Lib.hid (show (w1.alloc (.cells #[] 4)).ownsRow (w.heap.size + 1) 4 1 (.slice (some ⟨w1.heap.size, 0, none⟩) 0 0) 0 (bools (List.replicate 0 false)) from by
    simpa [bools] using World.ownsRow_lit w1 (e := 4) (size := 1) #[] 0 (base := w.heap.size + 1) (by omega) (Nat.zero_le _) rfl)
  clear o1 hms g1
  go_wp2
  go_loopw [5, 6] (fun v i wr => ∃ k : Nat, k ≤ S.length ∧ i = .int .i64 k ∧ Grew w wr ∧ Blk wr w.heap.size 25 #[.slice a n cap] ∧ wr.ownsRow (w.heap.size + 1) 3 1 (.slice (some ⟨w.heap.size + 1, 0, none⟩) 0 0) 0 (ints .i64 []) ∧ wr.ownsRow (w.heap.size + 1) 4 1 v k (bools (List.replicate k false))) (fun _ i _ => S.length - (Go.RowKit.intOf i).toNat)
  case atStart => exact ⟨0, Nat.zero_le _, rfl, grew_al HG1.out _, HB1.out.alloc _, owns_grew H0.out (grew_al (Below.refl _ _) _), HD0.out⟩
  case round =>
    clear H0 HD0 HB1
    obtain ⟨k, hk, rfl, hg, hb, ho, hd⟩ := hrel
    obtain ⟨da, dc, rfl⟩ := owns_slice hd
    by_cases hlt : k < S.length
    · have hgs := hg.size
      have hbl := hb.lt
      obtain ⟨a4, c4, w4, r4, o4, k4⟩ := appOneD false hd (by omega) (by omega)
      have ho4 := Lib.hid (owns_chg ho k4 (fun b hb e => own_neX ho hd (by decide) hb e))
      have hb4 := Lib.hid (hb.chg k4 (blk_neR hb hd (by decide)))
      have hg4 := Lib.hid (hg.trans (k4.belowB hg.size (fun i e => by have := (hd.lt i e).1; omega)))
      rw [replicate_snoc] at o4
      have HR4 := Lib.hid r4
      have HO4 := Lib.hid o4
      clear hg hb ho hd r4 o4 k4
      go_wp2_with (at_builtin; refine wpList_append_run rfl _ _ rfl rfl rfl rfl HR4.out ?_; clear HR4)
      go_roundw
      case rel => exact ⟨k + 1, by omega, by go_num, hg4.out, hb4.out, ho4.out, HO4.out⟩
      case measure => simp [Go.RowKit.intOf]; omega
    · obtain rfl : k = S.length := by omega
      have HG := Lib.hid hg
      have HB := Lib.hid hb
      have HO := Lib.hid ho
      have HD := Lib.hid (show wr.ownsRow (w.heap.size + 1) 4 1 (.slice da S.length dc) S.length (bools (O 0).1) from by rw [HO0.out]; exact hd)
      clear hg hb ho hd
      go_wp2
      go_loopw [3, 7] (fun v i wr => ∃ j : Nat, j ≤ S.length ∧ i = .int .i64 j ∧ Grew w wr ∧ Blk wr w.heap.size 25 #[.slice a n cap] ∧ wr.ownsRow (w.heap.size + 1) 3 1 v j (ints .i64 (O j).2) ∧ wr.ownsRow (w.heap.size + 1) 4 1 (.slice da S.length dc) S.length (bools (O j).1)) (fun _ i _ => S.length - (Go.RowKit.intOf i).toNat)
      case atStart => exact ⟨0, Nat.zero_le _, rfl, HG.out, HB.out, by rw [HO0.out]; exact HO.out, HD.out⟩
      case round =>
        clear HG HB HO HD
        obtain ⟨j, hj, rfl, hg, hb, ho, hd⟩ := hrel
        obtain ⟨oa, oc, rfl⟩ := owns_slice ho
        have hgs := hg.size
        have hbl := hb.lt
        have p0 : wr.cell? ⟨w.heap.size, 0, none⟩ = some (.slice a n cap) := hb.cell 0
        by_cases hlt : j < S.length
        · have hne := HInv.out j hlt
          have CN := Lib.hid (HN.out da dc (O j).1 (HDn.out j) wr hg (owns_rd hd))
          have hrl := HRL.out (O j).1
          have hbd := HBD.out (O j).1
          obtain ⟨x, t, hxt⟩ : ∃ x t, RL (O j).1 = x :: t := by
            cases h : RL (O j).1 with
            | nil => exact absurd h hne
            | cons x t => exact ⟨x, t, rfl⟩
          have hnx := HNX.out j x t hxt
          rw [hxt] at hrl hbd CN
          obtain ⟨hx0, hx1⟩ := hbd x (by simp)
          obtain ⟨k, rfl⟩ := Int.eq_ofNat_of_zero_le hx0
          obtain ⟨db, rfl⟩ : ∃ db, da = some ⟨db, 0, none⟩ := by
            rcases hd.2 with ⟨h1, h2⟩ | ⟨g', cap', cur, h1, _⟩
            · omega
            · simp only [Value.slice.injEq] at h1
              exact ⟨g', h1.1⟩
          have HBd := Lib.hid hb
          have HOb := Lib.hid (fun b hb => (ho.lt b hb).2)
          have HOo := Lib.hid ho
          have HDd := Lib.hid hd
          have HGg := Lib.hid hg
          have HNx := Lib.hid hnx
          have hdl := HDn.out j
          clear hg hb ho hd hbd hne hnx hxt
          go_wp2_with fail
          refine CN.out.mono ?_
          rintro e w2 ⟨A2, c2, rfl, o2, g2⟩
          clear CN p0
          have hb2 := HBd.out.grew g2
          have ho2 := owns_grew HOo.out g2
          have hd2 := owns_grew HDd.out g2
          have hg2 := grew_tr HGg.out g2
          clear g2 HBd HOo HDd HGg
          have hs2 := hg2.size
          have hbl2 := hb2.lt
          obtain ⟨lb, loff, x', rfl, hx', hcl⟩ := (owns_rd o2).at1 (show 0 < ((k : Int) :: t).length from by simp)
          obtain rfl : (k : Int) = x' := by simpa using hx'
          have hcl0 : w2.cell? ⟨lb, loff, none⟩ = some (.int .i64 (k : Int)) := by simpa using hcl
          obtain ⟨a4, c4, w4, r4, o4, k4, v4⟩ := appOneC (k : Int) ho2 (by omega) (by omega)
          have hd4 := owns_chg hd2 k4 (fun b hb e => own_neX hd2 ho2 (by decide) hb e)
          have hb4 := hb2.chg k4 (blk_neR hb2 ho2 (by decide))
          have hg4 := hg2.trans (k4.belowB hg2.size (fun i e => by have := (ho2.lt i e).1; omega))
          have o5 := owns_chg o2 k4 (fun b hb e => by have h1 := (o2.lt b hb).1; have h2 := HOb.out b e; omega)
          have hcl4 : w4.cell? ⟨lb, loff, none⟩ = some (.int .i64 (k : Int)) := by
            obtain ⟨lb', loff', x2, e, hx2, hc2⟩ := (owns_rd o5).at1 (show 0 < ((k : Int) :: t).length from by simp)
            obtain ⟨rfl, rfl⟩ : lb' = lb ∧ loff' = loff := by simpa [eq_comm] using e
            obtain rfl : (k : Int) = x2 := by simpa using hx2
            simpa using hc2
          have hcd := hd4.cellAt k (by omega)
          have hfd := hd4.frozenAt k
          obtain ⟨y, hy⟩ : ∃ y, (bools (O j).1)[k]? = some y := ⟨(bools (O j).1)[k]'(by rw [bools_length]; omega), List.getElem?_eq_getElem _⟩
          rw [hy] at hcd
          obtain ⟨hd6, hgd⟩ := hd4.stored k (.bool true)
          have hcg : Chg (fun b => (Value.slice (some ⟨db, 0, none⟩) S.length dc).ownBlock = some b) w4 (w4.setCell ⟨db, k, none⟩ (.bool true)) := Chg.of_grownBy hgd
          have ho6 := owns_chg o4 hcg (fun b hb e => own_neX o4 hd4 (by decide) hb e)
          have hb6 := hb4.chg hcg (blk_neR hb4 hd4 (by decide))
          have hg6 := hg4.trans (hcg.belowB hg4.size (fun i e => by have := (hd4.lt i e).1; omega))
          rw [bools_set] at hd6
          have e1 : (O (j + 1)).1 = (O j).1.set k true := by rw [HNx.out]; rfl
          have e2 : (O (j + 1)).2 = (O j).2 ++ [(k : Int)] := by rw [HNx.out]
          rw [← e1] at hd6
          rw [← e2] at ho6
          try simp only [World.size_alloc, World.size_setCell] at r4
          have HR4 := Lib.hid r4
          have HO6 := Lib.hid ho6
          have HD6 := Lib.hid hd6
          have HG6 := Lib.hid hg6
          have HB6 := Lib.hid hb6
          have hlen : 0 < ((k : Int) :: t).length := by simp
          obtain ⟨LL, hLL⟩ : ∃ LL : Nat, ((k : Int) :: t).length = LL := ⟨_, rfl⟩
          rw [hLL] at hlen ⊢
          have hk1 : k < S.length := by omega
          clear o2 o4 k4 v4 o5 hy hd6 hgd hcg ho6 hb6 hg6 e1 e2 hx' hcl hd2 ho2 hb2 hg2 hd4 hb4 hg4 r4 HNx hLL hx0 hx1 hrl hdl HOb
          go_wp2_with (at_builtin; refine wpList_append_run rfl _ _ rfl rfl rfl rfl HR4.out ?_; clear HR4)
          go_roundw
          case rel => exact ⟨j + 1, by omega, by go_num, HG6.out, HB6.out, HO6.out, HD6.out⟩
          case measure => simp [Go.RowKit.intOf]; omega
        · obtain rfl : j = S.length := by omega
          have HO5 := Lib.hid ho
          have HG5 := Lib.hid hg
          have hof := HOut.out S.length
          clear ho hg hd hb
          go_wp2
          go_ret
          rw [HE.out]
          refine ⟨oa, oc, ?_, ?_, HG5.out⟩
          · rw [hof]
            rfl
          · rw [hof]
            exact owns_mono HO5.out (by omega)
end Go.Proofs.YtnjoofpllhbccaaGreat
