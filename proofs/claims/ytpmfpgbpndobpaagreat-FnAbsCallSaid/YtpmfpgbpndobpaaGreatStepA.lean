/- Lemmas and walks of this proof, some texts one behind the other. No condition. -/
import Derived.Test.YtpmfpgbpndobpaaGreatStN
import Derived.Test.YtpmfpgbpndobpaaGreatHas4
import Derived.Test.YtpmfpgbpndobpaaGreatDrAI
import Derived.Test.YtpmfpgbpndobpaaGreatDrG
import Derived.Test.YtpmfpgbpndobpaaGreatRelI
import Derived.Test.YtpmfpgbpndobpaaGreatPrgOkI
import Derived.Test.YtpmfpgbpndobpaaGreatDoC
import Derived.Test.YtpmfpgbpndobpaaGreatDoE
import Derived.Test.YtpmfpgbpndobpaaGreatKinds
import Derived.Test.YtpmfpgbpndobpaaGreatRegG
import Derived.Test.YtpmfpgbpndobpaaGreatSums
set_option linter.unusedSimpArgs false
set_option linter.unusedVariables false
/- What a relation leaves of two bounds: the reference's side. No condition. -/
namespace Go.Proofs.YtpmfpgbpndobpaaGreat
open Go.RowKit
set_option linter.unusedVariables false
set_option linter.unusedSimpArgs false
attribute [local go_sem] ext_cell ext_frozen ext_lt ext_le ext_le1 lt_s2 lt_s3 lt_s4 lt_s5 lt_s6 ext_lt1 ext_lt2 ext_lt3

def rA (o : Option (Itv × Itv)) : Itv := (o.getD (⟨0, 0⟩, ⟨0, 0⟩)).1
def rB (o : Option (Itv × Itv)) : Itv := (o.getD (⟨0, 0⟩, ⟨0, 0⟩)).2
theorem relV_eq (o : Option (Itv × Itv)) : relV o = .tuple #[(rA o).v, (rB o).v, .bool o.isSome] := by cases o <;> rfl
theorem rA_swap (o : Option (Itv × Itv)) : rA (swapI o) = rB o := by cases o <;> rfl
theorem rB_swap (o : Option (Itv × Itv)) : rB (swapI o) = rA o := by cases o <;> rfl
theorem some_swap (o : Option (Itv × Itv)) : (swapI o).isSome = o.isSome := by cases o <;> rfl
end Go.Proofs.YtpmfpgbpndobpaaGreat

/- What the contrary of a relation leaves of two bounds: both sides. No condition. -/
namespace Go.Proofs.YtpmfpgbpndobpaaGreat
open Go.RowKit
set_option linter.unusedVariables false
set_option linter.unusedSimpArgs false
attribute [local go_sem] ext_cell ext_frozen ext_lt ext_le ext_le1 lt_s2 lt_s3 lt_s4 lt_s5 lt_s6 ext_lt1 ext_lt2 ext_lt3

set_option maxHeartbeats 4000000 in
theorem implItvNot1 (a b : Itv) (w : World) (ha : itvB a = true) (hb : itvB b = true) :
    Calls Tryz.prog 101 #[.int .i64 1, a.v, b.v] w fun e w' => e = .returned (relV (notI 1 a b)) ∧ Grew w w' := by
  have HR := Lib.hid (fun W => implItvRel2 b a W hb ha)
  rw [show notI 1 a b = swapI (relI 2 b a) from by simp [notI]]
  rw [relV_eq] at HR ⊢
  rw [rA_swap, rB_swap, some_swap]
  obtain ⟨O, hO⟩ : ∃ O, relI 2 b a = O := ⟨_, rfl⟩
  rw [hO] at HR ⊢
  obtain ⟨⟨xl, xh⟩, hx⟩ : ∃ x, rA O = x := ⟨_, rfl⟩
  obtain ⟨⟨yl, yh⟩, hy⟩ : ∃ x, rB O = x := ⟨_, rfl⟩
  obtain ⟨B, hB⟩ : ∃ x, O.isSome = x := ⟨_, rfl⟩
  rw [hx, hy, hB] at HR ⊢
  clear hO hx hy hB ha hb
  obtain ⟨al, ah⟩ := a
  obtain ⟨bl, bh⟩ := b
  go_enter Tryz.func101, Tryz.ntmps101
  go_wp2_with fail
  refine (HR.out _).mono ?_
  rintro e w1 ⟨rfl, g1⟩
  have Hz1 := (show Blk w1 (w.heap.size + 1 + 1) 31 #[.int .i64 0, .int .i64 0] from (show Blk ((((w.alloc (.cells #[.int .i64 al, .int .i64 ah] 31)).alloc (.cells #[.int .i64 bl, .int .i64 bh] 31)).alloc (.cells #[.int .i64 0, .int .i64 0] 31)).alloc (.cells #[.int .i64 0, .int .i64 0] 31)) _ _ _ from Blk.alloc (Blk.new' (by simp only [World.size_alloc])) _).grew g1)
  have Hu1 := (show Blk w1 (w.heap.size + 1 + 1 + 1) 31 #[.int .i64 0, .int .i64 0] from (show Blk ((((w.alloc (.cells #[.int .i64 al, .int .i64 ah] 31)).alloc (.cells #[.int .i64 bl, .int .i64 bh] 31)).alloc (.cells #[.int .i64 0, .int .i64 0] 31)).alloc (.cells #[.int .i64 0, .int .i64 0] 31)) _ _ _ from Blk.new' (by simp only [World.size_alloc])).grew g1)
  have HG1 := Lib.hid (show Grew w w1 from grew_tr (gr) g1)
  have cz0 := Hz1.cell 0
  have cz1 := Hz1.cell 1
  have fz := fun j => Hz1.frozen j
  have lz := Hz1.lt
  have cu0 := Hu1.cell 0
  have cu1 := Hu1.cell 1
  have fu := fun j => Hu1.frozen j
  have lu := Hu1.lt
  simp only [List.getElem?_toArray, List.getElem?_cons_zero, List.getElem?_cons_succ] at cz0 cz1 cu0 cu1
  clear g1 Hz1 Hu1
  have n0 : ¬ w.heap.size = w1.heap.size := by omega
  have m0 : ¬ w1.heap.size = w.heap.size := by omega
  have n1 : ¬ w.heap.size + 1 = w1.heap.size := by omega
  have m1 : ¬ w1.heap.size = w.heap.size + 1 := by omega
  have n2 : ¬ w.heap.size + 1 + 1 = w1.heap.size := by omega
  have m2 : ¬ w1.heap.size = w.heap.size + 1 + 1 := by omega
  have n3 : ¬ w.heap.size + 1 + 1 + 1 = w1.heap.size := by omega
  have m3 : ¬ w1.heap.size = w.heap.size + 1 + 1 + 1 := by omega
  have n4 : ¬ w.heap.size + 1 + 1 = w1.heap.size + 1 := by omega
  have m4 : ¬ w1.heap.size + 1 = w.heap.size + 1 + 1 := by omega
  have n5 : ¬ w.heap.size + 1 + 1 + 1 = w1.heap.size + 1 := by omega
  have m5 : ¬ w1.heap.size + 1 = w.heap.size + 1 + 1 + 1 := by omega
  have l2 : w.heap.size + 1 + 1 < w1.heap.size + 1 := by omega
  have l3 : w.heap.size + 1 + 1 + 1 < w1.heap.size + 1 := by omega
  go_wp2
  go_region
  go_wp2
  refine bodyPost_ret (by simp [results, Tryz.results101, go_sem, cz0, cz1, cu0, cu1, lz, lu, l2, l3]; try rfl) rfl ?_
  refine ⟨rfl, ?_⟩
  repeat (first | with_reducible exact HG1.out | with_reducible refine grew_set ?_ (by first | omega | (simp only; omega)) _ | with_reducible refine grew_d ?_ | with_reducible refine grew_al ?_ _)
set_option maxHeartbeats 4000000 in
theorem implItvNot2 (a b : Itv) (w : World) (ha : itvB a = true) (hb : itvB b = true) :
    Calls Tryz.prog 101 #[.int .i64 2, a.v, b.v] w fun e w' => e = .returned (relV (notI 2 a b)) ∧ Grew w w' := by
  have HR := Lib.hid (fun W => implItvRel1 b a W hb ha)
  rw [show notI 2 a b = swapI (relI 1 b a) from by simp [notI]]
  rw [relV_eq] at HR ⊢
  rw [rA_swap, rB_swap, some_swap]
  obtain ⟨O, hO⟩ : ∃ O, relI 1 b a = O := ⟨_, rfl⟩
  rw [hO] at HR ⊢
  obtain ⟨⟨xl, xh⟩, hx⟩ : ∃ x, rA O = x := ⟨_, rfl⟩
  obtain ⟨⟨yl, yh⟩, hy⟩ : ∃ x, rB O = x := ⟨_, rfl⟩
  obtain ⟨B, hB⟩ : ∃ x, O.isSome = x := ⟨_, rfl⟩
  rw [hx, hy, hB] at HR ⊢
  clear hO hx hy hB ha hb
  obtain ⟨al, ah⟩ := a
  obtain ⟨bl, bh⟩ := b
  go_enter Tryz.func101, Tryz.ntmps101
  go_wp2_with fail
  refine (HR.out _).mono ?_
  rintro e w1 ⟨rfl, g1⟩
  have Hz1 := (show Blk w1 (w.heap.size + 1 + 1) 31 #[.int .i64 0, .int .i64 0] from (show Blk ((((w.alloc (.cells #[.int .i64 al, .int .i64 ah] 31)).alloc (.cells #[.int .i64 bl, .int .i64 bh] 31)).alloc (.cells #[.int .i64 0, .int .i64 0] 31)).alloc (.cells #[.int .i64 0, .int .i64 0] 31)) _ _ _ from Blk.alloc (Blk.new' (by simp only [World.size_alloc])) _).grew g1)
  have Hu1 := (show Blk w1 (w.heap.size + 1 + 1 + 1) 31 #[.int .i64 0, .int .i64 0] from (show Blk ((((w.alloc (.cells #[.int .i64 al, .int .i64 ah] 31)).alloc (.cells #[.int .i64 bl, .int .i64 bh] 31)).alloc (.cells #[.int .i64 0, .int .i64 0] 31)).alloc (.cells #[.int .i64 0, .int .i64 0] 31)) _ _ _ from Blk.new' (by simp only [World.size_alloc])).grew g1)
  have HG1 := Lib.hid (show Grew w w1 from grew_tr (gr) g1)
  have cz0 := Hz1.cell 0
  have cz1 := Hz1.cell 1
  have fz := fun j => Hz1.frozen j
  have lz := Hz1.lt
  have cu0 := Hu1.cell 0
  have cu1 := Hu1.cell 1
  have fu := fun j => Hu1.frozen j
  have lu := Hu1.lt
  simp only [List.getElem?_toArray, List.getElem?_cons_zero, List.getElem?_cons_succ] at cz0 cz1 cu0 cu1
  clear g1 Hz1 Hu1
  have n0 : ¬ w.heap.size = w1.heap.size := by omega
  have m0 : ¬ w1.heap.size = w.heap.size := by omega
  have n1 : ¬ w.heap.size + 1 = w1.heap.size := by omega
  have m1 : ¬ w1.heap.size = w.heap.size + 1 := by omega
  have n2 : ¬ w.heap.size + 1 + 1 = w1.heap.size := by omega
  have m2 : ¬ w1.heap.size = w.heap.size + 1 + 1 := by omega
  have n3 : ¬ w.heap.size + 1 + 1 + 1 = w1.heap.size := by omega
  have m3 : ¬ w1.heap.size = w.heap.size + 1 + 1 + 1 := by omega
  have n4 : ¬ w.heap.size + 1 + 1 = w1.heap.size + 1 := by omega
  have m4 : ¬ w1.heap.size + 1 = w.heap.size + 1 + 1 := by omega
  have n5 : ¬ w.heap.size + 1 + 1 + 1 = w1.heap.size + 1 := by omega
  have m5 : ¬ w1.heap.size + 1 = w.heap.size + 1 + 1 + 1 := by omega
  have l2 : w.heap.size + 1 + 1 < w1.heap.size + 1 := by omega
  have l3 : w.heap.size + 1 + 1 + 1 < w1.heap.size + 1 := by omega
  go_wp2
  go_region
  go_wp2
  refine bodyPost_ret (by simp [results, Tryz.results101, go_sem, cz0, cz1, cu0, cu1, lz, lu, l2, l3]; try rfl) rfl ?_
  refine ⟨rfl, ?_⟩
  repeat (first | with_reducible exact HG1.out | with_reducible refine grew_set ?_ (by first | omega | (simp only; omega)) _ | with_reducible refine grew_d ?_ | with_reducible refine grew_al ?_ _)
set_option maxHeartbeats 4000000 in
theorem implItvNot3 (a b : Itv) (w : World) (ha : itvB a = true) (hb : itvB b = true) :
    Calls Tryz.prog 101 #[.int .i64 3, a.v, b.v] w fun e w' => e = .returned (relV (notI 3 a b)) ∧ Grew w w' := by
  have HR := Lib.hid (fun W => implItvRel4 a b W ha hb)
  rw [show notI 3 a b = relI 4 a b from by simp [notI]]
  rw [relV_eq] at HR ⊢
  obtain ⟨O, hO⟩ : ∃ O, relI 4 a b = O := ⟨_, rfl⟩
  rw [hO] at HR ⊢
  obtain ⟨⟨xl, xh⟩, hx⟩ : ∃ x, rA O = x := ⟨_, rfl⟩
  obtain ⟨⟨yl, yh⟩, hy⟩ : ∃ x, rB O = x := ⟨_, rfl⟩
  obtain ⟨B, hB⟩ : ∃ x, O.isSome = x := ⟨_, rfl⟩
  rw [hx, hy, hB] at HR ⊢
  clear hO hx hy hB ha hb
  obtain ⟨al, ah⟩ := a
  obtain ⟨bl, bh⟩ := b
  go_enter Tryz.func101, Tryz.ntmps101
  go_wp2_with fail
  refine (HR.out _).mono ?_
  rintro e w1 ⟨rfl, g1⟩
  have Hz1 := (show Blk w1 (w.heap.size + 1 + 1) 31 #[.int .i64 0, .int .i64 0] from (show Blk ((((w.alloc (.cells #[.int .i64 al, .int .i64 ah] 31)).alloc (.cells #[.int .i64 bl, .int .i64 bh] 31)).alloc (.cells #[.int .i64 0, .int .i64 0] 31)).alloc (.cells #[.int .i64 0, .int .i64 0] 31)) _ _ _ from Blk.alloc (Blk.new' (by simp only [World.size_alloc])) _).grew g1)
  have Hu1 := (show Blk w1 (w.heap.size + 1 + 1 + 1) 31 #[.int .i64 0, .int .i64 0] from (show Blk ((((w.alloc (.cells #[.int .i64 al, .int .i64 ah] 31)).alloc (.cells #[.int .i64 bl, .int .i64 bh] 31)).alloc (.cells #[.int .i64 0, .int .i64 0] 31)).alloc (.cells #[.int .i64 0, .int .i64 0] 31)) _ _ _ from Blk.new' (by simp only [World.size_alloc])).grew g1)
  have HG1 := Lib.hid (show Grew w w1 from grew_tr (gr) g1)
  have cz0 := Hz1.cell 0
  have cz1 := Hz1.cell 1
  have fz := fun j => Hz1.frozen j
  have lz := Hz1.lt
  have cu0 := Hu1.cell 0
  have cu1 := Hu1.cell 1
  have fu := fun j => Hu1.frozen j
  have lu := Hu1.lt
  simp only [List.getElem?_toArray, List.getElem?_cons_zero, List.getElem?_cons_succ] at cz0 cz1 cu0 cu1
  clear g1 Hz1 Hu1
  go_wp2
  refine bodyPost_ret (by simp [results, Tryz.results101, go_sem, cz0, cz1, cu0, cu1, lz, lu]; try rfl) rfl ?_
  refine ⟨rfl, ?_⟩
  repeat (first | with_reducible exact HG1.out | with_reducible refine grew_set ?_ (by first | omega | (simp only; omega)) _ | with_reducible refine grew_d ?_ | with_reducible refine grew_al ?_ _)
set_option maxHeartbeats 4000000 in
theorem implItvNot4 (a b : Itv) (w : World) (ha : itvB a = true) (hb : itvB b = true) :
    Calls Tryz.prog 101 #[.int .i64 4, a.v, b.v] w fun e w' => e = .returned (relV (notI 4 a b)) ∧ Grew w w' := by
  have HR := Lib.hid (fun W => implItvRel3 a b W ha hb)
  rw [show notI 4 a b = relI 3 a b from by simp [notI]]
  rw [relV_eq] at HR ⊢
  obtain ⟨O, hO⟩ : ∃ O, relI 3 a b = O := ⟨_, rfl⟩
  rw [hO] at HR ⊢
  obtain ⟨⟨xl, xh⟩, hx⟩ : ∃ x, rA O = x := ⟨_, rfl⟩
  obtain ⟨⟨yl, yh⟩, hy⟩ : ∃ x, rB O = x := ⟨_, rfl⟩
  obtain ⟨B, hB⟩ : ∃ x, O.isSome = x := ⟨_, rfl⟩
  rw [hx, hy, hB] at HR ⊢
  clear hO hx hy hB ha hb
  obtain ⟨al, ah⟩ := a
  obtain ⟨bl, bh⟩ := b
  go_enter Tryz.func101, Tryz.ntmps101
  go_wp2_with fail
  refine (HR.out _).mono ?_
  rintro e w1 ⟨rfl, g1⟩
  have Hz1 := (show Blk w1 (w.heap.size + 1 + 1) 31 #[.int .i64 0, .int .i64 0] from (show Blk ((((w.alloc (.cells #[.int .i64 al, .int .i64 ah] 31)).alloc (.cells #[.int .i64 bl, .int .i64 bh] 31)).alloc (.cells #[.int .i64 0, .int .i64 0] 31)).alloc (.cells #[.int .i64 0, .int .i64 0] 31)) _ _ _ from Blk.alloc (Blk.new' (by simp only [World.size_alloc])) _).grew g1)
  have Hu1 := (show Blk w1 (w.heap.size + 1 + 1 + 1) 31 #[.int .i64 0, .int .i64 0] from (show Blk ((((w.alloc (.cells #[.int .i64 al, .int .i64 ah] 31)).alloc (.cells #[.int .i64 bl, .int .i64 bh] 31)).alloc (.cells #[.int .i64 0, .int .i64 0] 31)).alloc (.cells #[.int .i64 0, .int .i64 0] 31)) _ _ _ from Blk.new' (by simp only [World.size_alloc])).grew g1)
  have HG1 := Lib.hid (show Grew w w1 from grew_tr (gr) g1)
  have cz0 := Hz1.cell 0
  have cz1 := Hz1.cell 1
  have fz := fun j => Hz1.frozen j
  have lz := Hz1.lt
  have cu0 := Hu1.cell 0
  have cu1 := Hu1.cell 1
  have fu := fun j => Hu1.frozen j
  have lu := Hu1.lt
  simp only [List.getElem?_toArray, List.getElem?_cons_zero, List.getElem?_cons_succ] at cz0 cz1 cu0 cu1
  clear g1 Hz1 Hu1
  go_wp2
  refine bodyPost_ret (by simp [results, Tryz.results101, go_sem, cz0, cz1, cu0, cu1, lz, lu]; try rfl) rfl ?_
  refine ⟨rfl, ?_⟩
  repeat (first | with_reducible exact HG1.out | with_reducible refine grew_set ?_ (by first | omega | (simp only; omega)) _ | with_reducible refine grew_d ?_ | with_reducible refine grew_al ?_ _)
end Go.Proofs.YtpmfpgbpndobpaaGreat

/- May an instruction fail in a state: plain, and contracts of small functions. No condition. -/
namespace Go.Proofs.YtpmfpgbpndobpaaGreat
open Go.RowKit
set_option linter.unusedVariables false
set_option linter.unusedSimpArgs false
attribute [local go_sem] ext_cell ext_frozen ext_lt ext_le ext_le1 lt_s2 lt_s3 lt_s4 lt_s5 lt_s6 ext_lt1 ext_lt2 ext_lt3

def nthI (xs : List Itv) (k : Int) : Itv := xs.getD k.toNat ⟨0, 0⟩
def prcI (ps : List Prc) (k : Int) : Itv := match ps[k.toNat]? with
  | some p => ⟨p.lo, p.hi⟩
  | none => ⟨0, 0⟩
/-- May a valid instruction fail. -/
def failsB (ps : List Prc) (i : Ins) (xs : List Itv) : Bool :=
  if i.op = 4 then inB (nthI xs i.b).lo (nthI xs i.b).hi 0
  else if i.op = 6 ∨ i.op = 7 then !inI (nthI xs i.a) ⟨0, 3⟩
  else if i.op = 10 then !inI (nthI xs i.a) (prcI ps i.to)
  else if i.op = 11 then (notI i.rel (nthI xs i.a) (nthI xs i.b)).isSome
  else false
def absFailsB (ps : List Prc) (i : Ins) (on : Bool) (xs : List Itv) (lo hi : Int) : Bool :=
  (stOkB on xs lo hi && on) && (prgOkB ps && (insOkB i ps.length 10 && failsB ps i xs))

theorem nthI_get {xs : List Itv} (h4 : xs.length = 4) {k : Int} (hk : varB k = true) : ∃ j : Nat, k = j ∧ j < 4 ∧ xs[j]? = some (nthI xs k) := by
  simp only [varB, Bool.and_eq_true, decide_eq_true_eq] at hk
  obtain ⟨j, rfl⟩ := Int.eq_ofNat_of_zero_le hk.1
  have hj : j < 4 := by omega
  refine ⟨j, rfl, hj, ?_⟩
  simp only [nthI, Int.toNat_natCast, List.getD_eq_getElem?_getD]
  rw [List.getElem?_eq_getElem (by omega)]
  rfl
theorem nthI_ok {xs : List Itv} {lo hi : Int} (h : stOkB true xs lo hi = true) {k : Int} (hk : varB k = true) : itvB (nthI xs k) = true := by
  have h4 : xs.length = 4 := by obtain ⟨_, x0, x1, x2, x3, rfl, _⟩ := st_four h; rfl
  obtain ⟨j, _, _, hj⟩ := nthI_get h4 hk
  exact itvB_all h _ (List.mem_of_getElem? hj)
theorem prgOk_prc {ps : List Prc} (h : prgOkB ps = true) {p : Prc} (hp : p ∈ ps) : itvB ⟨p.lo, p.hi⟩ = true := by
  simp only [prgOkB, Bool.and_eq_true, List.all_eq_true] at h
  have := h.2 p hp
  simp only [prcOkB, Bool.and_eq_true] at this
  exact this.1.1.1
theorem prcI_get {ps : List Prc} {k : Int} (h0 : 0 ≤ k) (hn : k < ps.length) : ∃ (j : Nat) (p : Prc), k = j ∧ j < ps.length ∧ ps[j]? = some p ∧ prcI ps k = ⟨p.lo, p.hi⟩ := by
  obtain ⟨j, rfl⟩ := Int.eq_ofNat_of_zero_le h0
  have hj : j < ps.length := by omega
  refine ⟨j, ps[j], rfl, hj, List.getElem?_eq_getElem hj, ?_⟩
  simp only [prcI, Int.toNat_natCast, List.getElem?_eq_getElem hj]

theorem implCellIndexes (w : World) : Calls Tryz.prog 109 #[] w fun e w' => e = .returned (.agg #[.int .i64 0, .int .i64 3]) ∧ Grew w w' := by
  go_enter Tryz.func109, Tryz.ntmps109
  go_wp2
  go_returns
  exact ⟨rfl, by unfold Grew; go_grown⟩
theorem specItvIn (a b : Itv) (w : World) (ha : itvB a = true) (hb : itvB b = true) :
    Calls Tryz.prog 67 #[a.v, b.v] w fun e w' => e = .returned (.bool (inI a b)) ∧ Grew w w' := by
  have hA := fun W => specItvOk a W
  have hB := fun W => specItvOk b W
  rw [show itvOkB a.lo a.hi = true from ha] at hA
  rw [show itvOkB b.lo b.hi = true from hb] at hB
  have HA := Lib.hid hA
  have HB := Lib.hid hB
  clear hA hB ha hb
  obtain ⟨al, ah⟩ := a
  obtain ⟨bl, bh⟩ := b
  dsimp only [Itv.v] at HA HB ⊢
  by_cases h1 : bl ≤ al
  · by_cases h2 : ah ≤ bh
    all_goals
      go_enter Tryz.func67, Tryz.ntmps67
      go_wp2_with (first | ((with_reducible refine (HA.out _).mono ?_); rintro e w' ⟨rfl, g'⟩; (first | obtain ⟨y, rfl⟩ := ext_cold g' | obtain ⟨y, rfl⟩ := ext_col g' | obtain ⟨y, rfl⟩ := ext_of g'); clear g') | ((with_reducible refine (HB.out _).mono ?_); rintro e w' ⟨rfl, g'⟩; (first | obtain ⟨z, rfl⟩ := ext_cold g' | obtain ⟨z, rfl⟩ := ext_col g' | obtain ⟨z, rfl⟩ := ext_of g'); clear g'))
      go_ret
      refine ⟨by simp [inI, h1, h2], ?_⟩
      exact gr
  · go_enter Tryz.func67, Tryz.ntmps67
    go_wp2_with (first | ((with_reducible refine (HA.out _).mono ?_); rintro e w' ⟨rfl, g'⟩; (first | obtain ⟨y, rfl⟩ := ext_cold g' | obtain ⟨y, rfl⟩ := ext_col g' | obtain ⟨y, rfl⟩ := ext_of g'); clear g') | ((with_reducible refine (HB.out _).mono ?_); rintro e w' ⟨rfl, g'⟩; (first | obtain ⟨z, rfl⟩ := ext_cold g' | obtain ⟨z, rfl⟩ := ext_col g' | obtain ⟨z, rfl⟩ := ext_of g'); clear g'))
    go_ret
    refine ⟨by (simp [inI]; omega), ?_⟩
    exact gr
end Go.Proofs.YtpmfpgbpndobpaaGreat

/- The join of two states that are ok: the program's side. No condition. -/
namespace Go.Proofs.YtpmfpgbpndobpaaGreat
open Go.RowKit
set_option linter.unusedVariables false
set_option linter.unusedSimpArgs false
attribute [local go_sem] ext_cell ext_frozen ext_lt ext_le ext_le1 lt_s2 lt_s3 lt_s4 lt_s5 lt_s6 ext_lt1 ext_lt2 ext_lt3

def joinI (x y : Itv) : Itv := ⟨min x.lo y.lo, max x.hi y.hi⟩
set_option maxHeartbeats 1000000 in
theorem implItvJoin (a b : Itv) (w : World) (ha : itvB a = true) (hb : itvB b = true) :
    Calls Tryz.prog 135 #[.agg #[.int .i64 a.lo, .int .i64 a.hi], .agg #[.int .i64 b.lo, .int .i64 b.hi]] w fun e w' => e = .returned (.agg #[.int .i64 (joinI a b).lo, .int .i64 (joinI a b).hi]) ∧ Grew w w' := by
  have HC := Lib.hid (fun W => implBothOk a b W ha hb)
  clear ha hb
  obtain ⟨al, ah⟩ := a
  obtain ⟨bl, bh⟩ := b
  simp only [joinI] at HC ⊢
  go_enter Tryz.func135, Tryz.ntmps135
  go_wp2_with ((with_reducible refine (HC.out _).mono ?_); rintro e w' ⟨rfl, g'⟩; (first | obtain ⟨y, rfl⟩ := ext_cold g' | obtain ⟨y, rfl⟩ := ext_col g' | obtain ⟨y, rfl⟩ := ext_of g'); clear g')
  all_goals
    go_returns
    refine ⟨by (simp; try omega), ?_⟩
    exact gr
theorem st_set {w : World} {g : Nat} {zs : List Itv} {lo hi : Int} (h : Blk w g 110 (stC zs lo hi)) (h4 : zs.length = 4) {k : Nat} (hk : k < 4) (a b : Int) :
    Blk ((w.setCell ⟨g, k * 2, none⟩ (.int .i64 a)).setCell ⟨g, k * 2 + 1, none⟩ (.int .i64 b)) g 110 (stC (zs.set k ⟨a, b⟩) lo hi) := by
  match zs, h4 with
  | [x0, x1, x2, x3], _ =>
    match k, hk with
    | 0, _ => exact (h.set_ 0 _).set_ 1 _
    | 1, _ => exact (h.set_ 2 _).set_ 3 _
    | 2, _ => exact (h.set_ 4 _).set_ 5 _
    | 3, _ => exact (h.set_ 6 _).set_ 7 _
end Go.Proofs.YtpmfpgbpndobpaaGreat

/- What a step makes of a state: plain; the program's copy, narrow. No condition. -/
namespace Go.Proofs.YtpmfpgbpndobpaaGreat
open Go.RowKit
set_option linter.unusedVariables false
set_option linter.unusedSimpArgs false
attribute [local go_sem] ext_cell ext_frozen ext_lt ext_le ext_le1 lt_s2 lt_s3 lt_s4 lt_s5 lt_s6 ext_lt1 ext_lt2 ext_lt3

def setI (xs : List Itv) (k : Int) (x : Itv) : List Itv := xs.set k.toNat x
def narI (xs : List Itv) (k : Int) (t : Itv) : Option (List Itv) := (meetI (nthI xs k) t).map fun x => setI xs k x
def relSt (o : Option (Itv × Itv)) (xs : List Itv) (a b : Int) : Option (List Itv) := match o with
  | none => none
  | some p => (narI xs a p.1).bind fun zs => narI zs b p.2
def sumI (ss : List Sum) (k : Int) : Sum := ss.getD k.toNat ⟨false, 0, 0⟩
/-- What an instruction makes of a state: variables, cells. -/
def actI (ps : List Prc) (ss : List Sum) (i : Ins) (xs : List Itv) (c : Itv) : Option (List Itv × Itv) :=
  if i.op = 5 then some (setI xs i.d ⟨i.lo, i.hi⟩, c)
  else if i.op ≤ 4 then (doI i.op (nthI xs i.a) (nthI xs i.b)).map fun r => (setI (if i.op = 4 then setI xs i.b (woI (nthI xs i.b) ⟨0, 0⟩) else xs) i.d r, c)
  else if i.op = 6 then (narI xs i.a ⟨0, 3⟩).map fun zs => (setI zs i.d c, c)
  else if i.op = 7 then (narI xs i.a ⟨0, 3⟩).map fun zs => (zs, joinI c (nthI xs i.b))
  else if i.op = 10 then (narI xs i.a (prcI ps i.to)).bind fun zs => if (sumI ss i.to).on then some (setI zs i.d ⟨(sumI ss i.to).lo, (sumI ss i.to).hi⟩, c) else none
  else (relSt (relI i.rel (nthI xs i.a) (nthI xs i.b)) xs i.a i.b).map fun zs => (zs, c)
theorem setI_len (xs : List Itv) (k : Int) (x : Itv) : (setI xs k x).length = xs.length := by simp [setI]
theorem stOk_mk {xs : List Itv} {lo hi : Int} (h4 : xs.length = 4) (h : ∀ x, x ∈ xs → itvB x = true) (hc : itvOkB lo hi = true) : stOkB true xs lo hi = true := by
  simp only [stOkB, if_true, Bool.and_eq_true, decide_eq_true_eq, List.all_eq_true]
  exact ⟨⟨h4, hc⟩, h⟩
theorem stOk_parts {xs : List Itv} {lo hi : Int} (h : stOkB true xs lo hi = true) : xs.length = 4 ∧ (∀ x, x ∈ xs → itvB x = true) ∧ itvOkB lo hi = true := by
  simp only [stOkB, if_true, Bool.and_eq_true, decide_eq_true_eq, List.all_eq_true] at h
  exact ⟨h.1.1, h.2, h.1.2⟩
theorem setI_ok {xs : List Itv} {lo hi : Int} (h : stOkB true xs lo hi = true) (k : Int) {x : Itv} (hx : itvB x = true) : stOkB true (setI xs k x) lo hi = true := by
  obtain ⟨h1, h2, h3⟩ := stOk_parts h
  refine stOk_mk (by rw [setI_len, h1]) (fun y hy => ?_) h3
  rcases List.mem_or_eq_of_mem_set hy with hy | hy
  · exact h2 y hy
  · rw [hy]; exact hx
theorem narI_ok {xs zs : List Itv} {lo hi : Int} {k : Int} {t : Itv} (h : stOkB true xs lo hi = true) (e : narI xs k t = some zs) : stOkB true zs lo hi = true := by
  unfold narI at e
  cases hm : meetI (nthI xs k) t with
  | none => rw [hm] at e; cases e
  | some x =>
    rw [hm] at e
    simp only [Option.map_some, Option.some.injEq] at e
    rw [← e]
    exact setI_ok h k (meetI_ok hm)
theorem optV_eq (o : Option Itv) : optV o = .tuple #[(o.getD ⟨0, 0⟩).v, .bool o.isSome] := by cases o <;> rfl

theorem chg_pre {bs : List Bx} {w w' : World} (h : Chg (preB bs) w w') (hp : ∀ b, b ∈ bs → b.al ≠ none) : Grew w w' :=
  h.belowB (Nat.le_refl _) (fun k hk => by obtain ⟨b, hb, ha, rfl⟩ := hk; exact absurd ha (hp b hb))
set_option maxRecDepth 100000 in
set_option maxHeartbeats 4000000 in
theorem implNarrow (sb : Nat) (k : Int) (t : Itv) (xs : List Itv) (lo hi : Int) (w : World) (hb : Blk w sb 110 (stC xs lo hi)) (h4 : xs.length = 4) (hk : varB k = true) (hxo : itvB (nthI xs k) = true) (ht : itvB t = true) :
    Calls Tryz.prog 128 #[.pointer (some ⟨sb, 0, none⟩), .int .i64 k, t.v] w fun e w' => e = .returned (.bool (meetI (nthI xs k) t).isSome) ∧ Blk w' sb 110 (stC (setI xs k ((meetI (nthI xs k) t).getD ⟨0, 0⟩)) lo hi) ∧ Chg (fun b => b = sb) w w' := by
  obtain ⟨j, rfl, hj, hx⟩ := nthI_get h4 hk
  obtain ⟨⟨xl, xh⟩, hX⟩ : ∃ x, nthI xs j = x := ⟨_, rfl⟩
  rw [hX] at hx hxo ⊢
  have HM := Lib.hid (fun W => implItvMeet ⟨xl, xh⟩ t W hxo ht)
  rw [optV_eq] at HM
  obtain ⟨o, hO⟩ : ∃ o, meetI ⟨xl, xh⟩ t = o := ⟨_, rfl⟩
  rw [hO] at HM ⊢
  obtain ⟨⟨ml, mh⟩, hm⟩ : ∃ m, o.getD ⟨0, 0⟩ = m := ⟨_, rfl⟩
  obtain ⟨B, hB⟩ : ∃ x, o.isSome = x := ⟨_, rfl⟩
  rw [hm, hB] at HM ⊢
  obtain ⟨tl, th⟩ := t
  rw [show setI xs j ⟨ml, mh⟩ = xs.set j ⟨ml, mh⟩ from by simp [setI]]
  have hlt := hb.lt
  have H4 := Lib.hid h4
  have HX := Lib.hid hx
  have HB0 := Lib.hid hb
  clear hO hm hB hX hk hxo ht h4 hx hb
  have haq : ¬ (4 : Int) ≤ (j : Int) := by omega
  go_enter Tryz.func128, Tryz.ntmps128
  go_upto_region 1 with fail
  refine wp_letH ?_
  intro E hE
  have GO := Lib.hid (show Grew w E from by rw [hE]; exact gr)
  have q0 : E.cell? ⟨w.heap.size, 0, none⟩ = some (.int .i64 tl) := by rw [hE]; simp [go_sem]
  have q1 : E.cell? ⟨w.heap.size, 1, none⟩ = some (.int .i64 th) := by rw [hE]; simp [go_sem]
  have q2 := (st_cell (HB0.out.grew GO.out) H4.out HX.out).1
  have q3 := (st_cell (HB0.out.grew GO.out) H4.out HX.out).2
  simp only at q2 q3
  clear hE
  obtain ⟨VV, v0, v1, v2, v3, v4, v5, v6, v7, v8, v9, v10, v11, v12, v13, -⟩ := vl [.pointer (some ⟨sb, 0, none⟩), .int .i64 ((j : Int)), .pointer (some ⟨sb, 0, none⟩), .pointer (some ⟨sb, 0, none⟩), .pointer (some ⟨sb, j * 2, none⟩), .agg #[.int .i64 xl, .int .i64 xh], .agg #[.int .i64 tl, .int .i64 th], .tuple #[.agg #[.int .i64 ml, .int .i64 mh], .bool B], .tuple #[.agg #[.int .i64 ml, .int .i64 mh], .bool B], .agg #[.int .i64 ml, .int .i64 mh], .bool B, undef, undef, .bool B]
  have HK := fun W (c : Chg (preB [⟨some 11, 0, 12, 31, #[.int .i64 0, .int .i64 0], #[.int .i64 ml, .int .i64 mh]⟩]) _ W) => And.intro (ck c q0) (And.intro (ck c q1) (And.intro (ck c q2) (ck c q3)))
  refine region_box 27 [⟨some 11, 0, 12, 31, #[.int .i64 0, .int .i64 0], #[.int .i64 ml, .int .i64 mh]⟩] VV (by kernel_rfl) rfl (by kernel_rfl) rfl (by intro b hb ha; simp only [List.mem_cons, List.not_mem_nil, or_false] at hb; rcases hb with rfl <;> first | (cases ha; done) | assumption) (by intro j k b c hjk hj hk hb hc; rcases j with _ | _ | j <;> rcases k with _ | _ | k <;> simp at hj hk hjk <;> (try subst hj) <;> (try subst hk) <;> first | (cases hb; done) | (cases hc; done) | (simp only; omega)) ⟨?_, ?_, ?_, ?_, ?_, ?_, ?_, ?_, ?_, ?_, ?_, ?_, ?_, ?_, trivial⟩ ?_
  · exact b_vx v0 rfl rfl (fun gm a W h => by have e0 : a.eval (.tmp 0) = .pointer (some ⟨sb, 0, none⟩) := (h.slot 0 (by kernel_rfl)).trans rfl; simp only [execOp, e0]; first | (simp [go_sem, haq] <;> first | exact wrapIn | rfl) | kernel_rfl)
  · exact b_vx v1 rfl rfl (fun gm a W h => by have e1 : a.eval (.tmp 1) = .int .i64 ((j : Int)) := (h.slot 1 (by kernel_rfl)).trans rfl; simp only [execOp, e1]; first | (simp [go_sem, haq] <;> first | exact wrapIn | rfl) | kernel_rfl)
  · exact b_vx v2 rfl rfl (fun gm a W h => by have e10 := (h.vb 0 10).trans v0; simp only [execOp, e10]; first | (simp [go_sem, haq] <;> first | exact wrapIn | rfl) | kernel_rfl)
  · exact b_vx v3 rfl rfl (fun gm a W h => by have e12 := (h.vb 2 12).trans v2; simp only [execOp, e12]; first | (simp [go_sem, haq] <;> first | exact wrapIn | rfl) | kernel_rfl)
  · exact b_vx v4 rfl rfl (fun gm a W h => by have e13 := (h.vb 3 13).trans v3; have e11 := (h.vb 1 11).trans v1; simp only [execOp, e13, e11]; first | (simp [go_sem, haq] <;> first | exact wrapIn | rfl) | kernel_rfl)
  · exact b_vx v5 rfl rfl (fun gm a W h => by have e14 := (h.vb 4 14).trans v4; obtain ⟨kq0, kq1, kq2, kq3⟩ := HK W h.chg; simp only [execOp, e14]; first | (simp [go_sem, kq0, kq1, kq2, kq3, haq] <;> first | exact wrapIn | rfl) | kernel_rfl)
  · exact b_vx v6 rfl rfl (fun gm a W h => by have e5 : a.eval (.tmp 5) = .pointer (some ⟨w.heap.size, 0, none⟩) := (h.slot 5 (by kernel_rfl)).trans rfl; obtain ⟨kq0, kq1, kq2, kq3⟩ := HK W h.chg; simp only [execOp, e5]; first | (simp [go_sem, kq0, kq1, kq2, kq3, haq] <;> first | exact wrapIn | rfl) | kernel_rfl)
  · exact b_cx v7 rfl rfl (fun gm a W h => by
      have e15 := (h.vb 5 15).trans v5
      have e16 := (h.vb 6 16).trans v6
      refine Eq.trans (b := .ok (.enter 151 #[a.eval (.tmp 15), a.eval (.tmp 16)]) W) (by kernel_rfl) ?_
      rw [e15, e16]) (fun W => HM.out W)
  · exact b_vx v8 rfl rfl (fun gm a W h => by have e17 := (h.vb 7 17).trans v7; simp only [execOp, e17]; first | (simp [go_sem, haq] <;> first | exact wrapIn | rfl) | kernel_rfl)
  · exact b_vx v9 rfl rfl (fun gm a W h => by have e9 := (h.vb 8 9).trans v8; simp only [execOp, e9]; first | (simp [go_sem, haq] <;> first | exact wrapIn | rfl) | kernel_rfl)
  · exact b_vx v10 rfl rfl (fun gm a W h => by have e9 := (h.vb 8 9).trans v8; simp only [execOp, e9]; first | (simp [go_sem, haq] <;> first | exact wrapIn | rfl) | kernel_rfl)
  · exact b_alloc 0 _ rfl rfl rfl (by kernel_rfl) rfl (fun gm a W h => by kernel_rfl)
  · refine b_store 0 _ rfl rfl rfl v12 (fun j hj => by cases hj; exact ⟨7, ⟨⟨⟨11, .data⟩, by simp, rfl, by kernel_rfl⟩, by kernel_rfl⟩⟩) rfl (fun gm a W h hold hb => ?_)
    have e7 : a.eval (.tmp 7) = .pointer (some ⟨gm 0, 0, none⟩) := (h.vb 11 7).trans rfl
    have e18 := (h.vb 9 18).trans v9
    simp only at hb
    have hf := fun j => hb.frozen j
    have c0 := hb.cell 0
    have c1 := hb.cell 1
    refine ⟨_, by (simp only [execOp, e7, e18]; simp [go_sem, hf, c0, c1, haq]; try rfl), (hb.set_ 0 _).set_ 1 _, chgs2 _ _ _ _ _ _⟩
  · exact b_vx v13 rfl rfl (fun gm a W h => by have e19 := (h.vb 10 19).trans v10; simp only [execOp, e19]; first | (simp [go_sem, haq] <;> first | exact wrapIn | rfl) | kernel_rfl)
  intro gm vs w9 hc9 hb9 hold9 hge9 hv9
  have x0 := (hv9 0 10 (by kernel_rfl)).trans v0
  have x1 := (hv9 1 11 (by kernel_rfl)).trans v1
  have x2 := (hv9 2 12 (by kernel_rfl)).trans v2
  have x3 := (hv9 3 13 (by kernel_rfl)).trans v3
  have x4 := (hv9 4 14 (by kernel_rfl)).trans v4
  have x5 := (hv9 5 15 (by kernel_rfl)).trans v5
  have x6 := (hv9 6 16 (by kernel_rfl)).trans v6
  have x7 := (hv9 7 17 (by kernel_rfl)).trans v7
  have x8 := (hv9 8 9 (by kernel_rfl)).trans v8
  have x9 := (hv9 9 18 (by kernel_rfl)).trans v9
  have x10 := (hv9 10 19 (by kernel_rfl)).trans v10
  have x11 : vs 11 = .pointer (some ⟨gm 0, 0, none⟩) := (hv9 11 7 (by kernel_rfl)).trans rfl
  have x13 := (hv9 13 8 (by kernel_rfl)).trans v13
  have y0 := hb9 0 _ rfl
  have g0 := hge9 0 _ 11 rfl rfl
  simp only at y0
  simp only [putAll, Act.put, List.setIfInBounds_toArray, List.set_cons_zero, List.set_cons_succ, Nat.zero_add, Nat.reduceAdd, x0, x1, x2, x3, x4, x5, x6, x7, x8, x9, x10, x11, x13]
  clear hb9 hold9 hge9 hv9 x0 x1 x2 x3 x4 x5 x6 x7 x8 x9 x10 x11 x13 v0 v1 v2 v3 v4 v5 v6 v7 v8 v9 v10 v11 v12 v13 HK VV
  have G9 := chg_pre hc9 (by intro b hb; simp only [List.mem_cons, List.not_mem_nil, or_false] at hb; subst hb; simp)
  have HW9 := Lib.hid (grew_tr GO.out G9)
  have HB9 := Lib.hid (HB0.out.grew (grew_tr GO.out G9))
  obtain ⟨g7, hg7⟩ : ∃ g, gm 0 = g := ⟨_, rfl⟩
  rw [hg7] at y0 ⊢
  have r0 := y0.cell 0
  have r1 := y0.cell 1
  have rl := y0.lt
  have s0 := (st_cell HB9.out H4.out HX.out).1
  have s1 := (st_cell HB9.out H4.out HX.out).2
  have sl := HB9.out.lt
  have sf := fun i => HB9.out.frozen i
  simp only [List.getElem?_toArray, List.getElem?_cons_zero, List.getElem?_cons_succ] at r0 r1
  simp only at s0 s1
  clear y0 hg7 hc9 G9 q0 q1 q2 q3 g0 gm vs
  go_wp2_with fail
  go_region
  go_wp2
  go_ret
  refine ⟨rfl, ?_, ?_⟩
  · first
    | exact st_set (HB9.out.grew (grew_d (Below.refl _ _))) H4.out hj _ _
    | exact st_set HB9.out H4.out hj _ _
    | exact (st_set HB9.out H4.out hj _ _).grew (grew_d (Below.refl _ _))
  · first
    | exact Chg.alw (Chg.alw (chg_gr (Chg.refl _ _) (grew_tr HW9.out (grew_d (Below.refl _ _)))) rfl _) rfl _
    | exact chg_gr (Chg.alw (F := fun b => b = sb) (Chg.alw (F := fun b => b = sb) (chg_gr (Chg.refl _ _) HW9.out) rfl _) rfl _) (grew_d (Below.refl _ _))
theorem implCopy (sb : Nat) (xs : List Itv) (lo hi : Int) (w : World) (hb : Blk w sb 110 (stC xs lo hi)) (h4 : xs.length = 4) :
    Calls Tryz.prog 98 #[.pointer (some ⟨sb, 0, none⟩)] w fun e w' => ∃ g, e = .returned (.pointer (some ⟨g, 0, none⟩)) ∧ w.heap.size ≤ g ∧ Blk w' g 110 (stC xs lo hi) ∧ Grew w w' := by
  match xs, h4 with
  | [x0, x1, x2, x3], _ =>
    obtain ⟨a0, a1⟩ := x0
    obtain ⟨b0, b1⟩ := x1
    obtain ⟨c0, c1⟩ := x2
    obtain ⟨d0, d1⟩ := x3
    have k0 : w.cell? ⟨sb, 0, none⟩ = some (.int .i64 a0) := hb.cell 0
    have k1 : w.cell? ⟨sb, 1, none⟩ = some (.int .i64 a1) := hb.cell 1
    have k2 : w.cell? ⟨sb, 2, none⟩ = some (.int .i64 b0) := hb.cell 2
    have k3 : w.cell? ⟨sb, 3, none⟩ = some (.int .i64 b1) := hb.cell 3
    have k4 : w.cell? ⟨sb, 4, none⟩ = some (.int .i64 c0) := hb.cell 4
    have k5 : w.cell? ⟨sb, 5, none⟩ = some (.int .i64 c1) := hb.cell 5
    have k6 : w.cell? ⟨sb, 6, none⟩ = some (.int .i64 d0) := hb.cell 6
    have k7 : w.cell? ⟨sb, 7, none⟩ = some (.int .i64 d1) := hb.cell 7
    have k8 : w.cell? ⟨sb, 8, none⟩ = some (.int .i64 lo) := hb.cell 8
    have k9 : w.cell? ⟨sb, 9, none⟩ = some (.int .i64 hi) := hb.cell 9
    have hl := hb.lt
    clear hb
    go_enter Tryz.func98, Tryz.ntmps98
    go_wp2
    go_ret
    exact ⟨_, rfl, Nat.le_refl _, Blk.new' rfl, gr⟩
end Go.Proofs.YtpmfpgbpndobpaaGreat
