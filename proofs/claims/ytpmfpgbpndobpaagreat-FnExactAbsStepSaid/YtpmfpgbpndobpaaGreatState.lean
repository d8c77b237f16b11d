/- Lemmas and walks of this proof, some texts one behind the other. No condition. -/
import Derived.Test.YtpmfpgbpndobpaaGreatGlue
import Derived.Test.YtpmfpgbpndobpaaGreatData
import Derived.Test.YtpmfpgbpndobpaaGreatSums
set_option linter.unusedSimpArgs false
set_option linter.unusedVariables false
/- What the laws mark in memory, and that the marks are held. No condition. -/
namespace Go.Proofs.YtpmfpgbpndobpaaGreat
open Go.RowKit
set_option linter.unusedVariables false
attribute [local go_sem] ext_cell ext_frozen ext_lt ext_le ext_le1 lt_s2 lt_s3 lt_s4 lt_s5 lt_s6 ext_lt1 ext_lt2 ext_lt3

/-- What marking writes: the numbers from k on. -/
def markI (k m : Nat) : List Value := (List.range m).map fun j => .int .i64 ((k + j : Nat) : Int)
theorem markI_len (k m : Nat) : (markI k m).length = m := by simp [markI]
theorem markI_get (k m j : Nat) (h : j < m) : (markI k m)[j]? = some (.int .i64 ((k + j : Nat) : Int)) := by simp [markI, h]
theorem mark_step {k0 k C N : Nat} {ys : List Value} (hl : ys.length = N) (hN : k * C + C ≤ N) (cs : List Value) (hcl : cs.length = C) (hcs : ∀ r, r < C → cs[r]? = some (.int .i64 ((k0 + k * C + r : Nat) : Int)))
    (h : ∀ j, j < k * C → ys[j]? = (markI k0 N)[j]?) : ∀ j, j < (k + 1) * C → (sets ys (k * C) cs)[j]? = (markI k0 N)[j]? := by
  intro j hj
  rw [Nat.succ_mul] at hj
  rw [sets_get _ _ _ _ (by omega), hcl]
  by_cases h1 : j < k * C
  · rw [if_neg (by omega)]
    exact h j h1
  · rw [if_pos (by omega), hcs _ (by omega), markI_get _ _ _ (by omega), show k0 + k * C + (j - k * C) = k0 + j from by omega]
theorem mark_all {k0 C n : Nat} {ys : List Value} (hl : ys.length = n * C) (h : ∀ j, j < n * C → ys[j]? = (markI k0 (n * C))[j]?) : ys = markI k0 (n * C) := by
  apply List.ext_getElem?
  intro j
  by_cases hj : j < n * C
  · exact h j hj
  · rw [List.getElem?_eq_none (by omega), List.getElem?_eq_none (by rw [markI_len]; omega)]

set_option maxHeartbeats 4000000 in
theorem markItvItvS (a : Option Addr) (n cap : Nat) (k0 : Nat) (cs : List Value) (B : Nat) (w : World) (ho : w.ownsRow B 31 2 (.slice a n cap) n cs) (hk0 : k0 ≤ 1125899906842624) (hm : n ≤ 1099511627776) :
    Calls Tryz.prog 82 #[.slice a n cap, .int .i64 k0] w fun e w' => e = .returned (.int .i64 ((k0 + n * 2 : Nat) : Int)) ∧
      w'.ownsRow B 31 2 (.slice a n cap) n (markI k0 (n * 2)) ∧ Chg (fun b => (Value.slice a n cap).ownBlock = some b) w w' := by
  have HO := Lib.hid ho; clear ho
  go_enter Tryz.func82, Tryz.ntmps82
  go_wp2
  go_loopw [1, 5] (fun kk i wr => ∃ k K : Nat, k ≤ n ∧ K = k0 + k * 2 ∧ i = .int .i64 k ∧ kk = .int .i64 K ∧ Chg (fun b => (Value.slice a n cap).ownBlock = some b) w wr ∧
    ∃ ys, wr.ownsRow B 31 2 (.slice a n cap) n ys ∧ ∀ j, j < k * 2 → ys[j]? = (markI k0 (n * 2))[j]?) (fun _ i _ => n - (intOf i).toNat)
  case atStart => exact ⟨0, k0, Nat.zero_le _, by omega, rfl, rfl, Chg.refl _ _, _, HO.out, fun j hj => absurd hj (by omega)⟩
  case round =>
    obtain ⟨k, K, hk, hK, rfl, rfl, hg, ys, how, hys⟩ := hrel
    have hK1 : K ≤ 1135000000000000 := by omega
    have HK := Lib.hid hK; clear hK
    by_cases hlt : k < n
    · obtain ⟨g, rfl⟩ : ∃ g, a = some ⟨g, 0, none⟩ := by
        rcases how.2 with ⟨h1, h2⟩ | ⟨g, cap', cur, h1, _⟩
        · omega
        · simp only [Value.slice.injEq] at h1
          exact ⟨g, h1.1⟩
      have HH := Lib.hid hys; clear hys
      have HG := Lib.hid hg; clear hg
      have HW := Lib.hid how; clear how
      obtain ⟨y0, e0⟩ := own_some HW.out (j := k * 2) (by omega)
      obtain ⟨y1, e1⟩ := own_some HW.out (j := k * 2 + 1) (by omega)
      have f0 := fun j => HW.out.frozenAt j
      go_wp2
      go_roundw
      case rel =>
        have hK := HK.out
        obtain ⟨ho', hg'⟩ := own_sets ([.int .i64 (K : Int), .int .i64 ((K : Int) + 1)]) _ _ (k * 2) HW.out
        refine ⟨k + 1, K + 2, by omega, by omega, by go_num, by go_num, (HG.out.trans (Chg.of_grownBy hg') (fun _ _ h => h) (fun i _ h => h)), _, ho', mark_step HW.out.1 (by omega) _ rfl (fun r hr => ?_) HH.out⟩
        match r, hr with
          | 0, _ => rw [← hK]; rfl
          | 1, _ => rw [← hK]; rfl
      case measure => simp [intOf]; omega
    · obtain rfl : k = n := by omega
      have hfin := mark_all how.1 hys
      subst hfin
      clear hys
      have HW := Lib.hid how; clear how
      have HG := Lib.hid hg; clear hg
      go_wp2
      go_ret
      exact ⟨by rw [HK.out]; rfl, HW.out, HG.out⟩

set_option maxHeartbeats 2000000 in
theorem heldItvItvS (a : Option Addr) (n cap : Nat) (k0 : Nat) (w : World) (hr : Rd w a n 2 (markI k0 (n * 2))) (hk0 : k0 ≤ 1125899906842624) (hm : n ≤ 1099511627776) :
    Calls Tryz.prog 83 #[.slice a n cap, .int .i64 k0] w fun e w' => e = .returned (.int .i64 ((k0 + n * 2 : Nat) : Int)) ∧ w = w' := by
  have HR := Lib.hid hr; clear hr
  go_enter Tryz.func83, Tryz.ntmps83
  go_wp2
  go_loop [1, 5] (fun kk i => ∃ k K : Nat, k ≤ n ∧ K = k0 + k * 2 ∧ i = .int .i64 k ∧ kk = .int .i64 K) (fun _ i => n - (intOf i).toNat)
  case atStart => exact ⟨0, k0, Nat.zero_le _, by omega, rfl, rfl⟩
  case round =>
    obtain ⟨k, K, hk, hK, rfl, rfl⟩ := hrel
    have hK1 : K ≤ 1135000000000000 := by omega
    have HK := Lib.hid hK; clear hK
    by_cases hlt : k < n
    · obtain ⟨b, off, rfl, hcell⟩ : ∃ b off, a = some ⟨b, off, none⟩ ∧ ∀ j, j < n * 2 → w.cell? ⟨b, off + j, none⟩ = some (.int .i64 ((k0 + j : Nat) : Int)) := by
        rcases HR.out.2 with h0 | ⟨b, off, e, hc⟩
        · have := markI_len k0 (n * 2)
          rw [h0, List.length_nil] at this
          omega
        · exact ⟨b, off, e, fun j hj => hc j _ (markI_get _ _ _ hj)⟩
      have c0 := hcell (k * 2) (by omega)
      have c1 := hcell (k * 2 + 1) (by omega)
      rw [show k0 + (k * 2) = K from by have := HK.out; omega] at c0
      rw [show k0 + (k * 2 + 1) = K + 1 from by have := HK.out; omega] at c1
      clear hcell
      simp only [← Nat.add_assoc] at c0 c1
      go_wp2
      go_round
      case rel => exact ⟨k + 1, K + 2, by omega, by have := HK.out; omega, by go_num, by go_num⟩
      case measure => simp [intOf]; omega
    · obtain rfl : k = n := by omega
      go_wp2
      go_ret
      exact ⟨by rw [HK.out]; rfl, rfl⟩

set_option maxHeartbeats 4000000 in
theorem markInsInsS (a : Option Addr) (n cap : Nat) (k0 : Nat) (cs : List Value) (B : Nat) (w : World) (ho : w.ownsRow B 28 8 (.slice a n cap) n cs) (hk0 : k0 ≤ 1125899906842624) (hm : n ≤ 1099511627776) :
    Calls Tryz.prog 124 #[.slice a n cap, .int .i64 k0] w fun e w' => e = .returned (.int .i64 ((k0 + n * 8 : Nat) : Int)) ∧
      w'.ownsRow B 28 8 (.slice a n cap) n (markI k0 (n * 8)) ∧ Chg (fun b => (Value.slice a n cap).ownBlock = some b) w w' := by
  have HO := Lib.hid ho; clear ho
  go_enter Tryz.func124, Tryz.ntmps124
  go_wp2
  go_loopw [1, 5] (fun kk i wr => ∃ k K : Nat, k ≤ n ∧ K = k0 + k * 8 ∧ i = .int .i64 k ∧ kk = .int .i64 K ∧ Chg (fun b => (Value.slice a n cap).ownBlock = some b) w wr ∧
    ∃ ys, wr.ownsRow B 28 8 (.slice a n cap) n ys ∧ ∀ j, j < k * 8 → ys[j]? = (markI k0 (n * 8))[j]?) (fun _ i _ => n - (intOf i).toNat)
  case atStart => exact ⟨0, k0, Nat.zero_le _, by omega, rfl, rfl, Chg.refl _ _, _, HO.out, fun j hj => absurd hj (by omega)⟩
  case round =>
    obtain ⟨k, K, hk, hK, rfl, rfl, hg, ys, how, hys⟩ := hrel
    have hK1 : K ≤ 1135000000000000 := by omega
    have HK := Lib.hid hK; clear hK
    by_cases hlt : k < n
    · obtain ⟨g, rfl⟩ : ∃ g, a = some ⟨g, 0, none⟩ := by
        rcases how.2 with ⟨h1, h2⟩ | ⟨g, cap', cur, h1, _⟩
        · omega
        · simp only [Value.slice.injEq] at h1
          exact ⟨g, h1.1⟩
      have HH := Lib.hid hys; clear hys
      have HG := Lib.hid hg; clear hg
      have HW := Lib.hid how; clear how
      obtain ⟨y0, e0⟩ := own_some HW.out (j := k * 8) (by omega)
      obtain ⟨y1, e1⟩ := own_some HW.out (j := k * 8 + 1) (by omega)
      obtain ⟨y2, e2⟩ := own_some HW.out (j := k * 8 + 2) (by omega)
      obtain ⟨y3, e3⟩ := own_some HW.out (j := k * 8 + 3) (by omega)
      obtain ⟨y4, e4⟩ := own_some HW.out (j := k * 8 + 4) (by omega)
      obtain ⟨y5, e5⟩ := own_some HW.out (j := k * 8 + 5) (by omega)
      obtain ⟨y6, e6⟩ := own_some HW.out (j := k * 8 + 6) (by omega)
      obtain ⟨y7, e7⟩ := own_some HW.out (j := k * 8 + 7) (by omega)
      have f0 := fun j => HW.out.frozenAt j
      go_wp2
      go_roundw
      case rel =>
        have hK := HK.out
        obtain ⟨ho', hg'⟩ := own_sets ([.int .i64 (K : Int), .int .i64 ((K : Int) + 1), .int .i64 ((K : Int) + 1 + 1), .int .i64 ((K : Int) + 1 + 1 + 1), .int .i64 ((K : Int) + 1 + 1 + 1 + 1), .int .i64 ((K : Int) + 1 + 1 + 1 + 1 + 1), .int .i64 ((K : Int) + 1 + 1 + 1 + 1 + 1 + 1), .int .i64 ((K : Int) + 1 + 1 + 1 + 1 + 1 + 1 + 1)]) _ _ (k * 8) HW.out
        refine ⟨k + 1, K + 8, by omega, by omega, by go_num, by go_num, (HG.out.trans (Chg.of_grownBy hg') (fun _ _ h => h) (fun i _ h => h)), _, ho', mark_step HW.out.1 (by omega) _ rfl (fun r hr => ?_) HH.out⟩
        match r, hr with
          | 0, _ => rw [← hK]; rfl
          | 1, _ => rw [← hK]; rfl
          | 2, _ => rw [← hK]; rfl
          | 3, _ => rw [← hK]; rfl
          | 4, _ => rw [← hK]; rfl
          | 5, _ => rw [← hK]; rfl
          | 6, _ => rw [← hK]; rfl
          | 7, _ => rw [← hK]; rfl
      case measure => simp [intOf]; omega
    · obtain rfl : k = n := by omega
      have hfin := mark_all how.1 hys
      subst hfin
      clear hys
      have HW := Lib.hid how; clear how
      have HG := Lib.hid hg; clear hg
      go_wp2
      go_ret
      exact ⟨by rw [HK.out]; rfl, HW.out, HG.out⟩

end Go.Proofs.YtpmfpgbpndobpaaGreat
/- A block that is known whole. No condition. -/
namespace Go.Proofs.YtpmfpgbpndobpaaGreat
open Go.RowKit
set_option linter.unusedVariables false

/-! A block that is known whole. -/
def Blk (w : World) (g : Nat) (t : TypeId) (cs : Array Value) : Prop := w.heap[g]? = some (.cells cs t (0, 0))
section
variable {w w' : World} {g : Nat} {t : TypeId} {cs : Array Value}
theorem Blk.lt (h : Blk w g t cs) : g < w.heap.size := by
  rcases Nat.lt_or_ge g w.heap.size with hlt | hge
  · exact hlt
  · unfold Blk at h; rw [Array.getElem?_eq_none hge] at h; cases h
theorem Blk.cell (h : Blk w g t cs) (i : Nat) : w.cell? ⟨g, i, none⟩ = cs[i]? := cell_of_row w g i cs t (0, 0) h
theorem Blk.frozen (h : Blk w g t cs) (i : Nat) : w.frozen? ⟨g, i, none⟩ = false := by
  unfold Blk at h
  simp [World.frozen?, h]
theorem Blk.new (w : World) (t : TypeId) (cs : Array Value) : Blk (w.alloc (.cells cs t)) w.heap.size t cs := heap_alloc_new w _
theorem Blk.grew (h : Blk w g t cs) (hb : Grew w w') : Blk w' g t cs := (hb.block g h.lt).trans h
theorem Blk.alloc (h : Blk w g t cs) (o : Obj) : Blk (w.alloc o) g t cs := (Below.heap_alloc w o g h.lt).trans h
theorem Blk.set_ (h : Blk w g t cs) (i : Nat) (u : Value) : Blk (w.setCell ⟨g, i, none⟩ u) g t (cs.setIfInBounds i u) := by
  unfold Blk at h ⊢
  simp [World.setCell, Array.getElem?_modify, h]
theorem Blk.far (h : Blk w g t cs) {p : Addr} (hp : g ≠ p.block) (u : Value) : Blk (w.setCell p u) g t cs := (Below.heap_setCell w p u g hp).trans h
theorem Blk.chg {F : Nat → Prop} (h : Blk w g t cs) (hb : Chg F w w') (hF : ¬ F g) : Blk w' g t cs := (hb.block g h.lt hF).trans h
end
end Go.Proofs.YtpmfpgbpndobpaaGreat

/- States: how they lie in memory; compared, marked; what comes to a procedure's beginning. No condition. -/
namespace Go.Proofs.YtpmfpgbpndobpaaGreat
open Go.RowKit
set_option linter.unusedVariables false
attribute [local go_sem] ext_cell ext_frozen ext_lt ext_le ext_le1 lt_s2 lt_s3 lt_s4 lt_s5 lt_s6 ext_lt1 ext_lt2 ext_lt3

/-- A state. -/
structure St where
  on : Bool
  vars : List Itv
  lo : Int
  hi : Int
  deriving DecidableEq
/-- A state by value, its variables in a row that a call owns. -/
def OwnSt (w : World) (B : Nat) (val : Value) (s : St) : Prop :=
  ∃ a c, val = .agg #[.bool s.on, .slice a s.vars.length c, .int .i64 s.lo, .int .i64 s.hi] ∧ w.ownsRow B 31 2 (.slice a s.vars.length c) s.vars.length (s.vars.flatMap Itv.cells)

theorem cloneItv (a : Option Addr) (n cap : Nat) (xs : List Itv) (w : World) (hr : RdL EItv 2 w a n xs) (hrd : Rd w a n 2 (xs.flatMap Itv.cells)) (hn : 0 < n) (hm : n ≤ 1048576) :
    Calls Tryz.prog 103 #[.slice a n cap] w fun e w' => ∃ a' c', e = .returned (.slice a' n c') ∧ w'.ownsRow w.heap.size 31 2 (.slice a' n c') n (xs.flatMap Itv.cells) ∧ Grew w w' := by
  obtain ⟨b, off, lo, hi, rfl, hx, c0, c1, hb⟩ := rdItv_at hr hn
  have h0 : (w.alloc (.cells #[] 31)).ownsRow w.heap.size 31 2 (.slice (some ⟨w.heap.size, 0, none⟩) 0 0) 0 [] := World.ownsRow_lit w #[] 0 (Nat.le_refl _) (Nat.zero_le _) rfl
  obtain ⟨v1, w1, hrun, o1, g1, -⟩ := owns_append (P := Tryz.prog) _ itvEl h0 _ n cap _ (hrd.grew ((Below.refl _ _).alloc (Nat.le_refl _) _)) (itv_one _) (by omega) (by omega) (by simp)
  simp only [Nat.zero_add, List.nil_append] at o1
  have b1 : Grew w w1 := ((Below.refl _ _).alloc (Nat.le_refl _) _).grown g1 (by simp) (fun j hj => by simp [Value.ownBlock] at hj; omega)
  obtain ⟨a', c', rfl⟩ := owns_slice o1
  have R := Lib.hid hrun; clear hrun
  have O := Lib.hid o1; clear o1
  have G := Lib.hid b1; clear b1 g1 h0 hr hrd hx c0 c1
  have q : ∀ (w : World) (a : Option Addr) (n c n' c' : Nat), (binOp .eql 29 (.slice a n c) (.slice none n' c')).run Tryz.prog w = .ok (.bool a.isNone) w := fun w a n c n' c' => Lib.run_eql_slice_nil w _ _ a n c n' c' Tryz.underlying29
  go_enter Tryz.func103, Tryz.ntmps103
  go_wp2_with (at_builtin; refine wpList_append_run rfl _ _ rfl rfl rfl rfl R.out ?_)
  go_ret
  exact ⟨a', c', rfl, O.out, G.out⟩

set_option maxHeartbeats 2000000 in
theorem eqAbsState (on on' : Bool) (a a' : Option Addr) (n n' c c' : Nat) (xs ys : List Itv) (lo hi lo' hi' : Int) (w : World) (hr : RdL EItv 2 w a n xs) (hr' : RdL EItv 2 w a' n' ys) (hn : n ≤ 9223372036854775807) (hn' : n' ≤ 9223372036854775807) :
    Calls Tryz.prog 32 #[.agg #[.bool on, .slice a n c, .int .i64 lo, .int .i64 hi], .agg #[.bool on', .slice a' n' c', .int .i64 lo', .int .i64 hi']] w
      fun e w' => e = .returned (.bool (decide ((⟨on, xs, lo, hi⟩ : St) = ⟨on', ys, lo', hi'⟩))) ∧ Grew w w' := by
  have C := fun W (h : Grew w W) => eqItvItvS a a' n n' c c' xs ys W (hr.grew staysItv h) (hr'.grew staysItv h) hn hn'
  have C2 := fun w => eqItvItv ⟨lo, hi⟩ ⟨lo', hi'⟩ w
  clear hr hr'
  obtain ⟨B, hB⟩ : ∃ B, decide (xs = ys) = B := ⟨_, rfl⟩
  obtain ⟨D, hD⟩ : ∃ D, itvEqB ⟨lo, hi⟩ ⟨lo', hi'⟩ = D := ⟨_, rfl⟩
  rw [hB] at C
  rw [hD] at C2
  have HC := Lib.hid C; clear C
  have HC2 := Lib.hid C2; clear C2
  have HV : Hid (decide ((⟨on, xs, lo, hi⟩ : St) = ⟨on', ys, lo', hi'⟩) = (decide (on = on') && (B && D))) := Lib.hid (by
    rw [← hB, ← hD]
    simp [itvEqB])
  rw [HV.out]
  clear HV hB hD
  cases on <;> cases on' <;> cases B <;> cases D
  all_goals
    go_enter Tryz.func32, Tryz.ntmps32
    go_wp2_with (first | ((with_reducible refine (HC.out _ (gr)).mono ?_); rintro e w' ⟨rfl, g'⟩; (first | obtain ⟨y, rfl⟩ := ext_cold g' | obtain ⟨y, rfl⟩ := ext_col g' | obtain ⟨y, rfl⟩ := ext_of g'); clear g') | ((with_reducible refine (HC2.out _).mono ?_); rintro e w' ⟨rfl, g'⟩; (first | obtain ⟨z, rfl⟩ := ext_cold g' | obtain ⟨z, rfl⟩ := ext_col g' | obtain ⟨z, rfl⟩ := ext_of g'); clear g'))
    go_ret
    refine ⟨rfl, ?_⟩
    exact gr

theorem markAbsState (on : Bool) (a : Option Addr) (n c : Nat) (lo hi : Int) (k0 : Nat) (cs : List Value) (B : Nat) (w : World) (ho : w.ownsRow B 31 2 (.slice a n c) n cs) (hk0 : k0 ≤ 1125899906842624) (hm : n ≤ 1099511627776) :
    Calls Tryz.prog 35 #[.agg #[.bool on, .slice a n c, .int .i64 lo, .int .i64 hi], .int .i64 k0] w fun e w' => e = .returned (.int .i64 ((k0 + n * 2 : Nat) : Int)) ∧
      w'.ownsRow B 31 2 (.slice a n c) n (markI k0 (n * 2)) ∧ Chg (fun b => (Value.slice a n c).ownBlock = some b) w w' := by
  have hlt := ho.lt
  have C := markItvItvS a n c k0 cs B (w.alloc (.cells #[.bool on, .slice a n c, .int .i64 lo, .int .i64 hi] 33)) (ho.alloc _) hk0 hm
  have HC := Lib.hid C; clear C ho
  have HLT := Lib.hid hlt; clear hlt
  go_enter Tryz.func35, Tryz.ntmps35
  go_wp2_with fail
  refine HC.out.mono ?_
  rintro e w1 ⟨rfl, o1, g1⟩
  have O1 := Lib.hid o1; clear o1
  have G1 := Lib.hid g1; clear g1
  go_wp2
  go_ret
  exact ⟨rfl, O1.out, (Chg.of_below (F := fun b => (Value.slice a n c).ownBlock = some b) (grew_al (Below.refl _ _) _)).trans G1.out (fun _ _ h => h) (fun _ _ h => h)⟩

/-- A state behind a pointer: four variables and the cells. -/
def stArr (a b c d e : Itv) : Array Value := #[.int .i64 a.lo, .int .i64 a.hi, .int .i64 b.lo, .int .i64 b.hi, .int .i64 c.lo, .int .i64 c.hi, .int .i64 d.lo, .int .i64 d.hi, .int .i64 e.lo, .int .i64 e.hi]

/-- A row of cells in the midst of a block reads. -/
theorem rd_blk {w : World} {g : Nat} {t : TypeId} {cs : Array Value} (h : Blk w g t cs) (off n size : Nat) (xs : List Value) (hl : xs.length = n * size) (hx : ∀ j u, xs[j]? = some u → cs[off + j]? = some u) : Rd w (some ⟨g, off, none⟩) n size xs :=
  ⟨hl, .inr ⟨g, off, rfl, fun j u hu => by rw [h.cell]; exact hx j u hu⟩⟩

set_option maxHeartbeats 1000000 in
theorem stAbs (g : Nat) (a b c d e : Itv) (w : World) (hb : Blk w g 110 (stArr a b c d e)) :
    Calls Tryz.prog 55 #[.pointer (some ⟨g, 0, none⟩)] w fun en w' => ∃ val, en = .returned val ∧ OwnSt w' w.heap.size val ⟨true, [a, b, c, d], e.lo, e.hi⟩ ∧ Grew w w' := by
  have hrd := rd_blk hb 0 4 2 ([a, b, c, d].flatMap Itv.cells) rfl (fun j u hu => by
    rw [Nat.zero_add]
    match j, hu with
    | 0, hu => exact hu
    | 1, hu => exact hu
    | 2, hu => exact hu
    | 3, hu => exact hu
    | 4, hu => exact hu
    | 5, hu => exact hu
    | 6, hu => exact hu
    | 7, hu => exact hu
    | (k + 8), hu => simp [Itv.cells] at hu)
  have hrl : RdL EItv 2 w (some ⟨g, 0, none⟩) 4 [a, b, c, d] := rdl_of_rd Itv.cells (by omega) itv_len rfl hrd (fun x _ => rfl)
  have HRD := Lib.hid hrd; clear hrd
  have HRL := Lib.hid hrl; clear hrl
  have hlt := hb.lt
  have c8 : w.cell? ⟨g, 8, none⟩ = some (.int .i64 e.lo) := hb.cell 8
  have c9 : w.cell? ⟨g, 9, none⟩ = some (.int .i64 e.hi) := hb.cell 9
  obtain ⟨q0, q1, q2⟩ := lt3 hlt
  clear hb
  have nq : ∀ (w : World) (p : Addr), (binOp .eql 97 (.pointer (some p)) (.pointer none)).run Tryz.prog w = .ok (.bool false) w := fun w p => by simp [go_sem]
  go_enter Tryz.func55, Tryz.ntmps55
  go_wp2_with fail
  go_region_held3 (fun W => W.cell? ⟨g, 8, none⟩ = some (.int .i64 e.lo) ∧ W.cell? ⟨g, 9, none⟩ = some (.int .i64 e.hi)) (first | assumption | (refine ⟨?_, ?_⟩ <;> simp [go_sem, *]))
    (first
    | (go_at_call 103; refine (cloneItv _ 4 4 [a, b, c, d] _ (HRL.out.grew staysItv (gr)) (HRD.out.grew (gr)) (by omega) (by omega)).mono ?_; rintro e' w1 ⟨a', c', rfl, o1, g1⟩; have O1 := Lib.hid o1; clear o1; (first | obtain ⟨y, rfl⟩ := ext_cold g1 | obtain ⟨y, rfl⟩ := ext_col g1 | obtain ⟨y, rfl⟩ := ext_of g1); clear g1))
  go_wp2
  go_returns
  refine ⟨_, rfl, ⟨a', c', rfl, ?_⟩, ?_⟩
  · exact owns_mono (owns_set (owns_set (owns_set (owns_set O1.out (by simp) _) (by simp) _) (by simp) _) (by simp) _) (by simp <;> omega)
  · exact gr

end Go.Proofs.YtpmfpgbpndobpaaGreat
