/- Lemmas and walks of this proof, some texts one behind the other. No condition. -/
import Derived.Test.YtnjoofpllhbccaaGreatGg
import Derived.Deep.RegionHeld3
set_option linter.unusedSimpArgs false
set_option linter.unusedVariables false
/- The call graph, the reference's side: what a procedure calls, what can be come to from it, its part. No condition. -/
namespace Go.Proofs.YtnjoofpllhbccaaGreat
open Go.RowKit
set_option linter.unusedVariables false
set_option linter.unusedSimpArgs false
attribute [local go_sem] ext_cell ext_frozen ext_lt ext_le ext_le1 lt_s2 lt_s3 lt_s4 lt_s5 lt_s6 ext_lt1 ext_lt2 ext_lt3

theorem owns_n {w : World} {B n m size : Nat} {e : TypeId} {v : Value} {xs : List Value} (h : w.ownsRow B e size v m xs) (hn : n = m) : w.ownsRow B e size v n xs := hn ▸ h
/-- One number is put behind a row of the call's own. -/
theorem appOne {w W : World} {vs : List Int} {n : Nat} {a1 : Option Addr} {c1 : Nat} (z : Int) (h1 : W.ownsRow w.heap.size 3 1 (.slice a1 n c1) n (ints .i64 vs)) (h2 : n ≤ 1048580) (h3 : Grew w W) :
    ∃ a2 c2 W2, (Builtin.append_ #[28, 28] 28 #[.slice a1 n c1, .slice (some ⟨W.heap.size, 0, none⟩) 1 1]).run Tryz.prog (W.alloc (.cells #[.int .i64 z] 3)) = .ok (.slice a2 (n + 1) c2) W2 ∧ W2.ownsRow w.heap.size 3 1 (.slice a2 (n + 1) c2) (n + 1) (ints .i64 (vs ++ [z])) ∧ Grew w W2 := by
  obtain ⟨v3, w3, hrun3, o3, g3, -⟩ := owns_append_lit (P := Tryz.prog) W intEl h1 1 [.int .i64 z] rfl (by simp [Value.oneCell']) (by omega) (by omega) h3.size
  obtain ⟨a2, c2, rfl⟩ := owns_slice o3
  exact ⟨a2, c2, w3, hrun3, by rw [ints_append]; exact o3, h3.grown g3 h3.size (fun j hj => (h1.lt j hj).1)⟩

set_option maxRecDepth 100000 in
set_option maxHeartbeats 2000000 in
theorem l6Put (a : Option Addr) (n cap : Nat) (zs : List Int) (x : Int) (w : World) (hr : Rd w a n 1 (ints .i64 zs)) (hm : n ≤ 1048576) :
    Calls Tryz.prog 48 #[.slice a n cap, .int .i64 x] w (RetIs (putF zs x) w) := by
  have hl := Lib.hid hr.len1
  have HR := Lib.hid hr; clear hr
  have H0 := Lib.hid (show (w.alloc (.cells #[] 3)).ownsRow w.heap.size 3 1 (.slice (some ⟨w.heap.size, 0, none⟩) 0 0) 0 (ints .i64 []) from World.ownsRow_lit w #[] 0 (Nat.le_refl _) (Nat.zero_le _) rfl)
  go_enter Tryz.func48, Tryz.ntmps48
  go_wp2
  go_loopw [5, 6, 7] (fun v d i wr => ∃ k : Nat, k ≤ n ∧ i = .int .i64 k ∧ d = .bool (putP x (zs.take k)).2 ∧ Grew w wr ∧ wr.ownsRow w.heap.size 3 1 v (putP x (zs.take k)).1.length (ints .i64 (putP x (zs.take k)).1)) (fun _ _ i _ => n - (Go.RowKit.intOf i).toNat)
  case atStart => exact ⟨0, Nat.zero_le _, rfl, rfl, grew_al (Below.refl _ _) _, H0.out⟩
  case round =>
    clear H0
    obtain ⟨k, hk, rfl, hd, hg, ho⟩ := hrel
    have hlen := putP_len x (zs.take k)
    have hlk : (zs.take k).length ≤ k := List.length_take_le _ _
    obtain ⟨S, hS⟩ : ∃ S, putP x (zs.take k) = S := ⟨_, rfl⟩
    rw [hS] at hd ho hlen
    obtain ⟨out, d⟩ := S
    subst hd
    dsimp only at ho hlen ⊢
    obtain ⟨oa, oc, rfl⟩ := owns_slice ho
    have HS := Lib.hid hS; clear hS
    by_cases hlt : k < n
    · obtain ⟨b, off, y, rfl, hy, hcw⟩ := HR.out.at1 hlt
      have lb := World.block_lt_of_cell? w _ hcw
      have hcell := (hg.cell (p := ⟨b, off + k, none⟩) lb).trans hcw
      have HT : Hid (putP x (zs.take (k + 1)) = putS x (out, d) y) := Lib.hid (by rw [take_get hy, putP_snoc, HS.out])
      clear hy HS
      cases d
      · by_cases h1 : x < y
        · have b1 : (y == x) = false := by simp; omega
          obtain ⟨a2, c2, w2, r2, o2, g2⟩ := appOne x ho (by omega) hg
          obtain ⟨a3, c3, w3, r3, o3, g3⟩ := appOne y o2 (by omega) g2
          have hcell2 := (g2.cell (p := ⟨b, off + k, none⟩) lb).trans hcw
          have HE : Hid (putS x (out, false) y = (out ++ [x] ++ [y], true)) := Lib.hid (by simp [putS, h1])
          have R2 := Lib.hid r2
          have R3 := Lib.hid r3
          have O3 := Lib.hid o3
          have G3 := Lib.hid g3
          clear r2 r3 o2 o3 g2 g3 ho hg hcw
          go_wp2_with (first | (at_builtin; refine wpList_append_run rfl _ _ rfl rfl rfl rfl R2.out ?_; clear R2) | (at_builtin; refine wpList_append_run rfl _ _ rfl rfl rfl rfl R3.out ?_))
          go_roundw
          case rel => exact ⟨k + 1, by omega, by go_num, by rw [HT.out, HE.out], G3.out, by rw [HT.out, HE.out]; exact owns_n O3.out (by simp)⟩
          case measure => simp [Go.RowKit.intOf]; omega
        · have h1' : y ≤ x := by omega
          obtain ⟨a2, c2, w2, r2, o2, g2⟩ := appOne y ho (by omega) hg
          have R2 := Lib.hid r2
          have O2 := Lib.hid o2
          have G2 := Lib.hid g2
          by_cases h2 : y = x
          · subst h2
            have b1 : (y == y) = true := by simp
            have HE : Hid (putS y (out, false) y = (out ++ [y], true)) := Lib.hid (by simp [putS])
            clear r2 o2 g2 ho hg hcw h1
            go_wp2_with (at_builtin; refine wpList_append_run rfl _ _ rfl rfl rfl rfl R2.out ?_)
            go_roundw
            case rel => exact ⟨k + 1, by omega, by go_num, by rw [HT.out, HE.out], G2.out, by rw [HT.out, HE.out]; exact owns_n O2.out (by simp)⟩
            case measure => simp [Go.RowKit.intOf]; omega
          · have b1 : (y == x) = false := by simp [h2]
            have HE : Hid (putS x (out, false) y = (out ++ [y], false)) := Lib.hid (by simp [putS, h1, h2])
            clear r2 o2 g2 ho hg hcw h2
            go_wp2_with (at_builtin; refine wpList_append_run rfl _ _ rfl rfl rfl rfl R2.out ?_)
            go_roundw
            case rel => exact ⟨k + 1, by omega, by go_num, by rw [HT.out, HE.out], G2.out, by rw [HT.out, HE.out]; exact owns_n O2.out (by simp)⟩
            case measure => simp [Go.RowKit.intOf]; omega
      · obtain ⟨a2, c2, w2, r2, o2, g2⟩ := appOne y ho (by omega) hg
        have R2 := Lib.hid r2
        have O2 := Lib.hid o2
        have G2 := Lib.hid g2
        have HE : Hid (putS x (out, true) y = (out ++ [y], true)) := Lib.hid (by simp [putS])
        clear r2 o2 g2 ho hg hcw
        by_cases h2 : y = x
        · subst h2
          have b1 : (y == y) = true := by simp
          go_wp2_with (at_builtin; refine wpList_append_run rfl _ _ rfl rfl rfl rfl R2.out ?_)
          go_roundw
          case rel => exact ⟨k + 1, by omega, by go_num, by rw [HT.out, HE.out], G2.out, by rw [HT.out, HE.out]; exact owns_n O2.out (by simp)⟩
          case measure => simp [Go.RowKit.intOf]; omega
        · have b1 : (y == x) = false := by simp [h2]
          go_wp2_with (at_builtin; refine wpList_append_run rfl _ _ rfl rfl rfl rfl R2.out ?_)
          go_roundw
          case rel => exact ⟨k + 1, by omega, by go_num, by rw [HT.out, HE.out], G2.out, by rw [HT.out, HE.out]; exact owns_n O2.out (by simp)⟩
          case measure => simp [Go.RowKit.intOf]; omega
    · have hE : putP x zs = (out, d) := by
        have := HS.out
        rwa [List.take_of_length_le (by have := hl.out; omega)] at this
      cases d
      · obtain ⟨a2, c2, w2, r2, o2, g2⟩ := appOne x ho (by omega) hg
        have HF : Hid (putF zs x = out ++ [x]) := Lib.hid (by simp [putF, hE])
        have R2 := Lib.hid r2
        have O2 := Lib.hid o2
        have G2 := Lib.hid g2
        clear r2 o2 g2 ho hg hE HS
        go_wp2_with (at_builtin; refine wpList_append_run rfl _ _ rfl rfl rfl rfl R2.out ?_)
        go_ret
        rw [HF.out]
        exact ⟨a2, c2, by simp, owns_n (by simpa using O2.out) (by simp), G2.out⟩
      · have HF : Hid (putF zs x = out) := Lib.hid (by simp [putF, hE])
        have O2 := Lib.hid ho
        have G2 := Lib.hid hg
        clear ho hg hE HS
        go_wp2
        go_ret
        rw [HF.out]
        exact ⟨oa, oc, rfl, O2.out, G2.out⟩

/-- A test that leaves the world. -/
def RetT (b : Bool) (w : World) (e : Ending) (w' : World) : Prop := e = .returned (.bool b) ∧ w = w'
theorem l6Has (a : Option Addr) (n cap : Nat) (zs : List Int) (x : Int) (w : World) (hr : Rd w a n 1 (ints .i64 zs)) (hn : n ≤ 9223372036854775807) :
    Calls Tryz.prog 49 #[.slice a n cap, .int .i64 x] w (RetT (decide (x ∈ zs)) w) := by
  have HL := Lib.hid hr.len1
  have HR := Lib.hid hr; clear hr
  go_enter Tryz.func49, Tryz.ntmps49
  go_wp2
  go_loop [5] (fun i => ∃ k : Nat, k ≤ n ∧ i = .int .i64 k ∧ ¬ x ∈ zs.take k) (fun i => n - (Go.RowKit.intOf i).toNat)
  case atStart => exact ⟨0, Nat.zero_le _, rfl, by simp⟩
  case round =>
    obtain ⟨k, hk, rfl, hall⟩ := hrel
    have HA := Lib.hid hall; clear hall
    by_cases hlt : k < n
    · obtain ⟨b, off, z0, rfl, hx, c0⟩ := HR.out.at1 hlt
      have HX := Lib.hid hx; clear hx
      by_cases hq : z0 = x
      · subst hq
        have b1 : (z0 == z0) = true := by simp
        go_wp2
        go_ret
        rw [decide_eq_true (List.mem_of_getElem? HX.out)]
        exact ⟨rfl, rfl⟩
      · have b1 : (z0 == x) = false := by simp [hq]
        have HQ := Lib.hid hq; clear hq
        go_wp2
        go_round
        case rel =>
          refine ⟨k + 1, by omega, by go_num, fun hz => ?_⟩
          rw [take_get HX.out] at hz
          rcases List.mem_append.1 hz with hz | hz
          · exact HA.out hz
          · exact HQ.out (List.mem_singleton.1 hz).symm
        case measure => simp [Go.RowKit.intOf]; omega
    · go_wp2
      go_ret
      have hno : ¬ x ∈ zs := by
        have := HA.out
        rwa [List.take_of_length_le (by have := HL.out; omega)] at this
      rw [decide_eq_false hno]
      exact ⟨rfl, rfl⟩

theorem putA_scomp (ns : List Int) : putA [] ns = scomp ns := by
  obtain ⟨h1, h2⟩ := putA_spec ns [] List.Pairwise.nil
  exact srt_ext h1 (scomp_srt ns) fun x => by rw [h2, scomp_mem]; simp
theorem putA_len (ns : List Int) : ∀ l : List Int, (putA l ns).length ≤ l.length + 2 * ns.length := by
  induction ns with
  | nil => intro l; simp [putA]
  | cons n ns ih =>
    intro l
    have h1 := ih (putF l n)
    have h2 := putF_len l n
    rw [show putA l (n :: ns) = putA (putF l n) ns from rfl, List.length_cons]
    omega
end Go.Proofs.YtnjoofpllhbccaaGreat

/- The call graph, the reference's side: calls, what can be come to, parts. No condition. -/
namespace Go.Proofs.YtnjoofpllhbccaaGreat
open Go.RowKit
set_option linter.unusedVariables false
set_option linter.unusedSimpArgs false
attribute [local go_sem] ext_cell ext_frozen ext_lt ext_le ext_le1 lt_s2 lt_s3 lt_s4 lt_s5 lt_s6 ext_lt1 ext_lt2 ext_lt3

theorem cs_get {ps : List Prc} {k : Nat} {p : Prc} (h : ps[k]? = some p) : cOf' (csOf ps) (k : Int) = callsL p.code := by
  simp [cOf', csOf, h]
theorem cs_len {ps : List Prc} (hB : prgOkB ps = true) (k : Int) : (cOf' (csOf ps) k).length ≤ 10 := by
  unfold cOf'
  rw [List.getD_eq_getElem?_getD]
  cases hk : (csOf ps)[k.toNat]? with
  | none => simp
  | some l =>
    rw [csOf, List.getElem?_map, Option.map_eq_some_iff] at hk
    obtain ⟨p, hp, rfl⟩ := hk
    simp only [Option.getD_some, callsL]
    have h1 : (scomp (callTo p.code)).length ≤ (callTo p.code).length := by
      refine nodup_sub _ _ (srt_nodup (scomp_srt _)) (fun x hx => (scomp_mem _ x).1 hx)
    have := callTo_len p.code
    have := (prg_code hB (List.mem_of_getElem? hp)).2.1
    omega

set_option maxRecDepth 100000 in
set_option maxHeartbeats 2000000 in
theorem l6Calls (a : Option Addr) (n cap : Nat) (ps : List Prc) (proc : Int) (w : World) (hr : RdP w a n ps) (hn : n ≤ 9223372036854775807) (hB : prgOkB ps = true) (hp : 0 ≤ proc ∧ proc < n) :
    Calls Tryz.prog 47 #[.agg #[.slice a n cap], .int .i64 proc] w (RetIs (cOf' (csOf ps) proc) w) := by
  obtain ⟨k, rfl⟩ := Int.eq_ofNat_of_zero_le hp.1
  have hk : k < n := by omega
  obtain ⟨b, off, lo, hi, is, ia, ic, rfl, hx, c0, c1, c2, hbl, hi1, hi2, hi3⟩ := rdP_at hr hk
  have HX := Lib.hid (cs_get hx)
  have hcode : is.length ≤ 10 := (prg_code hB (List.mem_of_getElem? hx)).2.1
  have hic : is.length ≤ 9223372036854775807 := by omega
  have HI := Lib.hid hi1
  have H0 := Lib.hid (show ((w.alloc (.cells #[.slice (some ⟨b, off, none⟩) n cap] 25)).alloc (.cells #[] 3)).ownsRow w.heap.size 3 1 (.slice (some ⟨w.heap.size + 1, 0, none⟩) 0 0) 0 (ints .i64 []) from by
    simpa [ints] using World.ownsRow_lit (w.alloc (.cells #[.slice (some ⟨b, off, none⟩) n cap] 25)) (e := 3) (size := 1) #[] 0 (base := w.heap.size) (by simp) (Nat.zero_le _) rfl)
  clear hr hx hi1 hB
  go_enter Tryz.func47, Tryz.ntmps47
  go_wp2
  go_loopw [5, 7] (fun v i wr => ∃ m : Nat, m ≤ is.length ∧ i = .int .i64 m ∧ Grew w wr ∧ wr.ownsRow w.heap.size 3 1 v (putA [] (callTo (is.take m))).length (ints .i64 (putA [] (callTo (is.take m))))) (fun _ i _ => is.length - (Go.RowKit.intOf i).toNat)
  case atStart => exact ⟨0, Nat.zero_le _, rfl, by repeat (first | with_reducible exact Below.refl _ _ | with_reducible assumption | with_reducible apply grew_ext | with_reducible apply grew_al | with_reducible apply grew_dn | with_reducible apply grew_d | (with_reducible refine grew_set ?_ (by first | omega | (repeat (first | with_reducible exact Nat.le_refl _ | with_reducible apply le_pl | with_reducible apply le_ext | with_reducible apply le_al))) _)), H0.out⟩
  case round =>
    clear H0
    obtain ⟨m, hm, rfl, hg, ho⟩ := hrel
    have hlen := putA_len (callTo (is.take m)) []
    have hlen2 := callTo_len (is.take m)
    have hlen3 := List.length_take_le m is
    simp only [List.length_nil] at hlen
    obtain ⟨oa, oc, rfl⟩ := owns_slice ho
    by_cases hlt : m < is.length
    · obtain ⟨b2, off2, op, d, ja, jb, rel, lo', hi', to, rfl, hy, d0, d1, d2, d3, d4, d5, d6, d7, hb2⟩ := rdI_at (HI.out.grew stays_ins hg) hlt
      have HT := Lib.hid (show callTo (is.take (m + 1)) = _ from by rw [take_get hy, callTo_snoc])
      clear hy
      by_cases hop : op = 10
      · subst hop
        have HE : Hid (putA [] (callTo (is.take (m + 1))) = putF (putA [] (callTo (is.take m))) to) := Lib.hid (by
          have h := HT.out
          dsimp only at h
          rw [if_pos rfl] at h
          rw [h, putA_snoc])
        have C := Lib.hid (fun W (g : Grew wr W) => l6Put oa _ oc (putA [] (callTo (is.take m))) to W ((owns_rd ho).grew g) (by omega))
        have HG := Lib.hid hg
        clear HT ho hg
        go_wp2_with fail
        refine (C.out _ (Below.refl _ _)).mono ?_
        rintro e w3 ⟨A3, c3, rfl, o3, g3⟩
        have O3 := Lib.hid (owns_mono o3 HG.out.size)
        have G3 := Lib.hid (grew_tr HG.out g3)
        clear o3 g3
        go_wp2
        go_roundw
        case rel => exact ⟨m + 1, by omega, by go_num, G3.out, by rw [HE.out]; exact O3.out⟩
        case measure => simp [Go.RowKit.intOf]; omega
      · have HE : Hid (putA [] (callTo (is.take (m + 1))) = putA [] (callTo (is.take m))) := Lib.hid (by
          have h := HT.out
          dsimp only at h
          rw [if_neg hop, List.append_nil] at h
          rw [h])
        have b1 : (op == 10) = false := by simp [hop]
        have HG := Lib.hid hg
        have HO := Lib.hid ho
        clear HT ho hg hop
        go_wp2
        go_roundw
        case rel => exact ⟨m + 1, by omega, by go_num, HG.out, by rw [HE.out]; exact HO.out⟩
        case measure => simp [Go.RowKit.intOf]; omega
    · have hE : putA [] (callTo (is.take m)) = cOf' (csOf ps) (k : Int) := by rw [HX.out, List.take_of_length_le (by omega), putA_scomp]; rfl
      rw [hE] at ho
      rw [hE]
      have HG := Lib.hid hg
      have HO := Lib.hid ho
      clear hE ho hg hlen
      go_wp2
      go_ret
      exact ⟨oa, oc, rfl, HO.out, HG.out⟩

/-- A rising list of procedures. -/
structure Pl (N : Nat) (l : List Int) : Prop where
  s : Srt l
  b : ∀ x, x ∈ l → 0 ≤ x ∧ x < N
theorem Pl.len {N : Nat} {l : List Int} (h : Pl N l) : l.length ≤ N := srt_len _ _ (srt_nodup h.s) h.b
theorem Pl.putA {N : Nat} {l ns : List Int} (h : Pl N l) (hn : ∀ x, x ∈ ns → 0 ≤ x ∧ x < N) : Pl N (putA l ns) := by
  obtain ⟨h1, h2⟩ := putA_spec ns l h.s
  exact ⟨h1, fun x hx => ((h2 x).1 hx).elim (h.b x) (hn x)⟩
theorem Pl.roundA {N : Nat} {c : Int → List Int} (hc : ∀ k x, x ∈ c k → 0 ≤ x ∧ x < N) {l sn : List Int} (h : Pl N l) : Pl N (roundA c l sn) := by
  obtain ⟨h1, h2⟩ := roundA_spec c sn l h.s
  exact ⟨h1, fun x hx => ((h2 x).1 hx).elim (h.b x) (fun ⟨i, _, hi⟩ => hc i x hi)⟩
theorem Pl.iterA {N : Nat} {c : Int → List Int} (hc : ∀ k x, x ∈ c k → 0 ≤ x ∧ x < N) : ∀ (m : Nat) {l : List Int}, Pl N l → Pl N (iterA c m l)
  | 0, _, h => h
  | m + 1, _, h => Pl.iterA hc m (h.roundA hc)
theorem pl_one {N : Nat} {a : Int} (h : 0 ≤ a ∧ a < N) : Pl N [a] := ⟨by simp, fun x hx => by
  obtain rfl : x = a := by simpa using hx
  exact h⟩

set_option maxRecDepth 100000 in
set_option maxHeartbeats 4000000 in
theorem l6Reach (a : Option Addr) (n cap : Nat) (ps : List Prc) (proc : Int) (w : World) (hr : RdP w a n ps) (hn : n ≤ 9223372036854775807) (hB : prgOkB ps = true) (hp : 0 ≤ proc ∧ proc < n) :
    Calls Tryz.prog 27 #[.agg #[.slice a n cap], .int .i64 proc] w (RetIs (reachL (cOf' (csOf ps)) (csOf ps).length proc) w) := by
  have hl := hr.len
  have hN : (csOf ps).length = n := by rw [csOf_len, hl]
  have hok := gok_of hB
  have hn4 := (prg_len hB).2
  rw [hl] at hn4
  rw [hN]
  have hc : ∀ k x, x ∈ cOf' (csOf ps) k → 0 ≤ x ∧ x < n := fun k x hx => by rw [← hN]; exact hok k x hx
  have HCL := Lib.hid (fun k => cs_len hB k)
  have HC := Lib.hid (fun (proc : Int) (hp : 0 ≤ proc ∧ proc < n) W (g : Grew w W) => l6Calls a n cap ps proc W (hr.grew g) hn hB hp)
  obtain ⟨c, hcc⟩ : ∃ c, cOf' (csOf ps) = c := ⟨_, rfl⟩
  rw [hcc] at HC hc HCL
  rw [hcc]
  have HK := Lib.hid hc
  have H0 := Lib.hid (show ((w.alloc (.cells #[.slice a n cap] 25)).alloc (.cells #[.int .i64 proc] 3)).ownsRow w.heap.size 3 1 (.slice (some ⟨w.heap.size + 1, 0, none⟩) 1 1) 1 (ints .i64 [proc]) from by
    simpa [ints] using World.ownsRow_lit (w.alloc (.cells #[.slice a n cap] 25)) (e := 3) (size := 1) #[.int .i64 proc] 1 (base := w.heap.size) (by simp) (by unfold maxLen; omega) rfl)
  clear hr hl hN hok hB hcc hc
  go_enter Tryz.func27, Tryz.ntmps27
  go_wp2
  go_loopw [5, 6] (fun v i wr => ∃ m : Nat, m ≤ n ∧ i = .int .i64 m ∧ Grew (w.alloc (.cells #[.slice a n cap] 25)) wr ∧ wr.ownsRow w.heap.size 3 1 v (iterA c m [proc]).length (ints .i64 (iterA c m [proc]))) (fun _ i _ => n - (Go.RowKit.intOf i).toNat)
  case atStart => exact ⟨0, Nat.zero_le _, rfl, grew_al (Below.refl _ _) _, H0.out⟩
  case round =>
    clear H0
    obtain ⟨m, hm, rfl, hg, ho⟩ := hrel
    have hpl := Pl.iterA HK.out m (pl_one hp)
    obtain ⟨oa, oc, rfl⟩ := owns_slice ho
    have hb0 : wr.cell? ⟨w.heap.size, 0, none⟩ = some (.slice a n cap) := (hg.cell (p := ⟨w.heap.size, 0, none⟩) (by simp)).trans (by simp [go_sem])
    by_cases hlt : m < n
    · have HE := Lib.hid (iterA_succ c m [proc])
      obtain ⟨S, hS⟩ : ∃ S, iterA c m [proc] = S := ⟨_, rfl⟩
      rw [hS] at HE ho hpl
      rw [hS]
      have HPL := Lib.hid hpl
      have hSl := hpl.len
      have HG := Lib.hid hg
      have HO := Lib.hid ho
      have HRd := Lib.hid (owns_rd ho)
      have hS9 : S.length ≤ 9223372036854775807 := by omega
      clear hS hpl ho hg
      go_wp2
      obtain ⟨wo, hwo⟩ : ∃ wo, wr = wo := ⟨_, rfl⟩
      rw [hwo] at HG HO HRd
      have HWO := Lib.hid hwo
      clear hwo hb0
      go_loopw [5, 8] (fun v i wr => ∃ j : Nat, j ≤ S.length ∧ i = .int .i64 j ∧ Grew wo wr ∧ wr.ownsRow w.heap.size 3 1 v (roundA c S (S.take j)).length (ints .i64 (roundA c S (S.take j)))) (fun _ i _ => S.length - (Go.RowKit.intOf i).toNat)
      case atStart => exact ⟨0, Nat.zero_le _, rfl, by rw [HWO.out]; exact Below.refl _ _, by rw [HWO.out]; exact HO.out⟩
      case round =>
        obtain ⟨j, hj, rfl, hg, ho⟩ := hrel
        obtain ⟨ra, rc, rfl⟩ := owns_slice ho
        have hb0 : wr.cell? ⟨w.heap.size, 0, none⟩ = some (.slice a n cap) := ((grew_tr HG.out hg).cell (p := ⟨w.heap.size, 0, none⟩) (by simp)).trans (by simp [go_sem])
        by_cases hlt2 : j < S.length
        · obtain ⟨b, off, y, rfl, hy, hcell⟩ := (HRd.out.grew hg).at1 hlt2
          have hyb := HPL.out.b y (List.mem_of_getElem? hy)
          have HR2 := Lib.hid (show roundA c S (S.take (j + 1)) = putA (roundA c S (S.take j)) (c y) from by rw [take_get hy, roundA_snoc])
          have HPR := Lib.hid (HPL.out.roundA HK.out (sn := S.take j))
          have HC2 := Lib.hid (fun W (g : Grew wr W) => HC.out y hyb W (grew_tr (grew_tr (grew_al (Below.refl _ _) _) (grew_tr HG.out hg)) g))
          have hcl := HCL.out y
          obtain ⟨R, hR⟩ : ∃ R, roundA c S (S.take j) = R := ⟨_, rfl⟩
          rw [hR] at HR2 HPR ho
          rw [hR]
          obtain ⟨Y, hY⟩ : ∃ Y, c y = Y := ⟨_, rfl⟩
          have HYB := Lib.hid (fun x hx => HK.out y x hx)
          rw [hY] at HR2 HC2 hcl HYB
          have HG2 := Lib.hid hg
          have HO2 := Lib.hid ho
          clear hR hY hg ho hy
          have HSG : Hid (∀ W, Grew wr W → W.cell? ⟨w.heap.size, 0, none⟩ = some (.slice a n cap) ∧ W.cell? ⟨b, off + j, none⟩ = some (.int .i64 y)) := Lib.hid (fun W g => ⟨(g.cell (p := ⟨w.heap.size, 0, none⟩) (World.block_lt_of_cell? wr _ hb0)).trans hb0, (g.cell (p := ⟨b, off + j, none⟩) (World.block_lt_of_cell? wr _ hcell)).trans hcell⟩)
          go_wp2_with fail
          go_region_held3 (fun W => W.cell? ⟨w.heap.size, 0, none⟩ = some (.slice a n cap) ∧ W.cell? ⟨b, off + j, none⟩ = some (.int .i64 y)) (with_reducible (first | assumption | exact HSG.out _ (grew_d (Below.refl _ _))))
            ((go_at_call 47; (with_reducible refine (HC2.out _ (grew_d (Below.refl _ _))).mono ?_); rintro e w5 ⟨A5, c5, rfl, o5, g5⟩; have t5 := HSG.out _ (grew_tr (grew_d (Below.refl _ _)) g5)))
          have O5 := Lib.hid (owns_mono o5 (Nat.le_trans HG.out.size (by have := HG2.out.size; first | exact this | (simp; omega))))
          have G5 := Lib.hid (grew_tr HG2.out (grew_tr (grew_d (Below.refl _ _)) g5))
          have OR := Lib.hid (owns_grew HO2.out (grew_tr (grew_d (Below.refl _ _)) g5))
          have hY9 : Y.length ≤ 9223372036854775807 := by omega
          have hRl := HPR.out.len
          clear HSG hb0 hcell o5 g5 HO2 HG2
          go_wp2
          obtain ⟨w6, hw6⟩ : ∃ w6, w5 = w6 := ⟨_, rfl⟩
          rw [hw6] at O5 G5 OR
          have HW6 := Lib.hid hw6
          clear hw6 t5
          go_loopw [5, 10] (fun v i wr => ∃ q : Nat, q ≤ Y.length ∧ i = .int .i64 q ∧ Grew w6 wr ∧ wr.ownsRow w.heap.size 3 1 v (putA R (Y.take q)).length (ints .i64 (putA R (Y.take q)))) (fun _ i _ => Y.length - (Go.RowKit.intOf i).toNat)
          case atStart => exact ⟨0, Nat.zero_le _, rfl, by rw [HW6.out]; exact Below.refl _ _, by rw [HW6.out]; exact OR.out⟩
          case round =>
            obtain ⟨q, hq, rfl, hg, ho⟩ := hrel
            obtain ⟨xa, xc, rfl⟩ := owns_slice ho
            have hpl3 := (HPR.out.putA (ns := Y.take q) (fun x hx => HYB.out x (List.mem_of_mem_take hx))).len
            by_cases hlt3 : q < Y.length
            · obtain ⟨b3, off3, z, rfl, hz, hzc⟩ := ((owns_rd O5.out).grew hg).at1 hlt3
              have HE3 := Lib.hid (show putA R (Y.take (q + 1)) = putF (putA R (Y.take q)) z from by rw [take_get hz, putA_snoc])
              have C3 := Lib.hid (l6Put xa _ xc (putA R (Y.take q)) z wr (owns_rd ho) (by omega))
              have G6 := Lib.hid hg
              clear hz ho hg
              go_wp2_with fail
              refine C3.out.mono ?_
              rintro e w7 ⟨A7, c7, rfl, o7, g7⟩
              have O7 := Lib.hid (owns_mono o7 (Nat.le_trans (Nat.le_trans (show w.heap.size ≤ wo.heap.size from by have := HG.out.size; simp at this; omega) G5.out.size) G6.out.size))
              have G7 := Lib.hid (grew_tr G6.out g7)
              clear o7 g7 hzc
              go_wp2
              go_roundw
              case rel => exact ⟨q + 1, by omega, by go_num, G7.out, by rw [HE3.out]; exact O7.out⟩
              case measure => simp [Go.RowKit.intOf]; omega
            · obtain rfl : q = Y.length := by omega
              rw [List.take_length] at ho ⊢
              have O7 := Lib.hid ho
              have G7 := Lib.hid (grew_tr G5.out hg)
              clear ho hg
              go_wp2
              go_roundw
              case rel => exact ⟨j + 1, by omega, by go_num, G7.out, by rw [HR2.out]; exact O7.out⟩
              case measure => simp [Go.RowKit.intOf]; omega
        · obtain rfl : j = S.length := by omega
          rw [List.take_length] at ho ⊢
          have O7 := Lib.hid ho
          have G7 := Lib.hid (grew_tr HG.out hg)
          clear ho hg hb0
          go_wp2
          go_roundw
          case rel => exact ⟨m + 1, by omega, by go_num, G7.out, by rw [HE.out]; exact O7.out⟩
          case measure => simp [Go.RowKit.intOf]; omega
    · obtain rfl : m = n := by omega
      have O7 := Lib.hid ho
      have G7 := Lib.hid (grew_tr (grew_al (Below.refl _ _) _) hg)
      clear ho hg
      go_wp2
      go_ret
      exact ⟨oa, oc, rfl, O7.out, G7.out⟩
end Go.Proofs.YtnjoofpllhbccaaGreat

/- The call graph, the reference's side: a procedure's part; the three questions of one procedure. No condition. -/
namespace Go.Proofs.YtnjoofpllhbccaaGreat
open Go.RowKit
set_option linter.unusedVariables false
set_option linter.unusedSimpArgs false
attribute [local go_sem] ext_cell ext_frozen ext_lt ext_le ext_le1 lt_s2 lt_s3 lt_s4 lt_s5 lt_s6 ext_lt1 ext_lt2 ext_lt3

theorem reach_pl {cs : List (List Int)} (h : Gok cs) {a : Int} (ha : 0 ≤ a ∧ a < cs.length) : Pl cs.length (reachL (cOf' cs) cs.length a) := by
  obtain ⟨h1, h2⟩ := reachL_spec h ha
  exact ⟨h1, fun x hx => rch_bd h ha ((h2 x).1 hx)⟩
theorem part_pl {cs : List (List Int)} (h : Gok cs) {a : Int} (ha : 0 ≤ a ∧ a < cs.length) : Pl cs.length (partL (cOf' cs) cs.length a) :=
  ⟨part_srt h ha, fun x hx => rch_bd h ha ((part_mem h ha x).1 hx).1⟩

set_option maxRecDepth 100000 in
set_option maxHeartbeats 4000000 in
theorem l6Part (a : Option Addr) (n cap : Nat) (ps : List Prc) (proc : Int) (w : World) (hr : RdP w a n ps) (hn : n ≤ 9223372036854775807) (hB : prgOkB ps = true) (hp : 0 ≤ proc ∧ proc < n) :
    Calls Tryz.prog 28 #[.agg #[.slice a n cap], .int .i64 proc] w (RetIs (partL (cOf' (csOf ps)) (csOf ps).length proc) w) := by
  have hl := hr.len
  have hN : (csOf ps).length = n := by rw [csOf_len, hl]
  have hok := gok_of hB
  have hn4 := (prg_len hB).2
  rw [hl] at hn4
  have HC := Lib.hid (fun (proc : Int) (hp : 0 ≤ proc ∧ proc < n) W (g : Grew w W) => l6Reach a n cap ps proc W (hr.grew g) hn hB hp)
  have HPL := Lib.hid (fun (x : Int) (hx : 0 ≤ x ∧ x < n) => reach_pl hok (a := x) (by rw [hN]; exact hx))
  obtain ⟨r, hrr⟩ : ∃ r, reachL (cOf' (csOf ps)) (csOf ps).length = r := ⟨_, rfl⟩
  have hP : partL (cOf' (csOf ps)) (csOf ps).length proc = (r proc).filter (fun o => decide (proc ∈ r o)) := by rw [partL, hrr]
  rw [hP]
  rw [hrr, hN] at HPL
  have HC2 : Hid (∀ (proc : Int), 0 ≤ proc ∧ proc < (n : Int) → ∀ W, Grew w W → Calls Tryz.prog 27 #[.agg #[.slice a n cap], .int .i64 proc] W (RetIs (r proc) W)) := Lib.hid (by have := HC.out; rwa [hrr] at this)
  have H0 := Lib.hid (show ((w.alloc (.cells #[.slice a n cap] 25)).alloc (.cells #[] 3)).ownsRow w.heap.size 3 1 (.slice (some ⟨w.heap.size + 1, 0, none⟩) 0 0) 0 (ints .i64 []) from by
    simpa [ints] using World.ownsRow_lit (w.alloc (.cells #[.slice a n cap] 25)) (e := 3) (size := 1) #[] 0 (base := w.heap.size) (by simp) (Nat.zero_le _) rfl)
  have HLP := Lib.hid (HPL.out proc hp)
  clear HC hr hl hN hok hB hrr hP
  go_enter Tryz.func28, Tryz.ntmps28
  go_wp2_with fail
  refine (HC2.out proc hp _ (by repeat (first | with_reducible exact Below.refl _ _ | with_reducible assumption | with_reducible apply grew_ext | with_reducible apply grew_al | with_reducible apply grew_dn | with_reducible apply grew_d | (with_reducible refine grew_set ?_ (by first | omega | (repeat (first | with_reducible exact Nat.le_refl _ | with_reducible apply le_pl | with_reducible apply le_ext | with_reducible apply le_al))) _)))).mono ?_
  rintro e w1 ⟨A, c, rfl, o1, g1⟩
  have hb1 : w1.cell? ⟨w.heap.size, 0, none⟩ = some (.slice a n cap) := (g1.cell (p := ⟨w.heap.size, 0, none⟩) (by simp; omega)).trans (by simp [go_sem])
  have O1 := Lib.hid (owns_grew H0.out g1)
  have G1 := Lib.hid (show Grew w w1 from grew_tr (grew_al (grew_al (Below.refl _ _) _) _) g1)
  obtain ⟨L, hL⟩ : ∃ L, r proc = L := ⟨_, rfl⟩
  rw [hL] at o1 HLP
  rw [hL]
  have HLQ := Lib.hid hL
  have HRO := Lib.hid (show w1.ownsRow (w.heap.size + 1 + 1) 3 1 (.slice A L.length c) L.length (ints .i64 L) from owns_mono o1 (by simp))
  have hLl := HLP.out.len
  have hL9 : L.length ≤ 9223372036854775807 := by omega
  have lb1 : w.heap.size + 1 < w1.heap.size := Nat.lt_of_lt_of_le (by simp) g1.size
  have HB1 := Lib.hid hb1
  clear hL o1 g1 H0 hb1
  go_wp2
  go_loopw [5, 7] (fun v i wr => ∃ k : Nat, k ≤ L.length ∧ i = .int .i64 k ∧ Chg (fun b => b = w.heap.size + 1) w1 wr ∧ (∀ b, v.ownBlock = some b → b = w.heap.size + 1 ∨ w1.heap.size ≤ b) ∧ wr.ownsRow w.heap.size 3 1 v ((L.take k).filter fun o => decide (proc ∈ r o)).length (ints .i64 ((L.take k).filter fun o => decide (proc ∈ r o)))) (fun _ i _ => L.length - (Go.RowKit.intOf i).toNat)
  case atStart => exact ⟨0, Nat.zero_le _, rfl, Chg.refl _ _, fun b hb => .inl (by simp only [Value.ownBlock, Option.some.injEq] at hb; omega), O1.out⟩
  case round =>
    clear O1
    obtain ⟨k, hk, rfl, hc, hv, ho⟩ := hrel
    obtain ⟨oa, oc, rfl⟩ := owns_slice ho
    have hfl : ((L.take k).filter fun o => decide (proc ∈ r o)).length ≤ n := Nat.le_trans (List.length_filter_le _ _) (Nat.le_trans (List.length_take_le' _ _) hLl)
    have hb0 : wr.cell? ⟨w.heap.size, 0, none⟩ = some (.slice a n cap) := (World.cell?_of_block (w := w1) (w' := wr) (a := ⟨w.heap.size, 0, none⟩) (hc.block w.heap.size (by omega) (by omega))).trans HB1.out
    have gw : Grew w wr := G1.out.trans ⟨hc.os, hc.tape, hc.output, hc.size, fun k hk => hc.block k (by omega) (by omega)⟩
    by_cases hlt : k < L.length
    · have hro := owns_chg HRO.out hc (fun b hb e => by have := (HRO.out.lt b hb).1; omega)
      obtain ⟨b, off, x, rfl, hx, hcell⟩ := (owns_rd hro).at1 hlt
      have hxb := HLP.out.b x (List.mem_of_getElem? hx)
      have HPX := Lib.hid (HPL.out x hxb)
      have C := Lib.hid (HC2.out x hxb)
      have hft : Hid ((L.take (k + 1)).filter (fun o => decide (proc ∈ r o)) = (L.take k).filter (fun o => decide (proc ∈ r o)) ++ if proc ∈ r x then [x] else []) := Lib.hid (by
        rw [take_get hx, List.filter_append]
        congr 1
        by_cases h : proc ∈ r x <;> simp [h])
      obtain ⟨X, hX⟩ : ∃ X, r x = X := ⟨_, rfl⟩
      rw [hX] at HPX C hft
      have hXl := HPX.out.len
      have HSG : Hid (∀ W, Grew wr W → W.cell? ⟨w.heap.size, 0, none⟩ = some (.slice a n cap) ∧ W.cell? ⟨b, off + k, none⟩ = some (.int .i64 x)) := Lib.hid (fun W g => ⟨(g.cell (p := ⟨w.heap.size, 0, none⟩) (World.block_lt_of_cell? wr _ hb0)).trans hb0, (g.cell (p := ⟨b, off + k, none⟩) (World.block_lt_of_cell? wr _ hcell)).trans hcell⟩)
      have HG := Lib.hid gw
      have HCH := Lib.hid hc
      have HV := Lib.hid hv
      have HO := Lib.hid ho
      clear hX hro hx gw hc hv ho
      cases hin : decide (proc ∈ X)
      · have HIN := Lib.hid hin
        have HF := hft.out
        rw [if_neg (of_decide_eq_false hin), List.append_nil] at HF
        have HF := Lib.hid HF
        clear hin hft
        go_wp2_with fail
        go_region_held3 (fun W => W.cell? ⟨w.heap.size, 0, none⟩ = some (.slice a n cap) ∧ W.cell? ⟨b, off + k, none⟩ = some (.int .i64 x)) (with_reducible (first | assumption | exact HSG.out _ (grew_d (Below.refl _ _))))
          (first
          | (go_at_call 27; (with_reducible refine (C.out _ (grew_tr HG.out (grew_d (Below.refl _ _)))).mono ?_); rintro e w5 ⟨A5, c5, rfl, o5, g5⟩; have t5 := HSG.out _ (grew_tr (grew_d (Below.refl _ _)) g5); have R5 := Lib.hid (owns_rd o5); have G5 := Lib.hid (grew_tr (grew_d (Below.refl _ _)) g5); clear o5 g5)
          | (go_at_call 49; refine (l6Has A5 X.length c5 X proc w5 R5.out (by omega)).mono ?_; rintro e w6 ⟨rfl, rfl⟩; rw [HIN.out]))
        have HO5 := Lib.hid (owns_grew HO.out G5.out)
        have HC5 := Lib.hid (HCH.out.trans (Chg.of_below (F := fun b => b = w.heap.size + 1) G5.out) (fun _ _ e => e) (fun _ _ e => e))
        clear t5 HSG hb0 hcell
        go_wp2
        go_roundw
        case rel => exact ⟨k + 1, by omega, by go_num, HC5.out, HV.out, by rw [HF.out]; exact HO5.out⟩
        case measure => simp [Go.RowKit.intOf]; omega
      · have HIN := Lib.hid hin
        have HF := hft.out
        rw [if_pos (of_decide_eq_true hin)] at HF
        have HF := Lib.hid HF
        clear hin hft
        go_wp2_with fail
        go_region_held3 (fun W => W.cell? ⟨w.heap.size, 0, none⟩ = some (.slice a n cap) ∧ W.cell? ⟨b, off + k, none⟩ = some (.int .i64 x)) (with_reducible (first | assumption | exact HSG.out _ (grew_d (Below.refl _ _))))
          (first
          | (go_at_call 27; (with_reducible refine (C.out _ (grew_tr HG.out (grew_d (Below.refl _ _)))).mono ?_); rintro e w5 ⟨A5, c5, rfl, o5, g5⟩; have t5 := HSG.out _ (grew_tr (grew_d (Below.refl _ _)) g5); have R5 := Lib.hid (owns_rd o5); have G5 := Lib.hid (grew_tr (grew_d (Below.refl _ _)) g5); clear o5 g5)
          | (go_at_call 49; refine (l6Has A5 X.length c5 X proc w5 R5.out (by omega)).mono ?_; rintro e w6 ⟨rfl, rfl⟩; rw [HIN.out]))
        have ho5 := owns_grew HO.out G5.out
        obtain ⟨v7, w7, hr7, o7, g7, hv7⟩ := owns_append_lit (P := Tryz.prog) w5 intEl ho5 1 [.int .i64 x] rfl (by simp [Value.oneCell']) (by omega) (by omega) (Nat.le_trans HG.out.size G5.out.size)
        have c7 := Chg.of_grownBy g7
        have HC7 := Lib.hid (show Chg (fun b => b = w.heap.size + 1) w1 w7 from (HCH.out.trans (Chg.of_below (F := fun b => b = w.heap.size + 1) G5.out) (fun _ _ e => e) (fun _ _ e => e)).trans c7 (fun _ _ e => e) (fun i hi e => by rcases HV.out i e with h | h <;> omega))
        have HV7 := Lib.hid (show ∀ b, v7.ownBlock = some b → b = w.heap.size + 1 ∨ w1.heap.size ≤ b from fun b hb => by
          rcases hv7 with h | h
          · exact HV.out b (by rw [← h]; exact hb)
          · rw [h, Option.some.injEq] at hb
            have h1 := HCH.out.size
            have h2 := G5.out.size
            omega)
        obtain ⟨a7, c7', rfl⟩ := owns_slice o7
        have HO7 := Lib.hid o7
        have R7 := Lib.hid hr7
        have q5 := t5.2
        clear t5 HSG hb0 hcell o7 g7 hr7 hv7 c7 ho5
        go_wp2_with (at_builtin; refine wpList_append_run rfl _ _ rfl rfl rfl rfl R7.out ?_)
        go_roundw
        case rel => exact ⟨k + 1, by omega, by go_num, HC7.out, HV7.out, by rw [HF.out, ints_append, List.length_append]; exact HO7.out⟩
        case measure => simp [Go.RowKit.intOf]; omega
    · obtain rfl : k = L.length := by omega
      rw [List.take_length] at ho ⊢
      have HO := Lib.hid ho
      have HG := Lib.hid gw
      clear ho gw hc hv hb0
      go_wp2
      go_ret
      rw [HLQ.out]
      exact ⟨oa, oc, rfl, HO.out, HG.out⟩
end Go.Proofs.YtnjoofpllhbccaaGreat
